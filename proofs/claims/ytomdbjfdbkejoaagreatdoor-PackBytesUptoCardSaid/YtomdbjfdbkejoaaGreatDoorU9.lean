/- A part of the proof, joined of several texts: the verification layer, contracts of functions, plain law. -/
import Derived.Test.YtomdbjfdbkejoaaGreatDoorU8
set_option maxHeartbeats 64000000
set_option linter.unusedSimpArgs false
set_option linter.unusedVariables false
set_option linter.unusedSectionVars false
open Go.V.Nx renaming go→Zd
open Go.V.Bk renaming go→Ae
open Go.Value renaming int→Yd
open Go.V.Upd renaming now→Ce,go→Oe,leave→Xf,shareRow→Jf,finL→De
open List renaming length_map→Be,reduceReplicate→He,getElem_map→Le,toList_toArray→Ye,getElem_mem→Me,length_append→Ve,getElem?_eq_getElem→Xe,map_append→Ke,replicate→Fe,getD_eq_getElem?_getD→Fg,nil_append→Af,range→Hg,replicate_zero→Wh,length_singleton→Bg,eq_nil_of_length_eq_zero→Df,mem_singleton→Vg,replicate_one→Zh,append_nil→Bf,sum_append→Ai,take→Hf,mem_append_left→Bi,take_succ_eq_append_getElem→Re,mem_cons_self→Jh,range_succ→Sf,flatMap_append→Ig,append_assoc→Uf,drop_of_length_le→Gf,take_zero→Se,mem_append→Ug,take_length→Te,mem_cons_of_mem→Oh,length_take→Ge
open Go.V.Row renaming obj→Ie
open Go.V.Tri renaming drawS→Wg,run→Yg,live→Ch,isPiece→Ah,piece→Xg,loopU→Je,drawH→Vf
open Go.V.FnT renaming body→Ee,upd→Th,leave→Uh,sep→Zf
open Int renaming toNat_natCast→Yf
open Nat renaming lt_or_ge→Eg,le_refl→Qe,sub_self→Og,mul_one→Gg,mul_le_mul→Yh,zero_le→Pg,succ_mul→Bh,add_sub_cancel→Kh
open Option renaming map_some→Vh,map_none→Xh
open Classical renaming byContradiction→Zg
namespace Go.Proofs.YtomdbjfdbkejoaaGreatDoor
abbrev zyL:List Nat:=[0,1,4,5]
abbrev ziP:List Nat:=[0,1,4,5,6,7,37]
abbrev zkh:List Nat:=[0,1,4,5,6,7,8,10,34,71,72,73,74]
abbrev zrZ:List Nat:=[0,1,2,14]
abbrev zyM:List Nat:=[0,2,3,4]
abbrev zvI:List Nat:=[0,1,2,3,4,8,27]
abbrev zd5:List Nat:=[0,1,2,6,8,9,11,13,14,15,18,19,20,21,37,38,39,40,57,72,73,74,75,82,86,87,88]
abbrev ziQ:List Nat:=[0,1,2,3,4,5,6,9,16,17,18,21,22,23,36]
open Go Go.V Go.Proofs
theorem ztK {α:Type} [DecidableEq α] {l:List α} {v:Nat} (h:v< (zl l).length): ∃t,∃ht:t<l.length,(zd l)[t]'(by rw[zt];exact ht)=(v:Int):=by
 have hm:(zl l)[v]∈l:=(zK l).1 (Me h);obtain⟨t,ht,e⟩:=List.getElem_of_mem hm;refine⟨t,ht,?_⟩;rw[zbK ht,e,zB (zdh (zcR l) h)]
def blF (l:List Int) (i:Nat):Nat:=((zd l).getD i 0).toNat
theorem zhh {l:List Int} {i:Nat} (h:i<l.length):(zd l)[i]'(by rw[zt];exact h)=(blF l i:Int):=by
 have hl:i< (zd l).length:=by rw[zt];exact h
 unfold blF;rw[Fg,Xe hl];have:=za9 (Me hl);show _=(((zd l)[i]).toNat:Int);omega
theorem zqv {l:List Int} {i j:Nat} (hi:i<l.length) (hj:j<l.length):blF l i=blF l j↔l[i]=l[j]:=by
 rw[←zdY hi hj,zhh hi,zhh hj];omega
theorem zxN (l:List Int):(zd l).map (Yd .i64)=zk l.length (blF l):=by
 have:=zxK (l:=zd l) (f:=blF l) fun i hi=>zhh (by rw[zt] at hi;exact hi);rw[zt] at this;exact this
theorem zvJ {l:List Int} {s v:Nat} (hs:s<l.length) (h:v≤blF l s): ∃t,t<l.length∧blF l t=v:=by
 have hb:=za9 (l:=l) (n:=(zd l)[s]'(by rw[zt];exact hs)) (Me _);rw[zhh hs] at hb;obtain⟨t,ht,e⟩:=ztK (l:=l) (v:=v) Ko;refine⟨t,ht,?_⟩;rw[zhh ht] at e;omega
theorem ztL {l:List Int} {s:Nat} (hs:s<l.length):blF l s<l.length:=by
 have hb:=za9 (l:=l) (n:=(zd l)[s]'(by rw[zt];exact hs)) (Me _);rw[zhh hs] at hb;have:=zZ l;omega
structure SpI (bf f:Nat→Nat) (i nb:Nat) (fr to pl:Nat→Nat):Prop where
 pl: ∀j,j<i→pl (f j)=j
 nb0:i=0→nb=0
 nb1:0<i→nb=bf (f (i - 1))+1
 span: ∀b,b<nb→fr b<to b∧to b≤i∧ ∀j,fr b≤j→j<to b→bf (f j)=b
 each: ∀j,j<i→bf (f j) <nb∧fr (bf (f j))≤j∧j<to (bf (f j))
theorem SpI.zero (bf f fr to pl:Nat→Nat):SpI bf f 0 0 fr to pl:=⟨fun j h=>by omega,fun _=>rfl,fun h=>by omega,fun b h=>by omega,fun j h=>by omega⟩
theorem SpI.next {bf f fr to pl:Nat→Nat} {n i nb:Nat} (h:SpI bf f i nb fr to pl) (hs:zS (fun s=>(bf s:Int)) f 0 n) (hi:i<n) (ho: ∀j v,j<n→v≤bf (f j)→ ∃t,t<n∧bf (f t)=v):bf (f i)≤nb∧nb≤bf (f i)+1:=by
 have Td: ∀x y,x≤y→y<n→bf (f x)≤bf (f y):=fun x y h1 h2=>by
  have:=hs.le (Pg x) h1 h2;omega
 rcases Nat.eq_zero_or_pos i with e|e
 ·rw[h.nb0 e];obtain⟨t,h1,h2⟩:=ho i 0 hi (Pg _);have:=Td i t Ko h1;omega
 ·rw[h.nb1 e];refine⟨?_,?_⟩
  ·apply Zg;intro hn;obtain⟨t,h1,h2⟩:=ho i (bf (f (i - 1))+1) hi Ko;rcases Eg t i with g|g
   ·have:=Td t (i - 1) Ko Ko;omega
   ·have:=Td i t g h1;omega
  ·have:=Td (i - 1) i Ko hi;omega
theorem SpI.new {bf f fr to pl:Nat→Nat} {n i nb:Nat} (h:SpI bf f i nb fr to pl) (Bd: ∀x y,x<n→y<n→f x=f y→x=y) (hi:i<n) (he:bf (f i)=nb):SpI bf f (i+1) (nb+1) (zn fr nb i) (zn (zn to nb i) nb (i+1)) (zn pl (f i) i):=by
 refine⟨fun j hj=>?_,fun h=>by omega,fun _=>by rw[Kh,he],fun b hb=>?_,fun j hj=>?_⟩
 ·unfold zn;by_cases e:f j=f i
  ·rw[if_pos e];exact(Bd j i Ko hi e).symm
  ·rw[if_neg e];refine h.pl j ?_;rcases Eg j i with g|g
   ·exact g
   ·exact absurd (by rw[show j=i by omega]) e
 ·unfold zn;by_cases e:b=nb
  ·rw[if_pos e,if_pos e];exact⟨by omega,Qe _,fun j h1 h2=>by rw[show j=i by omega,he,e]⟩
  ·rw[if_neg e,if_neg e,if_neg e];obtain⟨a1,a2,a3⟩:=h.span b Ko;exact⟨a1,by omega,a3⟩
 ·rcases Eg j i with g|g
  ·obtain⟨a1,a2,a3⟩:=h.each j g;unfold zn;rw[if_neg Ko,if_neg Ko,if_neg Ko];exact⟨by omega,a2,a3⟩
  ·obtain rfl:j=i:=by omega
   rw[he];unfold zn;rw[if_pos rfl,if_pos rfl];omega
theorem SpI.old {bf f fr to pl:Nat→Nat} {n i nb:Nat} (h:SpI bf f i nb fr to pl) (Bd: ∀x y,x<n→y<n→f x=f y→x=y) (hi:i<n) (he:bf (f i)+1=nb):SpI bf f (i+1) nb fr (zn to (bf (f i)) (to (bf (f i))+1)) (zn pl (f i) i)∧to (bf (f i))=i:=by
 have O7:0<i:=by
  rcases Nat.eq_zero_or_pos i with e|e
  ·have:=h.nb0 e;omega
  ·exact e
 have hc:=h.nb1 O7;have T2:bf (f (i - 1))=bf (f i):=by omega
 obtain⟨a1,a2,a3⟩:=h.each (i - 1) Ko;rw[T2] at a1 a2 a3;obtain⟨b1,b2,b3⟩:=h.span (bf (f i)) a1;have hto:to (bf (f i))=i:=by omega
 refine⟨⟨fun j hj=>?_,fun h=>by omega,fun _=>by rw[Kh];exact he.symm,fun b hb=>?_,fun j hj=>?_⟩,hto⟩
 ·unfold zn;by_cases e:f j=f i
  ·rw[if_pos e];exact(Bd j i Ko hi e).symm
  ·rw[if_neg e];refine h.pl j ?_;rcases Eg j i with g|g
   ·exact g
   ·exact absurd (by rw[show j=i by omega]) e
 ·unfold zn;by_cases e:b=bf (f i)
  ·rw[if_pos e,e,hto];refine⟨by omega,Qe _,fun j h1 h2=>?_⟩;rcases Eg j i with g|g
   ·exact b3 j h1 Ko
   ·rw[show j=i by omega]
  ·rw[if_neg e];obtain⟨a1,a2,a3⟩:=h.span b hb;exact⟨a1,by omega,a3⟩
 ·rcases Eg j i with g|g
  ·obtain⟨a1,a2,a3⟩:=h.each j g;refine⟨a1,a2,?_⟩;unfold zn;split <;> rename_i e
   ·rw[e] at a3;omega
   ·exact a3
  ·obtain rfl:j=i:=by omega
   unfold zn;rw[if_pos rfl];omega
theorem SpI.done {bf f fr to pl:Nat→Nat} {n nb:Nat} (h:SpI bf f n nb fr to pl) (hf:zkb n f):PInv n nb f pl bf fr to fun _=>0:=by
 obtain⟨p,h1,h2⟩:=hf
 have J3: ∀s,s<n→pl s=p s:=fun s hs=>by
  have:=h.pl (p s) (h2 s hs).1;rw[(h2 s hs).2] at this;exact this
 refine⟨fun i hi=>(h1 i hi).1,fun s hs=>by rw[J3 s hs];exact(h2 s hs).1,fun i hi=>h.pl i hi,fun s hs=>by rw[J3 s hs];exact(h2 s hs).2,fun s hs=>?_,fun s hs=>?_,fun s hs=>?_,fun b hb=>(h.span b hb).1,fun b hb=>(h.span b hb).2.1,fun b hb=>?_,fun b i hb g1 g2=>(h.span b hb).2.2 i g1 g2⟩
 ·have:=(h.each (p s) (h2 s hs).1).1;rw[(h2 s hs).2] at this;exact this
 ·have:=(h.each (p s) (h2 s hs).1).2.1;rw[(h2 s hs).2] at this;rw[J3 s hs];exact this
 ·have:=(h.each (p s) (h2 s hs).1).2.2;rw[(h2 s hs).2] at this;rw[J3 s hs];exact this
 ·have:=(h.span b hb).1;omega
theorem zzZ {n:Nat} (hn:n≤2000000) {bq bp bs:Nat} {W:Int} {v1 va vb vsp vk vw vm:Value} {G:zb} {H:za}:
  Tri Tryz.prog Tryz.f103.ntmps (piece [1,1,1,0] Tryz.f103) G [(1,v1),(3, .int .i64 (n:Nat)),(4, .pointer (some ⟨bq,0,none⟩))] ((bq, .cells [.pointer (some ⟨bp,0,none⟩)] [] 129):: (bp, .cells (PC (.slice (some ⟨bs,0,none⟩) n n) va vb vsp vk vw vm W) [] 135):: (bs, .cells (zk n fun _=>0) [] 3)::H) (onlyN fun G' l H'=>
   G'=G∧zy [1,3,4] l=[(1,v1),(3, .int .i64 (n:Nat)),(4, .pointer (some ⟨bq,0,none⟩))]∧H'=(bq, .cells [.pointer (some ⟨bp,0,none⟩)] [] 129):: (bp, .cells (PC (.slice (some ⟨bs,0,none⟩) n n) va vb vsp vk vw vm W) [] 135):: (bs, .cells (zk n fun i=>i) [] 3)::H):=by
 refine Tri.sepT fun M1=>?_;have hE:=M1;try simp only[zzs] at hE
 repeat(obtain⟨J0,hE⟩:=hE)
 refine Xg (f:=Tryz.f103) rfl ?_;refine Yg tok zbS Kk ?_
 repeat' first
  |with_reducible first|refine Zd ?_ |refine Ae (fun _=>?_) fun _=>?_ |refine Nb fun nb A0 C0 B0=>?_ |refine Nr fun nb D0 E0 A0 I0 C0 B0=>?_
  |simp -dsimp -implicitDefEqProofs (disch:=first|exact Kd|fail) only[go_sem,↓reduceIte,seval]
 refine Je tok zbS Kk [1,3,4,27,28] (fun q G' fr H'=> ∃s:Nat,s+q=n∧G'=G∧H'=(bq, .cells [.pointer (some ⟨bp,0,none⟩)] [] 129):: (bp, .cells (PC (.slice (some ⟨bs,0,none⟩) n n) va vb vsp vk vw vm W) [] 135):: (bs, .cells (zk n fun j=>if j<s then j else 0) [] 3)::H∧fr=[(1,v1),(3, .int .i64 (n:Nat)),(4, .pointer (some ⟨bq,0,none⟩)),(27, .int .i64 (n:Nat)),(28, .int .i64 (s:Nat))]) (n) ?_ ?_
 ·exact Ce ⟨0,by omega,rfl,by rw[zet (f:=fun j=>if j<0 then j else 0) (g:=fun _=>0) fun i _=>if_neg Ko],rfl⟩
 ·rintro q G1 fr H1 S0 V0 ⟨s,hsq,rfl,rfl,rfl⟩;have hE:=V0;try simp only[zzs] at hE
  repeat(obtain⟨J0,hE⟩:=hE)
  by_cases I1:s<n
  ·have hp:=zbk (fun j=>if j<s then j else 0) I1 s
   have he:zk n (zn (fun j=>if j<s then j else 0) s s)=zk n fun j=>if j<s+1 then j else 0:=zet fun i _=>by
    unfold zn;by_cases e:i=s
    ·rw[if_pos e,if_pos Ko,e]
    ·rw[if_neg e];show(if i<s then i else 0)=_;by_cases e2:i<s
     ·rw[if_pos e2,if_pos Ko]
     ·rw[if_neg e2,if_neg Ko]
   rw[he] at hp
   repeat' first
    |with_reducible first|refine Zd ?_ |refine Ae (fun _=>?_) fun _=>?_ |refine Nb fun nb A0 C0 B0=>?_ |refine Nr fun nb D0 E0 A0 I0 C0 B0=>?_
    |simp -dsimp -implicitDefEqProofs (disch:=first|exact Kd|fail) only[go_sem,↓reduceIte,seval,hp]
   exact Ce ⟨q - 1,by omega,s+1,by omega,rfl,rfl,rfl⟩
  ·obtain rfl:s=n:=by omega
   rw[zet (f:=fun j=>if j<s then j else 0) (g:=fun i=>i) fun i hi=>if_pos hi] at V0⊢
   repeat' first
    |with_reducible first|refine Zd ?_ |refine Ae (fun _=>?_) fun _=>?_ |refine Nb fun nb A0 C0 B0=>?_ |refine Nr fun nb D0 E0 A0 I0 C0 B0=>?_
    |simp -dsimp -implicitDefEqProofs (disch:=first|exact Kd|fail) only[go_sem,↓reduceIte,seval]
   exact Ce ⟨rfl,rfl,rfl⟩
theorem zz0 {n:Nat} (hn:n≤2000000) {bq bp bl cb:Nat} {spb:List Value} {W:Int} {vs va vsp vk vw vm:Value} {bf:Nat→Nat} (R2: ∀s,s<n→bf s<2000000) {sp:List Value} {bs:Nat} {G:zb} {H:za} (M0:Sep G (zm ((bs,Res.cells [] [] 3):: (bq,Res.cells [.pointer (some ⟨bp,0,none⟩)] [] 129):: (bp,Res.cells (PC vs va (.slice (some ⟨bl,0,none⟩) n cb) vsp vk vw vm W) [] 135):: (bl,Res.cells (zk n bf) spb 3)::H))):zd4 Tryz.prog 132 (.pointer (some ⟨bq,0,none⟩)) (fun s=>(bf s:Int)) n bs sp G ((bq, .cells [.pointer (some ⟨bp,0,none⟩)] [] 129):: (bp, .cells (PC vs va (.slice (some ⟨bl,0,none⟩) n cb) vsp vk vw vm W) [] 135):: (bl, .cells (zk n bf) spb 3)::H):=by
 intro x y g R hx hy hR;have hE:=M0;try simp only[zzs] at hE
 repeat(obtain⟨J0,hE⟩:=hE)
 have hgx:=zaW bf (sp:=spb) hx;have hgy:=zaW bf (sp:=spb) hy;have hbx:=R2 x hx;have hby:=R2 y hy;refine Ee tok zrJ Tryz.func132 rfl Kk Kk Kn fun M0=>?_;rw[Tryz.results132];have hE:=M0;try simp only[zzs] at hE
 repeat(obtain⟨J0,hE⟩:=hE)
 repeat' first
  |with_reducible first|refine Zd ?_ |refine Ae (fun _=>?_) fun _=>?_
  |simp -dsimp -implicitDefEqProofs (disch:=first|exact Kd|fail) only[go_sem,↓reduceIte,seval,hgx,hgy]
  |with_reducible refine Tri.drawM tok mixed zrJ 1 [0,3,6,7,10,13] (.op 0 .held (.op 1 .plain (.op 2 .plain (.op 3 .held (.op 4 .plain (.op 5 .plain (.op 6 .held (.op 7 .held (.op 8 .plain (.op 9 .plain (.op 10 .held (.op 11 .plain (.op 12 .plain (.op 13 .held (.op 14 .plain (.op 15 .plain .nil)))))))))))))))) Kk _ (List.Sublist.refl _) ?_
 all_goals refine De ?_ hR ?_
 any_goals first|exact Ks|skip
 rfl
set_option maxRecDepth 4000 in
theorem zz1 {n:Nat} (hn:n≤2000000) {bq bp bs ba bl cb:Nat} {spb:List Value} {W:Int} {v1 vk vw vm:Value} {bf f:Nat→Nat} (hf:zkb n f) (hs:zS (fun s=>(bf s:Int)) f 0 n) (O9: ∀s,s<n→bf s<n) (ho: ∀j v,j<n→v≤bf (f j)→ ∃t,t<n∧bf (f t)=v) {G:zb} {H:za}:
  Tri Tryz.prog Tryz.f103.ntmps (piece [1,1,1,1,1,0] Tryz.f103) G [(1,v1),(3, .int .i64 (n:Nat)),(4, .pointer (some ⟨bq,0,none⟩))] ((bq, .cells [.pointer (some ⟨bp,0,none⟩)] [] 129):: (bp, .cells (PC (.slice (some ⟨bs,0,none⟩) n n) (.slice (some ⟨ba,0,none⟩) n n) (.slice (some ⟨bl,0,none⟩) n cb) (.slice none 0 0) vk vw vm W) [] 135):: (bs, .cells (zk n f) [] 3):: (ba, .cells (zk n fun _=>0) [] 3):: (bl, .cells (zk n bf) spb 3)::H) (onlyN fun G' l H'=>
   ∃w fr to pl vsp ks,PInv n w f pl bf fr to (fun _=>0)∧zO [] 159 3 vsp w (zF w fr to fun _=>0) ks∧G'=G∧zy [1,3,4] l=[(1,v1),(3, .int .i64 (n:Nat)),(4, .pointer (some ⟨bq,0,none⟩))]∧H'=(bq, .cells [.pointer (some ⟨bp,0,none⟩)] [] 129):: (bp, .cells (PC (.slice (some ⟨bs,0,none⟩) n n) (.slice (some ⟨ba,0,none⟩) n n) (.slice (some ⟨bl,0,none⟩) n cb) vsp vk vw vm W) [] 135):: (bs, .cells (zk n f) [] 3):: (ba, .cells (zk n pl) [] 3):: (bl, .cells (zk n bf) spb 3):: (ks++H)):=by
 have Bd: ∀x y,x<n→y<n→f x=f y→x=y:=fun x y h1 h2 e=>by
  obtain⟨p,g1,g2⟩:=hf;rw[←(g1 x h1).2,e,(g1 y h2).2]
 have hflt: ∀x,x<n→f x<n:=fun x hx=>by
  obtain⟨p,g1,g2⟩:=hf;exact(g1 x hx).1
 refine Tri.sepT fun M1=>?_;have hE:=M1;try simp only[zzs] at hE
 repeat(obtain⟨J0,hE⟩:=hE)
 refine Xg (f:=Tryz.f103) rfl ?_;refine Yg tok zbS Kk ?_
 repeat' first
  |with_reducible first|refine Zd ?_ |refine Ae (fun _=>?_) fun _=>?_ |refine Nb fun nb A0 C0 B0=>?_ |refine Nr fun nb D0 E0 A0 I0 C0 B0=>?_
  |simp -dsimp -implicitDefEqProofs (disch:=first|exact Kd|fail) only[go_sem,↓reduceIte,seval]
 refine Je tok zbS Kk [1,3,4,48,49,50] (fun q G' fr' H'=> ∃ (i w:Nat) (fr to pl:Nat→Nat) (vsp:Value) (ks:za),i+q=n∧SpI bf f i w fr to pl∧zO [] 159 3 vsp w (zF w fr to fun _=>0) ks∧G'=G∧H'=(bq, .cells [.pointer (some ⟨bp,0,none⟩)] [] 129):: (bp, .cells (PC (.slice (some ⟨bs,0,none⟩) n n) (.slice (some ⟨ba,0,none⟩) n n) (.slice (some ⟨bl,0,none⟩) n cb) vsp vk vw vm W) [] 135):: (bs, .cells (zk n f) [] 3):: (ba, .cells (zk n pl) [] 3):: (bl, .cells (zk n bf) spb 3):: (ks++H)∧fr'=[(1,v1),(3, .int .i64 (n:Nat)),(4, .pointer (some ⟨bq,0,none⟩)),(48, .slice (some ⟨bs,0,none⟩) n n),(49, .int .i64 (n:Nat)),(50, .int .i64 (i:Nat))]) (n) ?_ ?_
 ·exact Ce ⟨0,0,fun _=>0,fun _=>0,fun _=>0, .slice none 0 0,[],by omega,SpI.zero _ _ _ _ _, .inl ⟨none,rfl,rfl,rfl,rfl⟩,rfl,rfl,rfl⟩
 ·rintro q G1 fr' H1 S0 V0 ⟨i,w,fr,to,pl,vsp,ks,Q5,hI,hks,rfl,rfl,rfl⟩;by_cases T1:i<n
  ·have Z2:=zdD f T1;have hfi:=hflt i T1;have hp:=zbk pl hfi i;have hgb:=zaW bf (sp:=spb) hfi;obtain⟨hn1,Q4⟩:=hI.next hs T1 ho;have hbn:=O9 (f i) hfi;by_cases W4:bf (f i)=w
   ·have hN:=hI.new Bd T1 W4
    have hg5:(zF (w+1) (zn fr w i) (zn to w i) (zn (fun _=>0) w 0))[w * 3+1]? =some (.int .i64 (i:Nat)):=by
     have:=zhg (n:=w+1) (fr:=zn fr w i) (to:=zn to w i) (mk:=zn (fun _=>0) w 0) (sp:=[]) (i:=w) Ko;rw[Bf,zbu] at this;exact this
    have Pa:zn (fun _=>0) w 0=fun _=>0:=by funext x;unfold zn;split <;> rfl
    have I1:=zmw w fr to (fun _=>0) i i 0;have T7:=ztI (n:=w+1) (fr:=zn fr w i) (to:=zn to w i) (mk:=fun _=>0) (i:=w) Ko (i+1);have hg5':=fun sp=>zhg (n:=w+1) (fr:=zn fr w i) (to:=zn to w i) (mk:=fun _=>0) (sp:=sp) (i:=w) Ko;simp only[zbu] at hg5';rw[Pa] at I1;have ei:(i:Int)+1=((i+1 :Nat):Int):=rfl;rcases hks with ⟨aa,rfl,h0,hx,rfl⟩| ⟨bsp,csp,ssp,rfl,rfl,hx,hc⟩
    ·subst h0;rw[show zF 0 fr to (fun _=>0)=[] from rfl,Af] at I1;have hE:=V0;try simp only[zzs] at hE
     repeat(obtain⟨J0,hE⟩:=hE)
     repeat' first
      |with_reducible first|refine Zd ?_ |refine Ae (fun _=>?_) fun _=>?_ |refine Nb fun nb A0 C0 B0=>?_ |refine Nr fun nb D0 E0 A0 I0 C0 B0=>?_
      |simp -dsimp -implicitDefEqProofs (disch:=first|exact Kd|fail) only[go_sem,↓reduceIte,seval,Z2,hp,hgb,W4]
      |with_reducible refine Wg tok mixed zbS 15 [0,1,4] (.op 0 .held (.op 1 .held (.op 2 .plain (.op 3 .plain (.op 4 .held (.op 5 .plain (.op 6 .plain (.op 7 .plain (.op 8 .keeps (.op 9 .keeps (.op 10 .plain (.op 11 .plain (.op 12 .plain .nil))))))))))))) Kk [(bq, .cells [.pointer (some ⟨bp,0,none⟩)] [] 129),(bp, .cells (PC (.slice (some ⟨bs,0,none⟩) n n) (.slice (some ⟨ba,0,none⟩) n n) (.slice (some ⟨bl,0,none⟩) n cb) (.slice aa 0 0) vk vw vm W) [] 135)] Ks ?_
     obtain⟨bx,ebx⟩: ∃x,x=nb:=⟨_,rfl⟩;subst ebx;have hsn':[Yd .i64 (i:Nat),Yd .i64 (i:Nat),Yd .i64 0]=zF 1 (zn fr 0 i) (zn to 0 i) fun _=>0:=I1;rw[hsn']
     repeat' first
      |with_reducible first|refine Zd ?_ |refine Ae (fun _=>?_) fun _=>?_ |refine Nb fun nb A0 C0 B0=>?_ |refine Nr fun nb D0 E0 A0 I0 C0 B0=>?_
      |simp -dsimp -implicitDefEqProofs (disch:=first|exact Kd|fail) only[go_sem,↓reduceIte,seval,hgb,W4,T7,hg5',ei]
      |with_reducible refine Wg tok mixed zbS 16 [0,3,4,7,10,13] (.op 0 .held (.op 1 .plain (.op 2 .plain (.op 3 .held (.op 4 .held (.op 5 .plain (.op 6 .plain (.op 7 .held (.op 8 .plain (.op 9 .plain (.op 10 .held (.op 11 .plain (.op 12 .plain (.op 13 .held (.op 14 .plain (.op 15 .plain (.op 16 .plain (.op 17 .plain .nil)))))))))))))))))) Kk [(bq, .cells [.pointer (some ⟨bp,0,none⟩)] [] 129),(bp, .cells (PC (.slice (some ⟨bs,0,none⟩) n n) (.slice (some ⟨ba,0,none⟩) n n) (.slice (some ⟨bl,0,none⟩) n cb) (.slice (some ⟨bx,0,none⟩) 1 E0) vk vw vm W) [] 135),(bl, .cells (zk n bf) spb 3),(bx, .cells (zF 1 (zn fr 0 i) (zn to 0 i) fun _=>0) D0 159)] Ks ?_
     refine Xf (H':=(bq, .cells [.pointer (some ⟨bp,0,none⟩)] [] 129):: (bp, .cells (PC (.slice (some ⟨bs,0,none⟩) n n) (.slice (some ⟨ba,0,none⟩) n n) (.slice (some ⟨bl,0,none⟩) n cb) (.slice (some ⟨bx,0,none⟩) 1 E0) vk vw vm W) [] 135):: (bs, .cells (zk n f) [] 3):: (ba, .cells (zk n (zn pl (f i) i)) [] 3):: (bl, .cells (zk n bf) spb 3):: ([(bx, .cells (zF 1 (zn fr 0 i) (zn (zn to 0 i) 0 (i+1)) fun _=>0) D0 159)]++H)) Ks ?_;exact⟨q - 1,by omega,i+1,1,_,_,_,_,_,by omega,hN, .inr ⟨bx,E0,D0,rfl,rfl,by rw[zbr],by rw[zbr];simp at I0;omega⟩,rfl,rfl,rfl⟩
    ·have hE:=V0;try simp only[zzs] at hE
     repeat(obtain⟨J0,hE⟩:=hE)
     repeat' first
      |with_reducible first|refine Zd ?_ |refine Ae (fun _=>?_) fun _=>?_ |refine Nb fun nb A0 C0 B0=>?_ |refine Nr fun nb D0 E0 A0 I0 C0 B0=>?_
      |simp -dsimp -implicitDefEqProofs (disch:=first|exact Kd|fail) only[go_sem,↓reduceIte,seval,Z2,hp,hgb,W4]
      |with_reducible refine Wg tok mixed zbS 15 [0,1,4] (.op 0 .held (.op 1 .held (.op 2 .plain (.op 3 .plain (.op 4 .held (.op 5 .plain (.op 6 .plain (.op 7 .plain (.op 8 .keeps (.op 9 .keeps (.op 10 .plain (.op 11 .plain (.op 12 .plain .nil))))))))))))) Kk [(bq, .cells [.pointer (some ⟨bp,0,none⟩)] [] 129),(bp, .cells (PC (.slice (some ⟨bs,0,none⟩) n n) (.slice (some ⟨ba,0,none⟩) n n) (.slice (some ⟨bl,0,none⟩) n cb) (.slice (some ⟨bsp,0,none⟩) w csp) vk vw vm W) [] 135)] Ks ?_
     obtain⟨bx,ebx⟩: ∃x,x=nb:=⟨_,rfl⟩;subst ebx;have hsn':zF w fr to (fun _=>0)++[Yd .i64 (i:Nat),Yd .i64 (i:Nat),Yd .i64 0]=zF (w+1) (zn fr w i) (zn to w i) fun _=>0:=I1;rw[hsn']
     repeat' first
      |with_reducible first|refine Zd ?_ |refine Ae (fun _=>?_) fun _=>?_ |refine Nb fun nb A0 C0 B0=>?_ |refine Nr fun nb D0 E0 A0 I0 C0 B0=>?_
      |simp -dsimp -implicitDefEqProofs (disch:=first|exact Kd|fail) only[go_sem,↓reduceIte,seval,hgb,W4,T7,hg5',ei]
      |with_reducible refine Wg tok mixed zbS 16 [0,3,4,7,10,13] (.op 0 .held (.op 1 .plain (.op 2 .plain (.op 3 .held (.op 4 .held (.op 5 .plain (.op 6 .plain (.op 7 .held (.op 8 .plain (.op 9 .plain (.op 10 .held (.op 11 .plain (.op 12 .plain (.op 13 .held (.op 14 .plain (.op 15 .plain (.op 16 .plain (.op 17 .plain .nil)))))))))))))))))) Kk [(bq, .cells [.pointer (some ⟨bp,0,none⟩)] [] 129),(bp, .cells (PC (.slice (some ⟨bs,0,none⟩) n n) (.slice (some ⟨ba,0,none⟩) n n) (.slice (some ⟨bl,0,none⟩) n cb) (.slice (some ⟨bx,0,none⟩) (w+1) E0) vk vw vm W) [] 135),(bl, .cells (zk n bf) spb 3),(bx, .cells (zF (w+1) (zn fr w i) (zn to w i) fun _=>0) D0 159)] Ks ?_
     refine Xf (H':=(bq, .cells [.pointer (some ⟨bp,0,none⟩)] [] 129):: (bp, .cells (PC (.slice (some ⟨bs,0,none⟩) n n) (.slice (some ⟨ba,0,none⟩) n n) (.slice (some ⟨bl,0,none⟩) n cb) (.slice (some ⟨bx,0,none⟩) (w+1) E0) vk vw vm W) [] 135):: (bs, .cells (zk n f) [] 3):: (ba, .cells (zk n (zn pl (f i) i)) [] 3):: (bl, .cells (zk n bf) spb 3):: ([(bx, .cells (zF (w+1) (zn fr w i) (zn (zn to w i) w (i+1)) fun _=>0) D0 159)]++H)) Ks ?_;exact⟨q - 1,by omega,i+1,w+1,_,_,_,_,_,by omega,hN, .inr ⟨bx,E0,D0,rfl,rfl,by rw[zbr],by rw[zbr];omega⟩,rfl,rfl,rfl⟩
   ·have Eb:bf (f i)+1=w:=by omega
    obtain⟨hN,hto⟩:=hI.old Bd T1 Eb;rcases hks with ⟨aa,rfl,h0,hx,rfl⟩| ⟨bsp,csp,ssp,rfl,rfl,hx,hc⟩
    ·omega
    ·have J9:=zhg (n:=w) (fr:=fr) (to:=to) (mk:=fun _=>0) (sp:=ssp) (i:=bf (f i)) Ko;have T7:=ztI (n:=w) (fr:=fr) (to:=to) (mk:=fun _=>0) (i:=bf (f i)) Ko (to (bf (f i))+1);have ei:((to (bf (f i)):Nat):Int)+1=((to (bf (f i))+1 :Nat):Int):=rfl;have I4: ¬((bf (f i):Nat):Int)=((w:Nat):Int):=by omega
     have hE:=V0;try simp only[zzs] at hE
     repeat(obtain⟨J0,hE⟩:=hE)
     repeat' first
      |with_reducible first|refine Zd ?_ |refine Ae (fun _=>?_) fun _=>?_ |refine Nb fun nb A0 C0 B0=>?_ |refine Nr fun nb D0 E0 A0 I0 C0 B0=>?_
      |simp -dsimp -implicitDefEqProofs (disch:=first|exact Kd|fail) only[go_sem,↓reduceIte,seval,Z2,hp,hgb,T7,J9,ei]
      |with_reducible refine Wg tok mixed zbS 16 [0,3,4,7,10,13] (.op 0 .held (.op 1 .plain (.op 2 .plain (.op 3 .held (.op 4 .held (.op 5 .plain (.op 6 .plain (.op 7 .held (.op 8 .plain (.op 9 .plain (.op 10 .held (.op 11 .plain (.op 12 .plain (.op 13 .held (.op 14 .plain (.op 15 .plain (.op 16 .plain (.op 17 .plain .nil)))))))))))))))))) Kk [(bq, .cells [.pointer (some ⟨bp,0,none⟩)] [] 129),(bp, .cells (PC (.slice (some ⟨bs,0,none⟩) n n) (.slice (some ⟨ba,0,none⟩) n n) (.slice (some ⟨bl,0,none⟩) n cb) (.slice (some ⟨bsp,0,none⟩) w csp) vk vw vm W) [] 135),(bl, .cells (zk n bf) spb 3),(bsp, .cells (zF w fr to fun _=>0) ssp 159)] Ks ?_
     all_goals first| (exfalso;omega)|skip
     refine Xf (H':=(bq, .cells [.pointer (some ⟨bp,0,none⟩)] [] 129):: (bp, .cells (PC (.slice (some ⟨bs,0,none⟩) n n) (.slice (some ⟨ba,0,none⟩) n n) (.slice (some ⟨bl,0,none⟩) n cb) (.slice (some ⟨bsp,0,none⟩) w csp) vk vw vm W) [] 135):: (bs, .cells (zk n f) [] 3):: (ba, .cells (zk n (zn pl (f i) i)) [] 3):: (bl, .cells (zk n bf) spb 3):: ([(bsp, .cells (zF w fr (zn to (bf (f i)) (to (bf (f i))+1)) fun _=>0) ssp 159)]++H)) Ks ?_;exact⟨q - 1,by omega,i+1,w,_,_,_,_,_,by omega,hN, .inr ⟨bsp,csp,ssp,rfl,rfl,by rw[zbr],by rw[zbr] at hc⊢;exact hc⟩,rfl,rfl,rfl⟩
  ·obtain rfl:i=n:=by omega
   have hE:=V0;try simp only[zzs] at hE
   repeat(obtain⟨J0,hE⟩:=hE)
   repeat' first
    |with_reducible first|refine Zd ?_ |refine Ae (fun _=>?_) fun _=>?_ |refine Nb fun nb A0 C0 B0=>?_ |refine Nr fun nb D0 E0 A0 I0 C0 B0=>?_
    |simp -dsimp -implicitDefEqProofs (disch:=first|exact Kd|fail) only[go_sem,↓reduceIte,seval]
   exact Ce ⟨w,fr,to,pl,vsp,ks,hI.done hf,hks,rfl,rfl,rfl⟩
def dlF (d:DfaT) (k s:Nat):Nat:=((d.next.getD s []).getD k 0).toNat
theorem ziR {d:DfaT} (K0:zg d) {s k:Nat} (hs:s<d.next.length) (hk:(k:Int) <d.width): ∃h1:k< (d.next[s]).length,(d.next[s])[k]=(dlF d k s:Int)∧dlF d k s<d.label.length:=by
 obtain⟨Y2,K2,U2,N3,X3,Y3,Y1⟩:=K0;obtain⟨w1,w2,w3,w4⟩:=Y1 s hs Ko;have Q2:k< (d.next[s]).length:=by omega
 have h5:=w4 (d.next[s])[k] (Me Q2)
 have e:dlF d k s=((d.next[s])[k]).toNat:=by
  unfold dlF;rw[Fg (l:=d.next),Xe hs];show((d.next[s]).getD k 0).toNat=_;rw[Fg,Xe Q2];rfl
 exact⟨Q2,by omega,by omega⟩
def zb7 (dl:Nat→Nat) (m t:Nat):List Int:=((Hg m).filter fun s:Nat=>decide (dl s=t)).map fun s:Nat=>(s:Int)
theorem ztM (dl:Nat→Nat) (m t:Nat):zb7 dl (m+1) t=if dl m=t then zb7 dl m t++[(m:Int)] else zb7 dl m t:=by
 unfold zb7;rw[Sf,List.filter_append];by_cases h:dl m=t
 ·rw[if_pos h,List.filter_cons,if_pos (by simpa using h),Ke];rfl
 ·rw[if_neg h,List.filter_cons,if_neg (by simpa using h),List.filter_nil,Bf]
theorem zvK {dl:Nat→Nat} {m t:Nat} {x:Int}:x∈zb7 dl m t↔ ∃s:Nat,s<m∧dl s=t∧x=s:=by
 unfold zb7;simp only[List.mem_map,List.mem_filter,List.mem_range,decide_eq_true_eq];constructor
 ·rintro⟨s,⟨h1,h2⟩,h3⟩;exact⟨s,h1,h2,h3.symm⟩
 ·rintro⟨s,h1,h2,h3⟩;exact⟨s,⟨h1,h2⟩,h3.symm⟩
theorem zki (dl:Nat→Nat) (m t:Nat):(zb7 dl m t).length≤m:=by
 unfold zb7;rw[Be];have:=List.length_filter_le (fun s=>decide (dl s=t)) (Hg m);rw[List.length_range] at this;exact this
def zhY (dl:Nat→Nat) (n m:Nat):List (List Value):=(Hg n).map fun t=>(zb7 dl m t).map (Yd .i64)
theorem zeI (dl:Nat→Nat) (n m:Nat):(zhY dl n m).length=n:=by simp [zhY]
theorem zhZ {dl:Nat→Nat} {n m t:Nat} (h:t<n):(zhY dl n m)[t]'(by rw[zeI];exact h)=(zb7 dl m t).map (Yd .i64):=by simp [zhY]
theorem ztN (dl:Nat→Nat) (n:Nat):zhY dl n 0=Fe n []:=by
 unfold zhY zb7;simp [List.map_const']
theorem ztO {dl:Nat→Nat} {n m:Nat} (h:dl m<n):zhY dl n (m+1)=(zhY dl n m).set (dl m) ((zb7 dl m (dl m)).map (Yd .i64)++[.int .i64 (m:Nat)]):=by
 apply List.ext_getElem
 ·simp [zeI]
 ·intro t h1 h2;rw[zeI] at h1;rw[zhZ h1,ztM,List.getElem_set];by_cases e:dl m=t
  ·rw[if_pos e,if_pos e,Ke,e];rfl
  ·rw[if_neg e,if_neg e,zhZ h1]
def zjm (G:zb) (n:Nat) (dl:Nat→Nat) (v:Value):Prop:= ∃a c rv,v= .slice a n c∧Row G a rv∧rv.length=n∧n≤c∧ ∀t (h:t<n) (h2:t<rv.length),Sl G (Yd .i64) rv[t] (zb7 dl n t)
theorem zjm.mono {G G':zb} (S0:PLe G G') {n:Nat} {dl:Nat→Nat} {v:Value} (h:zjm G n dl v):zjm G' n dl v:=by
 obtain⟨a,c,rv,h1,h2,h3,h4,h5⟩:=h;exact⟨a,c,rv,h1,h2.mono S0,h3,h4,fun t g1 g2=>(h5 t g1 g2).mono S0⟩
def BkT (G:zb) (n W:Nat) (dl:Nat→Nat→Nat) (v:Value):Prop:= ∃a c rv,v= .slice a W c∧Row G a rv∧rv.length=W∧W≤c∧ ∀k (h:k<W) (h2:k<rv.length),zjm G n (dl k) rv[k]
theorem BkT.mono {G G':zb} (S0:PLe G G') {n W:Nat} {dl:Nat→Nat→Nat} {v:Value} (h:BkT G n W dl v):BkT G' n W dl v:=by
 obtain⟨a,c,rv,h1,h2,h3,h4,h5⟩:=h;exact⟨a,c,rv,h1,h2.mono S0,h3,h4,fun t g1 g2=>(h5 t g1 g2).mono S0⟩
set_option maxRecDepth 4000 in
theorem zz2 {d:DfaT} (P0:zr d) (K0:zg d) {C:List Value} {an al ay:Option Addr} {cn cl cs:Nat} {rs:List Value} {G:zb} {H:za} (O:OpenD G d C an al ay cn cl cs rs) {n W:Nat} (C1:n=d.label.length) (hW:d.width=(W:Int)) (U8:W≤256) {b1 bq bp bk:Nat} {vs va vb vsp vw vm:Value}:
  Tri Tryz.prog Tryz.f103.ntmps (piece [1,1,1,1,1,1,1,0] Tryz.f103) G [(1, .pointer (some ⟨b1,0,none⟩)),(3, .int .i64 (n:Nat)),(4, .pointer (some ⟨bq,0,none⟩))] ((b1, .cells C [] 27):: (bq, .cells [.pointer (some ⟨bp,0,none⟩)] [] 129):: (bp, .cells (PC vs va vb vsp (.slice (some ⟨bk,0,none⟩) W W) vw vm (W:Nat)) [] 135):: (bk, .cells (Fe W (.slice none 0 0)) [] 23)::H) (onlyN fun G' l H'=>
   ∃rk,PLe G G'∧rk.length=W∧(∀k (h:k<W) (h2:k<rk.length),zjm G' n (dlF d k) rk[k])∧zy [4] l=[(4, .pointer (some ⟨bq,0,none⟩))]∧H'=(b1, .cells C [] 27):: (bq, .cells [.pointer (some ⟨bp,0,none⟩)] [] 129):: (bp, .cells (PC vs va vb vsp (.slice (some ⟨bk,0,none⟩) W W) vw vm (W:Nat)) [] 135):: (bk, .cells rk [] 23)::H):=by
 obtain⟨U3,M2,V3,A4,M4⟩:=id P0;obtain⟨Y2,K2,U2,N3,X3,Y3,Y1⟩:=id K0;have N0:=O.len;have D1:=O.w;have J1:=O.n;have La:=O.rnl;have U1: ∀x:Value,Fe 1 x=[x]:=fun _=>rfl;refine Tri.sepT fun M1=>?_;have hE:=M1;try simp only[zzs] at hE
 repeat(obtain⟨J0,hE⟩:=hE)
 refine Xg (f:=Tryz.f103) rfl ?_;refine Yg tok zbS Kk ?_
 repeat' first
  |with_reducible first|refine Zd ?_ |refine Ae (fun _=>?_) fun _=>?_ |refine Nb fun nb A0 C0 B0=>?_ |refine Nr fun nb D0 E0 A0 I0 C0 B0=>?_
  |simp -dsimp -implicitDefEqProofs (disch:=first|exact Kd|fail) only[go_sem,↓reduceIte,seval, -He,N0,D1,hW]
 refine Je tok zbS Kk [1,3,4,113,114] (fun q G' fr H'=> ∃ (k:Nat) (rk:List Value),k+q=W∧rk.length=W∧PLe G G'∧(∀j (h:j<k) (h2:j<rk.length),zjm G' n (dlF d j) rk[j])∧rk.all zax=true∧H'=(b1, .cells C [] 27):: (bq, .cells [.pointer (some ⟨bp,0,none⟩)] [] 129):: (bp, .cells (PC vs va vb vsp (.slice (some ⟨bk,0,none⟩) W W) vw vm (W:Nat)) [] 135):: (bk, .cells rk [] 23)::H∧fr=[(1, .pointer (some ⟨b1,0,none⟩)),(3, .int .i64 (n:Nat)),(4, .pointer (some ⟨bq,0,none⟩)),(113, .int .i64 (W:Nat)),(114, .int .i64 (k:Nat))]) (W) ?_ ?_
 ·exact Ce ⟨0,_,by omega,List.length_replicate ..,PLe.refl _,fun j h=>by omega,by rw[List.all_replicate];simp [zax],rfl,rfl⟩
 ·rintro q G1 fr H1 N2 V0 ⟨k,rk,hkq,X9,hle01,N9,Y4,rfl,rfl⟩;have O1:=O.mono hle01;have hE:=V0;try simp only[zzs] at hE
  repeat(obtain⟨J0,hE⟩:=hE)
  by_cases hkW:k<W
  ·have M3: ∀v,zf rk k [v]=rk.set k v:=fun v=>zkP Ko v
   repeat' first
    |with_reducible first|refine Zd ?_ |refine Ae (fun _=>?_) fun _=>?_ |refine Nb fun nb A0 C0 B0=>?_ |refine Nr fun nb D0 E0 A0 I0 C0 B0=>?_
    |simp -dsimp -implicitDefEqProofs (disch:=first|exact Kd|fail) only[go_sem,↓reduceIte,seval, -He,N0,D1,J1,hW,M3,X9,Og,Wh]
    |with_reducible refine Wg tok mixed zbS 22 [0,3] (.op 0 .held (.op 1 .plain (.op 2 .plain (.op 3 .held (.op 4 .plain (.op 5 .plain (.op 6 .keeps (.op 7 .plain (.op 8 .plain .nil))))))))) Kk [(bq, .cells [.pointer (some ⟨bp,0,none⟩)] [] 129),(bp, .cells (PC vs va vb vsp (.slice (some ⟨bk,0,none⟩) W W) vw vm (W:Nat)) [] 135)] Ks ?_
   obtain⟨bh,ebh⟩: ∃x,x=nb:=⟨_,rfl⟩;subst ebh;obtain⟨rk',hrk'⟩: ∃rk',rk'=rk.set k (.slice (some ⟨bh,0,none⟩) n n):=⟨_,rfl⟩;have I2:rk'.length=W:=by rw[hrk',List.length_set,X9]
   have Tb:rk'.all zax=true:=by
    rw[List.all_eq_true] at Y4⊢;intro x hx;rw[hrk'] at hx;rcases List.mem_or_eq_of_mem_set hx with h|h
    ·exact Y4 x h
    ·rw[h];rfl
   have hrg:rk'[k]? =some (.slice (some ⟨bh,0,none⟩) n n):=by rw[hrk',List.getElem?_set_self Ko]
   have hrold: ∀j (h:j<k) (h2:j<rk'.length),rk'[j]=rk[j]'Ko:=fun j h h2=>by simp only[hrk'];rw[List.getElem_set_ne Ko]
   rw[←hrk'];refine Tri.loopS tok zbS (.seq .run (.seq .run (.seq (.block (.seq .run .cut)) .run))) Kk [1,3,4,9,113,114,126,127,128] (fun q2 G' fr H'=> ∃ (s:Nat) (hv:List Value) (Fm:za),s+q2=n∧PLe G1 G'∧zf1 3 hv (zhY (dlF d k) n s) Fm∧H'=(bh, .cells hv [] 24):: (b1, .cells C [] 27):: (bq, .cells [.pointer (some ⟨bp,0,none⟩)] [] 129):: (bp, .cells (PC vs va vb vsp (.slice (some ⟨bk,0,none⟩) W W) vw vm (W:Nat)) [] 135):: (bk, .cells rk' [] 23):: (Fm++H)∧fr=[(1, .pointer (some ⟨b1,0,none⟩)),(3, .int .i64 (n:Nat)),(4, .pointer (some ⟨bq,0,none⟩)),(9, .int .i64 (k:Nat)),(113, .int .i64 (W:Nat)),(114, .int .i64 (k:Nat)),(126, .slice an d.next.length cn),(127, .int .i64 (d.next.length:Nat)),(128, .int .i64 (s:Nat))]) (n) ?_ ?_
   ·exact Xf (H':=(bh, .cells (Fe n (.slice none 0 0)) [] 24):: (b1, .cells C [] 27):: (bq, .cells [.pointer (some ⟨bp,0,none⟩)] [] 129):: (bp, .cells (PC vs va vb vsp (.slice (some ⟨bk,0,none⟩) W W) vw vm (W:Nat)) [] 135):: (bk, .cells rk' [] 23):: ([]++H)) Ks ⟨0,_,[],by omega,PLe.refl _,by rw[ztN];exact zf1.zero 3 n,rfl,rfl⟩
   ·rintro q2 G2 fr H2 Q0 R0 ⟨s,hv,Fm,hsq,Lb,hF,rfl,rfl⟩;have O2:=O1.mono Lb;have hhv:hv.length=n:=by have:=hF.lenv;rw[zeI] at this;exact this
    by_cases I1:s<n
    ·have J0:s<d.next.length:=by omega
     obtain⟨h1,e1,e2⟩:=ziR K0 J0 (k:=k) Ko;obtain⟨t,ht⟩: ∃t,t=dlF d k s:=⟨_,rfl⟩;have L1:t<n:=by omega
     have E8:=ztO (dl:=dlF d k) (n:=n) (m:=s) Ko;rw[←ht] at e1 E8;obtain⟨kb,F',hk,W7,Jd⟩:=hF.out (i:=t) (by rw[zeI];exact L1);have hfg:=zhZ (dl:=dlF d k) (n:=n) (m:=s) L1;rw[hfg] at hk;have hgv:hv[t]? =some hv[t]:=Xe Ko;obtain⟨b,c,r1,r2,r3⟩:=O2.rs s J0 Ko;have hadb:Adr b:=r2.adr (by rw[Be];omega);have hadn:Adr an:=O2.rn.adr Ko;have hputv: ∀v,zf hv t [v]=hv.set t v:=fun v=>zkP Ko v;have J3:=zki (dlF d k) s t;have hE:=R0;try simp only[zzs] at hE
     repeat(obtain⟨J0,hE⟩:=hE)
     repeat' first
      |with_reducible first|refine Zd ?_ |refine Ae (fun _=>?_) fun _=>?_ |refine Nb fun nb A0 C0 B0=>?_ |refine Nr fun nb D0 E0 A0 I0 C0 B0=>?_
      |simp -dsimp -implicitDefEqProofs (disch:=first|exact Kd|fail) only[go_sem,↓reduceIte,seval, -He,N0,D1,J1,hW,Ie O2.rn,r1]
     refine Tri.upd (Oe (H':=(bh, .cells hv [] 24):: (b1, .cells C [] 27):: (bq, .cells [.pointer (some ⟨bp,0,none⟩)] [] 129):: (bp, .cells (PC vs va vb vsp (.slice (some ⟨bk,0,none⟩) W W) vw vm (W:Nat)) [] 135):: (bk, .cells rk' [] 23):: (kb++(F'++H))) (by intro fsum;have:=W7 fsum;simp only[Ke,List.map_cons,Ai,List.sum_cons];omega) (Ce ?_));refine Tri.sepT fun K1=>?_;rcases hk with ⟨aa,ev,hx0,hx,rfl⟩| ⟨bx,cx,spx,ev,rfl,hx,N8⟩
     ·rw[Af] at K1⊢;rw[ev] at hgv;have hE:=K1;try simp only[zzs] at hE
      repeat(obtain⟨J0,hE⟩:=hE)
      refine Yg tok zbS Kk ?_
      repeat' first
       |with_reducible first|refine Zd ?_ |refine Ae (fun _=>?_) fun _=>?_ |refine Nb fun nb A0 C0 B0=>?_ |refine Nr fun nb D0 E0 A0 I0 C0 B0=>?_
       |simp -dsimp -implicitDefEqProofs (disch:=first|exact Kd|fail) only[go_sem,↓reduceIte,seval, -He,hrg,e1,Ie r2,Le,hgv,hputv,U1,hhv]
       |with_reducible refine Wg tok mixed zbS 26 [0,3,6,10,11,14,17,21,23] (.op 0 .held (.op 1 .plain (.op 2 .plain (.op 3 .held (.op 4 .plain (.op 5 .plain (.op 6 .held (.op 7 .plain (.op 8 .plain (.op 9 .plain (.op 10 .held (.op 11 .held (.op 12 .plain (.op 13 .plain (.op 14 .held (.op 15 .plain (.op 16 .plain (.op 17 .held (.op 18 .plain (.op 19 .plain (.op 20 .plain (.op 21 .held (.op 22 .plain (.op 23 .held (.op 24 .plain (.op 25 .keeps (.op 26 .keeps (.op 27 .plain (.op 28 .plain .nil))))))))))))))))))))))))))))) Kk [(bq, .cells [.pointer (some ⟨bp,0,none⟩)] [] 129),(bp, .cells (PC vs va vb vsp (.slice (some ⟨bk,0,none⟩) W W) vw vm (W:Nat)) [] 135),(bk, .cells rk' [] 23),(bh, .cells hv [] 24)] Ks ?_
      obtain⟨F'',W8,hsum2⟩:=Jd (.slice (some ⟨nb,0,none⟩) 1 E0) [.int .i64 (s:Nat)] [(nb, .cells [.int .i64 (s:Nat)] D0 3)] (.inr ⟨nb,E0,D0,rfl,rfl,rfl,by simp at I0⊢;omega⟩);rw[hx,Af] at E8;rw[←E8] at W8;refine Xf (H':=(bh, .cells (hv.set t (.slice (some ⟨nb,0,none⟩) 1 E0)) [] 24):: (b1, .cells C [] 27):: (bq, .cells [.pointer (some ⟨bp,0,none⟩)] [] 129):: (bp, .cells (PC vs va vb vsp (.slice (some ⟨bk,0,none⟩) W W) vw vm (W:Nat)) [] 135):: (bk, .cells rk' [] 23):: (F''++H)) (by intro fsum;have:=hsum2 fsum;simp only[Ke,List.map_cons,List.map_nil,Ai,List.sum_cons,List.sum_nil] at this⊢;omega) ?_;exact⟨q2 - 1,by omega,s+1,_,F'',by omega,Lb,W8,rfl,rfl⟩
     ·rw[ev] at hgv;rw[Be,Gg] at hx N8;have hx:=hx;have hE:=K1;try simp only[zzs] at hE
      repeat(obtain⟨J0,hE⟩:=hE)
      refine Yg tok zbS Kk ?_
      repeat' first
       |with_reducible first|refine Zd ?_ |refine Ae (fun _=>?_) fun _=>?_ |refine Nb fun nb A0 C0 B0=>?_ |refine Nr fun nb D0 E0 A0 I0 C0 B0=>?_
       |simp -dsimp -implicitDefEqProofs (disch:=first|exact Kd|fail) only[go_sem,↓reduceIte,seval, -He,hrg,e1,Ie r2,Le,hgv,hputv,U1,hhv,Be]
       |with_reducible refine Wg tok mixed zbS 26 [0,3,6,10,11,14,17,21,23] (.op 0 .held (.op 1 .plain (.op 2 .plain (.op 3 .held (.op 4 .plain (.op 5 .plain (.op 6 .held (.op 7 .plain (.op 8 .plain (.op 9 .plain (.op 10 .held (.op 11 .held (.op 12 .plain (.op 13 .plain (.op 14 .held (.op 15 .plain (.op 16 .plain (.op 17 .held (.op 18 .plain (.op 19 .plain (.op 20 .plain (.op 21 .held (.op 22 .plain (.op 23 .held (.op 24 .plain (.op 25 .keeps (.op 26 .keeps (.op 27 .plain (.op 28 .plain .nil))))))))))))))))))))))))))))) Kk [(bq, .cells [.pointer (some ⟨bp,0,none⟩)] [] 129),(bp, .cells (PC vs va vb vsp (.slice (some ⟨bk,0,none⟩) W W) vw vm (W:Nat)) [] 135),(bk, .cells rk' [] 23),(bh, .cells hv [] 24)] Ks ?_
      obtain⟨F'',W8,hsum2⟩:=Jd (.slice (some ⟨nb,0,none⟩) ((zb7 (dlF d k) s t).length+1) E0) ((zb7 (dlF d k) s t).map (Yd .i64)++[.int .i64 (s:Nat)]) [(nb, .cells ((zb7 (dlF d k) s t).map (Yd .i64)++[.int .i64 (s:Nat)]) D0 3)] (.inr ⟨nb,E0,D0,by rw[Ve,Be];rfl,rfl,by simp,by simp at I0⊢;omega⟩);rw[←E8] at W8;refine Xf (H':=(bh, .cells (hv.set t (.slice (some ⟨nb,0,none⟩) ((zb7 (dlF d k) s t).length+1) E0)) [] 24):: (b1, .cells C [] 27):: (bq, .cells [.pointer (some ⟨bp,0,none⟩)] [] 129):: (bp, .cells (PC vs va vb vsp (.slice (some ⟨bk,0,none⟩) W W) vw vm (W:Nat)) [] 135):: (bk, .cells rk' [] 23):: (F''++H)) (by intro fsum;have:=hsum2 fsum;simp only[Ke,List.map_cons,List.map_nil,Ai,List.sum_cons,List.sum_nil] at this⊢;omega) ?_;exact⟨q2 - 1,by omega,s+1,_,F'',by omega,Lb,W8,rfl,rfl⟩
    ·obtain rfl:s=n:=by omega
     have hE:=R0;try simp only[zzs] at hE
     repeat(obtain⟨J0,hE⟩:=hE)
     repeat' first
      |with_reducible first|refine Zd ?_ |refine Ae (fun _=>?_) fun _=>?_ |refine Nb fun nb A0 C0 B0=>?_ |refine Nr fun nb D0 E0 A0 I0 C0 B0=>?_
      |simp -dsimp -implicitDefEqProofs (disch:=first|exact Kd|fail) only[go_sem,↓reduceIte,seval, -He,N0]
     refine Oe (H':=Fm++((bh, .cells hv [] 24):: (b1, .cells C [] 27):: (bq, .cells [.pointer (some ⟨bp,0,none⟩)] [] 129):: (bp, .cells (PC vs va vb vsp (.slice (some ⟨bk,0,none⟩) W W) vw vm (W:Nat)) [] 135):: (bk, .cells rk' [] 23)::H)) Ks (Upd.sepI fun J0=>Upd.trans (hF.share J0 fun G3 A1 K1 R4=>?_));refine Jf K1.1.1 fun G4 Z1 S1 S7=>?_;have k4:=Lb.trans (A1.trans Z1);refine⟨q - 1,by omega,k+1,rk',by omega,I2,hle01.trans k4,fun j hj h2=>?_,Tb,rfl,rfl⟩;rcases Eg j k with g|g
     ·rw[hrold j g h2];exact(N9 j g Ko).mono k4
     ·obtain rfl:j=k:=by omega
      have hrg2:rk'[j]= .slice (some ⟨bh,0,none⟩) s s:=by
       rw[Xe h2,Option.some.injEq] at hrg;exact hrg
      rw[hrg2];refine⟨_,s,hv,rfl,S7,hhv,Qe _,fun t ht h3=>?_⟩;obtain⟨a,c,g1,g2,g3⟩:=R4 t (by rw[zeI];exact ht) h3;rw[zhZ ht] at g1 g2 g3;rw[Be] at g1 g3;exact⟨a,c,g1,g2.mono Z1,g3⟩
  ·obtain rfl:k=W:=by omega
   repeat' first
    |with_reducible first|refine Zd ?_ |refine Ae (fun _=>?_) fun _=>?_ |refine Nb fun nb A0 C0 B0=>?_ |refine Nr fun nb D0 E0 A0 I0 C0 B0=>?_
    |simp -dsimp -implicitDefEqProofs (disch:=first|exact Kd|fail) only[go_sem,↓reduceIte,seval]
   exact Ce ⟨rk,hle01,X9,fun j h h2=>N9 j h h2,rfl,rfl⟩
set_option maxRecDepth 4000 in
theorem zpR {d:DfaT} (P0:zr d) (K0:zg d) {n W:Nat} (C1:n=d.label.length) (hW:d.width=(W:Int)) (U8:W≤256) {G:zb} {H:za} {R:Value→zb→za→Prop} {v:Value} (hv:IsD G d v)
  (hR: ∀G' bp bs ba bl bm cb spb vsp ks vk st pl nb fr to,PLe G G'→n≤cb→PInv n nb st pl (blF d.label) fr to (fun _=>0)→zO [] 159 3 vsp nb (zF nb fr to fun _=>0) ks→BkT G' n W (dlF d) vk→R (.pointer (some ⟨bp,0,none⟩)) G' ((bp, .cells (PC (.slice (some ⟨bs,0,none⟩) n n) (.slice (some ⟨ba,0,none⟩) n n) (.slice (some ⟨bl,0,none⟩) n cb) vsp vk (.slice none 0 0) (.map (some bm)) (W:Nat)) [] 135):: (bs, .cells (zk n st) [] 3):: (ba, .cells (zk n pl) [] 3):: (bl, .cells (zk n (blF d.label)) spb 3):: (bm, .map []):: (ks++H))):FnT Tryz.prog 103 [v] G H R:=by
 obtain⟨C,an,al,ay,cn,cl,cs,rs,rfl,O⟩:=hv.opened;obtain⟨U3,M2,V3,A4,M4⟩:=id P0;obtain⟨Y2,K2,U2,N3,X3,Y3,Y1⟩:=id K0;have N0:=O.len;have T0:=O.all;have X0:=O.l;have D1:=O.w;refine FnT.bodyS tok zbS (.seq .run (.seq .run (.seq .cut (.seq .cut (.seq .cut (.seq .cut (.seq .cut (.seq .cut .cut)))))))) Tryz.func103 rfl Kk Kk Kn fun M0=>?_;rw[Tryz.results103];have hE:=M0;try simp only[zzs] at hE
 repeat(obtain⟨J0,hE⟩:=hE)
 repeat' first
  |with_reducible first|refine Zd ?_ |refine Ae (fun _=>?_) fun _=>?_ |refine Nb fun nb A0 C0 B0=>?_ |refine Nr fun nb D0 E0 A0 I0 C0 B0=>?_
  |simp -dsimp -implicitDefEqProofs (disch:=first|exact Kd|fail) only[go_sem,↓reduceIte,seval, -He,Ye,N0,T0,X0]
 obtain⟨b1,e10⟩: ∃x,x=nb:=⟨_,rfl⟩;subst e10;refine Ch [1,2,3] ?_;refine Ah [1,1,0] Tryz.f103 Kk ?_;refine Tri.onlyN (zzY P0 O) fun G2 l2 H2 Q0 R0 hM=>?_;obtain⟨bq,bp,bs,ba,bm,vb,kb,hO,rfl,L4,rfl⟩:=hM;rcases hO with ⟨_,_,h0,_,_⟩| ⟨bl,cb,spb,rfl,rfl,hx,hcb⟩
 ·omega
 have hncb:n≤cb:=by rw[Be,zt] at hx hcb;omega
 simp only[go_sem];refine Ch [1,3,4] ?_;rw[L4,hW];rw[ztA,zxN,←C1];refine Tri.upd (Oe (H':=(bq, .cells [.pointer (some ⟨bp,0,none⟩)] [] 129):: (bp, .cells (PC (.slice (some ⟨bs,0,none⟩) n n) (.slice (some ⟨ba,0,none⟩) n n) (.slice (some ⟨bl,0,none⟩) n cb) (.slice none 0 0) (.slice none 0 0) (.slice none 0 0) (.map (some bm)) (W:Nat)) [] 135):: (bs, .cells (zk n fun _=>0) [] 3):: ((ba, .cells (zk n fun _=>0) [] 3):: (bl, .cells (zk n (blF d.label)) spb 3):: (bm, .map []):: (b1, .cells C [] 27)::H)) Ks (Ce ?_));refine Ah [1,1,1,0] Tryz.f103 Kk ?_;refine Tri.onlyN (zzZ Ko) fun G3 l3 H3 A1 K1 hM=>?_;obtain⟨rfl,Kc,rfl⟩:=hM;simp only[go_sem];refine Ch [1,3,4] ?_;rw[Kc];refine Tri.sepT fun S1=>?_;have hs4':=S1;have hE:=S1;try simp only[zzs] at hE
 repeat(obtain⟨J0,hE⟩:=hE)
 refine Yg tok zbS Kk ?_
 repeat' first
  |with_reducible first|refine Zd ?_ |refine Ae (fun _=>?_) fun _=>?_ |refine Nb fun nb A0 C0 B0=>?_ |refine Nr fun nb D0 E0 A0 I0 C0 B0=>?_
  |simp -dsimp -implicitDefEqProofs (disch:=first|exact Kd|fail) only[go_sem,↓reduceIte,seval]
 have hcmp:=zz0 (n:=n) Ko (bq:=bq) (bp:=bp) (bl:=bl) (cb:=cb) (spb:=spb) (W:=(W:Int)) (vs:= .slice (some ⟨bs,0,none⟩) n n) (va:= .slice (some ⟨ba,0,none⟩) n n) (vsp:= .slice none 0 0) (vk:= .slice none 0 0) (vw:= .slice none 0 0) (vm:= .map (some bm)) (bf:=blF d.label) (fun s hs=>by have:=ztL (l:=d.label) (s:=s) Ko;omega) (sp:=[]) (bs:=bs) (G:=G3) (H:=(ba, .cells (zk n fun _=>0) [] 3):: (bm, .map []):: (b1, .cells C [] 27)::H) ?hsp
 case hsp=>
  simp only[zdd,zjW,zci]
  repeat' first
   |assumption
   | (apply Ne.symm;assumption)
   |with_reducible refine And.intro ?_ ?_
 refine Th (Uh (H':=(bs, .cells (zk n fun i=>i) [] 3):: (bq, .cells [.pointer (some ⟨bp,0,none⟩)] [] 129):: (bp, .cells (PC (.slice (some ⟨bs,0,none⟩) n n) (.slice (some ⟨ba,0,none⟩) n n) (.slice (some ⟨bl,0,none⟩) n cb) (.slice none 0 0) (.slice none 0 0) (.slice none 0 0) (.map (some bm)) (W:Nat)) [] 135):: (bl, .cells (zk n (blF d.label)) spb 3):: ((ba, .cells (zk n fun _=>0) [] 3):: (bm, .map []):: (b1, .cells C [] 27)::H)) (zou Ko (fun i hi=>hi) hcmp fun f hrea hsrt=>?_) Ks);refine Oe (H':=(bq, .cells [.pointer (some ⟨bp,0,none⟩)] [] 129):: (bp, .cells (PC (.slice (some ⟨bs,0,none⟩) n n) (.slice (some ⟨ba,0,none⟩) n n) (.slice (some ⟨bl,0,none⟩) n cb) (.slice none 0 0) (.slice none 0 0) (.slice none 0 0) (.map (some bm)) (W:Nat)) [] 135):: (bs, .cells (zk n f) [] 3):: (ba, .cells (zk n fun _=>0) [] 3):: (bl, .cells (zk n (blF d.label)) spb 3):: ((bm, .map []):: (b1, .cells C [] 27)::H)) Ks (Ce ?_)
 repeat' first
  |with_reducible first|refine Zd ?_ |refine Ae (fun _=>?_) fun _=>?_ |refine Nb fun nb A0 C0 B0=>?_ |refine Nr fun nb D0 E0 A0 I0 C0 B0=>?_
  |simp -dsimp -implicitDefEqProofs (disch:=first|exact Kd|fail) only[go_sem,↓reduceIte,seval]
 have hbij:zkb n f:=zkb.rea (f:=fun i=>i) ⟨fun i=>i,fun i hi=>⟨hi,rfl⟩,fun s hs=>⟨hs,rfl⟩⟩ hrea;refine Ch [1,3,4] ?_;refine Ah [1,1,1,1,1,0] Tryz.f103 Kk ?_
 refine Tri.onlyN (zz1 Ko hbij hsrt (fun s hs=>by have:=ztL (l:=d.label) (s:=s) Ko;omega) (fun j v hj hv=>by
  obtain⟨p,g1,g2⟩:=hbij;obtain⟨t,h1,h2⟩:=zvJ (l:=d.label) (s:=f j) (by have:=(g1 j hj).1;omega) hv;exact⟨p t,(g2 t Ko).1,by rw[(g2 t Ko).2];exact h2⟩)) fun G5 l5 H5 A2 P1 hM=>?_
 obtain⟨w,fr,to,pl,vsp,ks,hP,hks,rfl,Ub,rfl⟩:=hM;simp only[go_sem];refine Ch [1,3,4] ?_;rw[Ub];refine Tri.upd (Oe (H':=(bq, .cells [.pointer (some ⟨bp,0,none⟩)] [] 129):: (bp, .cells (PC (.slice (some ⟨bs,0,none⟩) n n) (.slice (some ⟨ba,0,none⟩) n n) (.slice (some ⟨bl,0,none⟩) n cb) vsp (.slice none 0 0) (.slice none 0 0) (.map (some bm)) (W:Nat)) [] 135):: (b1, .cells C [] 27):: (bs, .cells (zk n f) [] 3):: (ba, .cells (zk n pl) [] 3):: (bl, .cells (zk n (blF d.label)) spb 3):: (bm, .map []):: (ks++H)) Ks (Ce ?_));refine Tri.sepT fun E3=>?_;have hE:=E3;try simp only[zzs] at hE
 repeat(obtain⟨J0,hE⟩:=hE)
 refine Yg tok zbS Kk ?_
 repeat' first
  |with_reducible first|refine Zd ?_ |refine Ae (fun _=>?_) fun _=>?_ |refine Nb fun nb A0 C0 B0=>?_ |refine Nr fun nb D0 E0 A0 I0 C0 B0=>?_
  |simp -dsimp -implicitDefEqProofs (disch:=first|exact Kd|fail) only[go_sem,↓reduceIte,seval, -He,N0,D1,hW,Og,Wh]
  |with_reducible refine Wg tok mixed zbS 18 [0,2] (.op 0 .held (.op 1 .plain (.op 2 .held (.op 3 .keeps (.op 4 .plain (.op 5 .plain (.op 6 .plain .nil))))))) Kk [(bq, .cells [.pointer (some ⟨bp,0,none⟩)] [] 129),(b1, .cells C [] 27)] Ks ?_
 obtain⟨bk,ebk⟩: ∃x,x=nb:=⟨_,rfl⟩;subst ebk;refine Ch [1,3,4] ?_;refine Tri.upd (Oe (H':=(b1, .cells C [] 27):: (bq, .cells [.pointer (some ⟨bp,0,none⟩)] [] 129):: (bp, .cells (PC (.slice (some ⟨bs,0,none⟩) n n) (.slice (some ⟨ba,0,none⟩) n n) (.slice (some ⟨bl,0,none⟩) n cb) vsp (.slice (some ⟨bk,0,none⟩) W W) (.slice none 0 0) (.map (some bm)) (W:Nat)) [] 135):: (bk, .cells (Fe W (.slice none 0 0)) [] 23):: ((bs, .cells (zk n f) [] 3):: (ba, .cells (zk n pl) [] 3):: (bl, .cells (zk n (blF d.label)) spb 3):: (bm, .map []):: (ks++H))) Ks (Ce ?_));refine Ah [1,1,1,1,1,1,1,0] Tryz.f103 Kk ?_;refine Tri.onlyN (zz2 P0 K0 (O.mono Q0) C1 hW U8) fun G7 l7 H7 W2 B4 hM=>?_;obtain⟨rk,hle57,X9,N9,hfr7,rfl⟩:=hM;simp only[go_sem];refine Ch [4] ?_;rw[hfr7];refine Tri.upd (Oe (H':=(bk, .cells rk [] 23):: (bq, .cells [.pointer (some ⟨bp,0,none⟩)] [] 129):: (bp, .cells (PC (.slice (some ⟨bs,0,none⟩) n n) (.slice (some ⟨ba,0,none⟩) n n) (.slice (some ⟨bl,0,none⟩) n cb) vsp (.slice (some ⟨bk,0,none⟩) W W) (.slice none 0 0) (.map (some bm)) (W:Nat)) [] 135):: (bs, .cells (zk n f) [] 3):: (ba, .cells (zk n pl) [] 3):: (bl, .cells (zk n (blF d.label)) spb 3):: (bm, .map []):: (ks++H)) Ks (Upd.sepI fun B6=>Jf B6.1.1 fun G8 N4 P6 N6=>?_));have hE:=P6;try simp only[zzs] at hE
 repeat(obtain⟨J0,hE⟩:=hE)
 refine Yg tok zbS Kk ?_
 repeat' first
  |with_reducible first|refine Zd ?_ |refine Ae (fun _=>?_) fun _=>?_ |refine Nb fun nb A0 C0 B0=>?_ |refine Nr fun nb D0 E0 A0 I0 C0 B0=>?_
  |simp -dsimp -implicitDefEqProofs (disch:=first|exact Kd|fail) only[go_sem,↓reduceIte,seval]
 unfold zo;refine Xf (H':=(bp, .cells (PC (.slice (some ⟨bs,0,none⟩) n n) (.slice (some ⟨ba,0,none⟩) n n) (.slice (some ⟨bl,0,none⟩) n cb) vsp (.slice (some ⟨bk,0,none⟩) W W) (.slice none 0 0) (.map (some bm)) (W:Nat)) [] 135):: (bs, .cells (zk n f) [] 3):: (ba, .cells (zk n pl) [] 3):: (bl, .cells (zk n (blF d.label)) spb 3):: (bm, .map []):: (ks++H)) Ks ?_;exact hR G8 bp bs ba bl bm cb spb vsp ks _ f pl w fr to (Q0.trans (hle57.trans N4)) hncb hP hks ⟨_,W,rk,rfl,N6,X9,Qe _,fun k h h2=>(N9 k h h2).mono N4⟩
theorem ztP {n:Nat} {fr to mk:Nat→Nat} {sp:List Value} {i:Nat} (hi:i<n):Hf 3 (List.drop (i * 3) (zF n fr to mk++sp))=[.int .i64 (fr i:Nat), .int .i64 (to i:Nat), .int .i64 (mk i:Nat)]:=by
 have hl:(zF n fr to mk++sp).length≥n * 3:=by rw[Ve,zbr];omega
 apply List.ext_getElem?;intro j;rw[List.getElem?_take];by_cases hj:j<3
 ·rw[if_pos hj,List.getElem?_drop,zhW hi hj];rfl
 ·rw[if_neg hj,List.getElem?_eq_none (by simp;omega)]
theorem zov {n w:Nat} {st pl bf fr to mk:Nat→Nat} (hP:PInv n w st pl bf fr to mk) (hn:n≤70000) {bp bs bx csp:Nat} {spx:List Value} {va vb vk vw vm:Value} {W:Int} {b:Nat} (hb:b<w) {G:zb} {H:za} {R:Value→zb→za→Prop}
  (hR:R (.slice (some ⟨bs,fr b,none⟩) (to b - fr b) (to b - fr b)) G ((bp, .cells (PC (.slice (some ⟨bs,0,none⟩) n n) va vb (.slice (some ⟨bx,0,none⟩) w csp) vk vw vm W) [] 135):: (bx, .cells (zF w fr to mk) spx 159)::H)):FnT Tryz.prog 133 [.pointer (some ⟨bp,0,none⟩), .int .i64 (b:Nat)] G ((bp, .cells (PC (.slice (some ⟨bs,0,none⟩) n n) va vb (.slice (some ⟨bx,0,none⟩) w csp) vk vw vm W) [] 135):: (bx, .cells (zF w fr to mk) spx 159)::H) R:=by
 have h1:=hP.ne b hb;have h2:=hP.le b hb;have hw:=hP.nb_le;have g0:=zk6 (fr:=fr) (to:=to) (mk:=mk) (sp:=spx) hb;have g1:=zhg (fr:=fr) (to:=to) (mk:=mk) (sp:=spx) hb;have g2:=zk7 (fr:=fr) (to:=to) (mk:=mk) (sp:=spx) hb;have e1:((to b:Nat):Int) - ((fr b:Nat):Int)=((to b - fr b:Nat):Int):=by omega
 have hrt:=ztP (fr:=fr) (to:=to) (mk:=mk) (sp:=spx) hb;refine Ee tok zyL Tryz.func133 rfl Kk Kk Kn fun M0=>?_;rw[Tryz.results133];have hE:=M0;try simp only[zzs] at hE
 repeat(obtain⟨J0,hE⟩:=hE)
 repeat' first
  |with_reducible first|refine Zd ?_ |refine Ae (fun _=>?_) fun _=>?_ |refine Nb fun nb A0 C0 B0=>?_
  |simp -dsimp -implicitDefEqProofs (disch:=first|exact Kd|fail) only[go_sem,↓reduceIte,seval,g0,g1,g2,e1,hrt]
  |with_reducible refine Wg tok mixed zyL 2 [3,5,7,9] (.op 0 .plain (.op 1 .plain (.op 2 .plain (.op 3 .held (.op 4 .plain (.op 5 .held (.op 6 .plain (.op 7 .held (.op 8 .plain (.op 9 .held (.op 10 .plain (.op 11 .plain .nil)))))))))))) Kk [(bp, .cells (PC (.slice (some ⟨bs,0,none⟩) n n) va vb (.slice (some ⟨bx,0,none⟩) w csp) vk vw vm W) [] 135),(nb, .cells [.int .i64 (fr b:Nat), .int .i64 (to b:Nat), .int .i64 (mk b:Nat)] [] 159)] Ks ?_
 refine⟨rfl,?_⟩;all_goals refine De ?_ hR ?_
 any_goals first|exact Ks|skip
 rfl
theorem zow {n w:Nat} {st pl bf fr to mk:Nat→Nat} (hP:PInv n w st pl bf fr to mk) (hn:n≤70000) {bp bs ba bl bx cb csp:Nat} {spb spx:List Value} {vk vw vm:Value} {W:Int} {s:Nat} (hs:s<n) {G:zb} {H:za} {R:Value→zb→za→Prop}
  (hR: ∀r st' pl' mk',PInv n w st' pl' bf fr to mk'→(∀x,x<n→(Mkd pl' bf fr mk' x↔Mkd pl bf fr mk x∨x=s))→(∀b,b≠bf s→mk' b=mk b)→1≤mk' (bf s)→R (.bool r) G ((bp, .cells (PC (.slice (some ⟨bs,0,none⟩) n n) (.slice (some ⟨ba,0,none⟩) n n) (.slice (some ⟨bl,0,none⟩) n cb) (.slice (some ⟨bx,0,none⟩) w csp) vk vw vm W) [] 135):: (bx, .cells (zF w fr to mk') spx 159):: (bs, .cells (zk n st') [] 3):: (ba, .cells (zk n pl') [] 3):: (bl, .cells (zk n bf) spb 3)::H)):
  FnT Tryz.prog 134 [.pointer (some ⟨bp,0,none⟩), .int .i64 (s:Nat)] G ((bp, .cells (PC (.slice (some ⟨bs,0,none⟩) n n) (.slice (some ⟨ba,0,none⟩) n n) (.slice (some ⟨bl,0,none⟩) n cb) (.slice (some ⟨bx,0,none⟩) w csp) vk vw vm W) [] 135):: (bx, .cells (zF w fr to mk) spx 159):: (bs, .cells (zk n st) [] 3):: (ba, .cells (zk n pl) [] 3):: (bl, .cells (zk n bf) spb 3)::H) R:=by
 have hb:=hP.bl_lt s hs;have Q3:=hP.lo s hs;have M5:=hP.hi s hs;have S0:=hP.le _ hb;have Pa:=hP.mk_le _ hb;have Q6:=hP.pl_lt s hs;have hw:=hP.nb_le;have gb:=zaW bf (sp:=spb) hs;have ga:=zdD pl hs;have g0:=zk6 (fr:=fr) (to:=to) (mk:=mk) (sp:=spx) hb;have g2:=zk7 (fr:=fr) (to:=to) (mk:=mk) (sp:=spx) hb;have e1:((fr (bf s):Nat):Int)+((mk (bf s):Nat):Int)=((fr (bf s)+mk (bf s):Nat):Int):=by omega
 by_cases hm:Mkd pl bf fr mk s
 ·unfold Mkd at hm;refine Ee tok ziP Tryz.func134 rfl Kk Kk Kn fun M0=>?_;rw[Tryz.results134];have hE:=M0;try simp only[zzs] at hE
  repeat(obtain⟨J0,hE⟩:=hE)
  repeat' first
   |with_reducible first|refine Zd ?_ |refine Ae (fun _=>?_) fun _=>?_ |refine Nb fun nb A0 C0 B0=>?_
   |simp -dsimp -implicitDefEqProofs (disch:=first|exact Kd|fail) only[go_sem,↓reduceIte,seval,gb,ga,g0,g2,e1]
   |with_reducible refine Wg tok mixed ziP 1 [3,7,10] (.op 0 .plain (.op 1 .plain (.op 2 .plain (.op 3 .held (.op 4 .plain (.op 5 .plain (.op 6 .plain (.op 7 .held (.op 8 .plain (.op 9 .plain (.op 10 .held (.op 11 .plain (.op 12 .plain .nil))))))))))))) Kk [(bp, .cells (PC (.slice (some ⟨bs,0,none⟩) n n) (.slice (some ⟨ba,0,none⟩) n n) (.slice (some ⟨bl,0,none⟩) n cb) (.slice (some ⟨bx,0,none⟩) w csp) vk vw vm W) [] 135),(bl, .cells (zk n bf) spb 3)] Ks ?_
   |with_reducible refine Wg tok mixed ziP 2 [3,7] (.op 0 .plain (.op 1 .plain (.op 2 .plain (.op 3 .held (.op 4 .plain (.op 5 .plain (.op 6 .plain (.op 7 .held (.op 8 .plain (.op 9 .plain .nil)))))))))) Kk [(bx, .cells (zF w fr to mk) spx 159)] Ks ?_
  exact Ce (hR false st pl mk hP (fun x _=>⟨.inl,fun h=>h.elim id fun e=>by rw[e];exact hm⟩) (fun _ _=>rfl) Ko)
 ·have hmark:=hP.mark hs hm;unfold Mkd at hm;have J3:fr (bf s)+mk (bf s) <n:=by omega
  have N1:=hP.st_lt _ J3;have gs:=zdD st J3;have p1:=zbk st J3 s;have p2:=zbk (zn st (fr (bf s)+mk (bf s)) s) Q6 (st (fr (bf s)+mk (bf s)));have p3:=zbk pl N1 (pl s);have p4:=zbk (zn pl (st (fr (bf s)+mk (bf s))) (pl s)) hs (fr (bf s)+mk (bf s));have p5:=ztJ (fr:=fr) (to:=to) (mk:=mk) hb (mk (bf s)+1);have e2:((mk (bf s):Nat):Int)+1=((mk (bf s)+1 :Nat):Int):=rfl;refine Ee tok ziP Tryz.func134 rfl Kk Kk Kn fun M0=>?_;rw[Tryz.results134];have hE:=M0;try simp only[zzs] at hE
  repeat(obtain⟨J0,hE⟩:=hE)
  repeat' first
   |with_reducible first|refine Zd ?_ |refine Ae (fun _=>?_) fun _=>?_ |refine Nb fun nb A0 C0 B0=>?_
   |simp -dsimp -implicitDefEqProofs (disch:=first|exact Kd|fail) only[go_sem,↓reduceIte,seval,gb,ga,gs,g0,g2,e1,e2,p1,p2,p3,p4,p5]
   |with_reducible refine Wg tok mixed ziP 1 [3,7,10] (.op 0 .plain (.op 1 .plain (.op 2 .plain (.op 3 .held (.op 4 .plain (.op 5 .plain (.op 6 .plain (.op 7 .held (.op 8 .plain (.op 9 .plain (.op 10 .held (.op 11 .plain (.op 12 .plain .nil))))))))))))) Kk [(bp, .cells (PC (.slice (some ⟨bs,0,none⟩) n n) (.slice (some ⟨ba,0,none⟩) n n) (.slice (some ⟨bl,0,none⟩) n cb) (.slice (some ⟨bx,0,none⟩) w csp) vk vw vm W) [] 135),(bl, .cells (zk n bf) spb 3)] Ks ?_
   |with_reducible refine Wg tok mixed ziP 2 [3,7] (.op 0 .plain (.op 1 .plain (.op 2 .plain (.op 3 .held (.op 4 .plain (.op 5 .plain (.op 6 .plain (.op 7 .held (.op 8 .plain (.op 9 .plain .nil)))))))))) Kk [(bx, .cells (zF w fr to mk) spx 159)] Ks ?_
   |with_reducible refine Wg tok mixed ziP 6 [3,8,12,15] (.op 0 .plain (.op 1 .plain (.op 2 .plain (.op 3 .held (.op 4 .plain (.op 5 .plain (.op 6 .plain (.op 7 .plain (.op 8 .held (.op 9 .plain (.op 10 .plain (.op 11 .plain (.op 12 .held (.op 13 .plain (.op 14 .plain (.op 15 .held (.op 16 .plain (.op 17 .plain (.op 18 .plain (.op 19 .plain (.op 20 .plain (.op 21 .plain .nil)))))))))))))))))))))) Kk [(bp, .cells (PC (.slice (some ⟨bs,0,none⟩) n n) (.slice (some ⟨ba,0,none⟩) n n) (.slice (some ⟨bl,0,none⟩) n cb) (.slice (some ⟨bx,0,none⟩) w csp) vk vw vm W) [] 135),(ba, .cells (zk n pl) [] 3)] Ks ?_
   |with_reducible refine Wg tok mixed ziP 7 [3,8,13,16] (.op 0 .plain (.op 1 .plain (.op 2 .plain (.op 3 .held (.op 4 .plain (.op 5 .plain (.op 6 .plain (.op 7 .plain (.op 8 .held (.op 9 .plain (.op 10 .plain (.op 11 .plain (.op 12 .plain (.op 13 .held (.op 14 .plain (.op 15 .plain (.op 16 .held (.op 17 .plain (.op 18 .plain (.op 19 .plain (.op 20 .plain (.op 21 .plain .nil)))))))))))))))))))))) Kk [(bp, .cells (PC (.slice (some ⟨bs,0,none⟩) n n) (.slice (some ⟨ba,0,none⟩) n n) (.slice (some ⟨bl,0,none⟩) n cb) (.slice (some ⟨bx,0,none⟩) w csp) vk vw vm W) [] 135),(ba, .cells (zk n pl) [] 3)] Ks ?_
  exact Ce (hR true _ _ _ hmark.1 hmark.2 (fun b hb=>zbf _ _ hb) (by rw[zbu];omega))
theorem zyN {n w:Nat} {st pl bf fr to mk:Nat→Nat} (hP:PInv n w st pl bf fr to mk) (hn:n≤70000) {bp bs ba bl bx cb csp:Nat} {spb spx:List Value} {vk vw vm:Value} {W:Int} {b:Nat} (hb:b<w) (h1:1≤mk b) (N8:w * 3+spx.length=csp * 3) {G:zb} {H:za} {R:Value→zb→za→Prop}
  (hR0:fr b+mk b=to b→R (.int .i64 (-1)) G ((bp, .cells (PC (.slice (some ⟨bs,0,none⟩) n n) (.slice (some ⟨ba,0,none⟩) n n) (.slice (some ⟨bl,0,none⟩) n cb) (.slice (some ⟨bx,0,none⟩) w csp) vk vw vm W) [] 135):: (bx, .cells (zF w fr to (zn mk b 0)) spx 159):: (bs, .cells (zk n st) [] 3):: (bl, .cells (zk n bf) spb 3)::H))
  (hR: ∀bx' csp' spx',fr b+mk b<to b→(w+1) * 3+spx'.length=csp' * 3→R (.int .i64 (w:Nat)) G ((bp, .cells (PC (.slice (some ⟨bs,0,none⟩) n n) (.slice (some ⟨ba,0,none⟩) n n) (.slice (some ⟨bl,0,none⟩) n cb) (.slice (some ⟨bx',0,none⟩) (w+1) csp') vk vw vm W) [] 135):: (bx', .cells (zF (w+1) (zn (zn fr b (fr b+mk b)) w (fr b)) (zn to w (fr b+mk b)) (zn (zn mk b 0) w 0)) spx' 159):: (bs, .cells (zk n st) [] 3):: (bl, .cells (zk n (fun s=>if bf s=b∧pl s<fr b+mk b then w else bf s)) spb 3)::H)):
  FnT Tryz.prog 135 [.pointer (some ⟨bp,0,none⟩), .int .i64 (b:Nat)] G ((bp, .cells (PC (.slice (some ⟨bs,0,none⟩) n n) (.slice (some ⟨ba,0,none⟩) n n) (.slice (some ⟨bl,0,none⟩) n cb) (.slice (some ⟨bx,0,none⟩) w csp) vk vw vm W) [] 135):: (bx, .cells (zF w fr to mk) spx 159):: (bs, .cells (zk n st) [] 3):: (bl, .cells (zk n bf) spb 3)::H) R:=by
 have P3:=hP.ne b hb;have S0:=hP.le b hb;have Pa:=hP.mk_le b hb;have hw:=hP.nb_le;have g2:=zk7 (fr:=fr) (to:=to) (mk:=mk) (sp:=spx) hb;have g0':=zk6 (fr:=fr) (to:=to) (mk:=zn mk b 0) (sp:=spx) hb;have g1':=zhg (fr:=fr) (to:=to) (mk:=zn mk b 0) (sp:=spx) hb;have p2:=ztJ (fr:=fr) (to:=to) (mk:=mk) hb 0;have e1:((to b:Nat):Int) - ((fr b:Nat):Int)=((to b - fr b:Nat):Int):=by omega
 have e2:((fr b:Nat):Int)+((mk b:Nat):Int)=((fr b+mk b:Nat):Int):=by omega
 have hz:(Yd .i64 ((0 :Nat):Int))=Yd .i64 0:=rfl;rw[hz] at p2;by_cases R4:fr b+mk b=to b
 ·have hme:mk b=to b - fr b:=by omega
  have hR0:=hR0 R4;refine Ee tok zkh Tryz.func135 rfl Kk Kk Kn fun M0=>?_;rw[Tryz.results135];have hE:=M0;try simp only[zzs] at hE
  repeat(obtain⟨J0,hE⟩:=hE)
  repeat' first
   |with_reducible first|refine Zd ?_ |refine Ae (fun _=>?_) fun _=>?_ |refine Nb fun nb A0 C0 B0=>?_ |refine Nr fun nb D0 E0 A0 I0 C0 B0=>?_
   |simp -dsimp -implicitDefEqProofs (disch:=first|exact Kd|fail) only[go_sem,↓reduceIte,seval,g2,g0',g1',p2,e1]
   |with_reducible refine Wg tok mixed zkh 4 [4,8] (.op 0 .plain (.op 1 .plain (.op 2 .plain (.op 3 .plain (.op 4 .held (.op 5 .plain (.op 6 .plain (.op 7 .plain (.op 8 .held (.op 9 .plain (.op 10 .plain .nil))))))))))) Kk [(bx, .cells (zF w fr to (zn mk b 0)) spx 159)] Ks ?_
  all_goals first| (exfalso;omega)|skip
  exact Ce hR0
 ·have hme: ¬((mk b:Nat):Int)=((to b - fr b:Nat):Int):=by omega
  have p0:=zyJ (fr:=fr) (to:=to) (mk:=zn mk b 0) hb (fr b+mk b);have I1:=zmw w (zn fr b (fr b+mk b)) to (zn mk b 0) (fr b) (fr b+mk b) 0;rw[hz] at I1;refine Ee tok zkh Tryz.func135 rfl Kk Kk Kn fun M0=>?_;rw[Tryz.results135];have hE:=M0;try simp only[zzs] at hE
  repeat(obtain⟨J0,hE⟩:=hE)
  repeat' first
   |with_reducible first|refine Zd ?_ |refine Ae (fun _=>?_) fun _=>?_ |refine Nb fun nb A0 C0 B0=>?_ |refine Nr fun nb D0 E0 A0 I0 C0 B0=>?_
   |simp -dsimp -implicitDefEqProofs (disch:=first|exact Kd|fail) only[go_sem,↓reduceIte,seval,g2,g0',g1',p2,p0,e1,e2]
   |with_reducible refine Wg tok mixed zkh 4 [4,8] (.op 0 .plain (.op 1 .plain (.op 2 .plain (.op 3 .plain (.op 4 .held (.op 5 .plain (.op 6 .plain (.op 7 .plain (.op 8 .held (.op 9 .plain (.op 10 .plain .nil))))))))))) Kk [(bx, .cells (zF w fr to (zn mk b 0)) spx 159)] Ks ?_
   |with_reducible refine Wg tok mixed zkh 7 [3,7] (.op 0 .plain (.op 1 .plain (.op 2 .plain (.op 3 .held (.op 4 .plain (.op 5 .plain (.op 6 .plain (.op 7 .held (.op 8 .plain (.op 9 .plain (.op 10 .plain (.op 11 .keeps (.op 12 .plain .nil))))))))))))) Kk [(bx, .cells (zF w fr to (zn mk b 0)) spx 159)] Ks ?_
  obtain⟨b8,e80⟩: ∃x,x=nb:=⟨_,rfl⟩;subst e80
  repeat' first
   |with_reducible first|refine Zd ?_ |refine Ae (fun _=>?_) fun _=>?_ |refine Nb fun nb A0 C0 B0=>?_ |refine Nr fun nb D0 E0 A0 I0 C0 B0=>?_
   |simp -dsimp -implicitDefEqProofs (disch:=first|exact Kd|fail) only[go_sem,↓reduceIte,seval,I1]
   |with_reducible refine Wg tok mixed zkh 9 [4,5] (.op 0 .plain (.op 1 .plain (.op 2 .plain (.op 3 .plain (.op 4 .held (.op 5 .held (.op 6 .keeps (.op 7 .keeps (.op 8 .plain (.op 9 .plain (.op 10 .plain .nil))))))))))) Kk [(bp, .cells (PC (.slice (some ⟨bs,0,none⟩) n n) (.slice (some ⟨ba,0,none⟩) n n) (.slice (some ⟨bl,0,none⟩) n cb) (.slice (some ⟨bx,0,none⟩) w csp) vk vw vm W) [] 135),(b8, .cells [.int .i64 (fr b:Nat), .int .i64 ((fr b+mk b:Nat):Int), .int .i64 0] [] 159)] Ks ?_
  obtain⟨bx',ebx⟩: ∃x,x=nb:=⟨_,rfl⟩;subst ebx;rename_i y1 y2 y3 y4;have hPN:=hP.part hb h1 Ko;have hfw:zn (zn fr b (fr b+mk b)) w (fr b) w=fr b:=zbu _ _ _;have htw:zn to w (fr b+mk b) w=fr b+mk b:=zbu _ _ _;refine Th (Uh (H':=(bp, .cells (PC (.slice (some ⟨bs,0,none⟩) n n) (.slice (some ⟨ba,0,none⟩) n n) (.slice (some ⟨bl,0,none⟩) n cb) (.slice (some ⟨bx',0,none⟩) (w+1) E0) vk vw vm W) [] 135):: (bx', .cells (zF (w+1) (zn (zn fr b (fr b+mk b)) w (fr b)) (zn to w (fr b+mk b)) (zn (zn mk b 0) w 0)) D0 159):: ((bs, .cells (zk n st) [] 3):: (bl, .cells (zk n bf) spb 3)::H)) (zov hPN hn Ko (Upd.sepI fun R0=>Ce ?_)) Ks);rw[hfw,htw,Nat.add_sub_cancel_left];clear g2 g0' g1' p2 p0 I1;clear y1 y2 y3 y4;have hE:=R0;try simp only[zzs] at hE
  repeat(obtain⟨J0,hE⟩:=hE)
  repeat' first
   |with_reducible first|refine Zd ?_ |refine Ae (fun _=>?_) fun _=>?_ |refine Nb fun nb A0 C0 B0=>?_ |refine Nr fun nb D0 E0 A0 I0 C0 B0=>?_
   |simp -dsimp -implicitDefEqProofs (disch:=first|exact Kd|fail) only[go_sem,↓reduceIte,seval]
  refine Je tok zkh Kk [0,7,71,72,73] (fun q G' l H'=> ∃i:Nat,i+q=mk b∧G'=G∧H'=(bp, .cells (PC (.slice (some ⟨bs,0,none⟩) n n) (.slice (some ⟨ba,0,none⟩) n n) (.slice (some ⟨bl,0,none⟩) n cb) (.slice (some ⟨bx',0,none⟩) (w+1) E0) vk vw vm W) [] 135):: (bx', .cells (zF (w+1) (zn (zn fr b (fr b+mk b)) w (fr b)) (zn to w (fr b+mk b)) (zn (zn mk b 0) w 0)) D0 159):: (bs, .cells (zk n st) [] 3):: (bl, .cells (zk n (fun s=>if bf s=b∧pl s<fr b+i then w else bf s)) spb 3)::H∧l=[(0, .pointer (some ⟨bp,0,none⟩)),(7, .int .i64 (w:Nat)),(71, .slice (some ⟨bs,fr b,none⟩) (mk b) (mk b)),(72, .int .i64 (mk b:Nat)),(73, .int .i64 (i:Nat))]) ((mk b)) ?_ ?_
  ·refine Ce ⟨0,by omega,rfl,?_,rfl⟩
   rw[zet (f:=bf) (g:=fun s=>if bf s=b∧pl s<fr b+0 then w else bf s) fun s hs=>by
    show _=if _ then _ else _;rw[if_neg];rintro⟨e,h⟩;have:=hP.lo s hs;rw[e] at this;omega]
  ·rintro q G2 l H2 Q0 K1 ⟨i,Q5,rfl,rfl,rfl⟩;have hE:=K1;try simp only[zzs] at hE
   repeat(obtain⟨J0,hE⟩:=hE)
   by_cases hi:i<mk b
   ·have A5:fr b+i<n:=by omega
    have I1:=hP.st_lt _ A5;have hbi:=hP.own b (fr b+i) hb Ko Ko;have hpi:=hP.pl_st _ A5;have gs:=zdD st A5;have pb:=zbk (fun s=>if bf s=b∧pl s<fr b+i then w else bf s) I1 w
    have P9:zk n (zn (fun s=>if bf s=b∧pl s<fr b+i then w else bf s) (st (fr b+i)) w)=zk n fun s=>if bf s=b∧pl s<fr b+(i+1) then w else bf s:=zet fun s hs=>by
     unfold zn;by_cases e:s=st (fr b+i)
     ·rw[if_pos e,e];show _=if _ then _ else _;rw[if_pos ⟨hbi,by rw[hpi];omega⟩]
     ·rw[if_neg e];have P3:pl s≠fr b+i:=fun h=>e (by rw[←h,hP.st_pl s hs]);show(if _ then _ else _)=if _ then _ else _;by_cases c:bf s=b∧pl s<fr b+i
      ·rw[if_pos c,if_pos ⟨c.1,by omega⟩]
      ·rw[if_neg c,if_neg fun c2=>c ⟨c2.1,by omega⟩]
    rw[P9] at pb
    repeat' first
     |with_reducible first|refine Zd ?_ |refine Ae (fun _=>?_) fun _=>?_ |refine Nb fun nb A0 C0 B0=>?_ |refine Nr fun nb D0 E0 A0 I0 C0 B0=>?_
     |simp -dsimp -implicitDefEqProofs (disch:=first|exact Kd|fail) only[go_sem,↓reduceIte,seval,gs,pb]
    exact Ce ⟨q - 1,by omega,i+1,by omega,rfl,rfl,rfl⟩
   ·obtain rfl:i=mk b:=by omega
    repeat' first
     |with_reducible first|refine Zd ?_ |refine Ae (fun _=>?_) fun _=>?_ |refine Nb fun nb A0 C0 B0=>?_ |refine Nr fun nb D0 E0 A0 I0 C0 B0=>?_
     |simp -dsimp -implicitDefEqProofs (disch:=first|exact Kd|fail) only[go_sem,↓reduceIte,seval]
    exact Ce (hR bx' E0 D0 Ko Ko)
section
variable {α β:Type} [DecidableEq α]
theorem ziS (k:α) (v:β): ∀l:List (α×β),zb0 k (zcv k v l)=some v
 | []=>by simp [zcv,zb0]
 |e::l=>by
  unfold zcv;by_cases h:k=e.1
  ·rw[if_pos h];simp [zb0]
  ·rw[if_neg h];unfold zb0;rw[if_neg h];exact ziS k v l
theorem zf9 {k k':α} (v:β) (h:k'≠k): ∀l:List (α×β),zb0 k' (zcv k v l)=zb0 k' l
 | []=>by simp [zcv,zb0,h]
 |e::l=>by
  unfold zcv;by_cases h1:k=e.1
  ·rw[if_pos h1];unfold zb0;rw[if_neg h,if_neg (by rw[←h1];exact h)]
  ·rw[if_neg h1];unfold zb0;split
   ·rfl
   ·exact zf9 v h l
end
def zbw (am:List ((Int×Int)×Int)) (ws:List (Nat×Nat)):Prop:= ∀b k:Nat,((b,k)∈ws→zb0 ((b:Int),(k:Int)) am=some 1)∧((b,k)∉ws→zb0 ((b:Int),(k:Int)) am=none∨zb0 ((b:Int),(k:Int)) am=some 0)
theorem zbw.nil:zbw [] []:=fun b k=>⟨(fun h=>by cases h),fun _=> .inl rfl⟩
theorem zbw.put {am:List ((Int×Int)×Int)} {ws:List (Nat×Nat)} (h:zbw am ws) (b k:Nat):zbw (zcv ((b:Int),(k:Int)) 1 am) (ws++[(b,k)]):=fun b' k'=>by
 by_cases e:((b':Int),(k':Int))=((b:Int),(k:Int))
 ·rw[Prod.mk.injEq] at e;obtain⟨e1,e2⟩:=e;obtain rfl:b'=b:=by omega
  obtain rfl:k'=k:=by omega
  exact⟨fun _=>ziS _ _ _,fun hn=>absurd (List.mem_append_right _ (List.mem_singleton.2 rfl)) hn⟩
 ·have e':(b',k')≠(b,k):=fun h=>e (by rw[Prod.mk.injEq] at h;rw[h.1,h.2]);rw[zf9 _ e];refine⟨fun hm=>?_,fun hm=>?_⟩
  ·rcases List.mem_append.1 hm with hm|hm
   ·exact(h b' k').1 hm
   ·exact absurd (List.mem_singleton.1 hm) e'
  ·exact(h b' k').2 fun h2=>hm (Bi _ h2)
theorem zbw.take {am:List ((Int×Int)×Int)} {ws:List (Nat×Nat)} {b k:Nat} (h:zbw am (ws++[(b,k)])) (I6:(ws++[(b,k)]).Nodup):zbw (zcv ((b:Int),(k:Int)) 0 am) ws:=fun b' k'=>by
 have Ga:(b,k)∉ws:=fun hm=>(List.nodup_append.1 I6).2.2 _ hm _ (List.mem_singleton.2 rfl) rfl;by_cases e:((b':Int),(k':Int))=((b:Int),(k:Int))
 ·rw[Prod.mk.injEq] at e;obtain⟨e1,e2⟩:=e;obtain rfl:b'=b:=by omega
  obtain rfl:k'=k:=by omega
  exact⟨fun hm=>absurd hm Ga,fun _=> .inr (ziS _ _ _)⟩
 ·have e':(b',k')≠(b,k):=fun h=>e (by rw[Prod.mk.injEq] at h;rw[h.1,h.2]);rw[zf9 _ e];refine⟨fun hm=>(h b' k').1 (Bi _ hm),fun hm=>(h b' k').2 fun h2=>?_⟩;rcases List.mem_append.1 h2 with h2|h2
  ·exact hm h2
  ·exact e' (List.mem_singleton.1 h2)
def zdE (p:Nat×Nat):List Value:=[.int .i64 (p.1:Nat), .int .i64 (p.2:Nat)]
theorem zff (ws:List (Nat×Nat)):(ws.flatMap zdE).length=ws.length * 2:=zbm (m:=2) (fun _=>rfl) ws
theorem zfD (ws:List (Nat×Nat)) (b k:Nat):(ws++[(b,k)]).flatMap zdE=ws.flatMap zdE++[.int .i64 (b:Nat), .int .i64 (k:Nat)]:=by rw[Ig];rfl
theorem zmx (ws:List (Nat×Nat)):(ws.flatMap zdE).all zax=true:=by
 rw[List.all_flatMap];exact List.all_eq_true.2 fun i _=>rfl
theorem zr0 (ws:List (Nat×Nat)) (b k:Nat) (sp:List Value):Hf 2 (List.drop (ws.length * 2) ((ws++[(b,k)]).flatMap zdE++sp))=[.int .i64 (b:Nat), .int .i64 (k:Nat)]:=by
 rw[zfD,Uf,List.drop_append_of_le_length (by rw[zff];exact Qe _),Gf (by rw[zff];exact Qe _)];rfl
def WtO (vw:Value) (ws:List (Nat×Nat)) (kw:za):Prop:=(∃a,vw= .slice a 0 0∧ws=[]∧kw=[])∨(∃b cap sp,vw= .slice (some ⟨b,0,none⟩) ws.length cap∧kw=[(b, .cells (ws.flatMap zdE) sp 77)]∧ws.length * 2+sp.length=cap * 2)∨ ∃b sp,vw= .slice (some ⟨b,0,none⟩) ws.length ws.length∧kw=[(b, .cells (ws.flatMap zdE) sp 77)]
def zaB (p:Int×Int):Value:= .agg #[.int .i64 p.1, .int .i64 p.2]
theorem zvL:zfa T 77 zaB:=zrA (T:=T) (t:=77) (e:=3) (k:= .i64) rfl rfl rfl
theorem zeJ (f:Int→Value) (a b:Int) (l:List ((Int×Int)×Int)):zhx T 77 (.agg #[.int .i64 a, .int .i64 b]) (l.map fun p=>(zaB p.1,f p.2))=some ((zb0 (a,b) l).map f):=zck zvL f (a,b) l
theorem ziT (a b v:Int) (l:List ((Int×Int)×Int)):zix T 77 (.agg #[.int .i64 a, .int .i64 b]) (.int .i64 v) (l.map fun p=>(zaB p.1,Yd .i64 p.2))=some ((zcv (a,b) v l).map fun p=>(zaB p.1,Yd .i64 p.2)):=
 zcO zvL (Yd .i64) (a,b) v l
theorem zdF (a b:Int):zeX T 77 (.agg #[.int .i64 a, .int .i64 b]):=zcl zvL (a,b)
theorem znk {ws:List (Nat×Nat)} {am:List ((Int×Int)×Int)} (hw:ws.length≤30000000) (hA:zbw am ws) {b k:Nat} {bp bm:Nat} {vs va vb vsp vk vw:Value} {W:Int} {kw:za} (hO:WtO vw ws kw) {G:zb} {H:za} {R:Value→zb→za→Prop}
  (hR: ∀vw' am' kw',WtO vw' (zcy ws (b,k)) kw'→zbw am' (zcy ws (b,k))→R (.tuple #[]) G ((bp, .cells (PC vs va vb vsp vk vw' (.map (some bm)) W) [] 135):: (bm, .map (am'.map fun p=>(zaB p.1,Yd .i64 p.2))):: (kw'++H))):
  FnT Tryz.prog 104 [.pointer (some ⟨bp,0,none⟩), .int .i64 (b:Nat), .int .i64 (k:Nat)] G ((bp, .cells (PC vs va vb vsp vk vw (.map (some bm)) W) [] 135):: (bm, .map (am.map fun p=>(zaB p.1,Yd .i64 p.2))):: (kw++H)) R:=by
 have U1: ∀x:Value,Fe 1 x=[x]:=fun _=>rfl;by_cases hm:(b,k)∈ws
 ·have hg:=(hA b k).1 hm;have hask:zcy ws (b,k)=ws:=by unfold zcy;rw[if_pos hm]
  rw[hask] at hR;have hR:=hR vw am kw hO hA;refine Ee tok zrZ Tryz.func104 rfl Kk Kk Kn fun M0=>?_;rw[Tryz.results104];have hE:=M0;try simp only[zzs] at hE
  repeat(obtain⟨J0,hE⟩:=hE)
  repeat' first
   |with_reducible first|refine Zd ?_ |refine Ae (fun _=>?_) fun _=>?_ |refine zaF.mk (fun _ _=>?_) fun _=>?_ |refine Nb fun nb A0 C0 B0=>?_ |refine Nr fun nb D0 E0 A0 I0 C0 B0=>?_
   |simp -dsimp -implicitDefEqProofs (disch:=first|exact Kd|fail) only[go_sem,↓reduceIte,seval,zeJ (Yd .i64),zdF,hg,Vh]
  exact Ce hR
 ·have hask:zcy ws (b,k)=ws++[(b,k)]:=by unfold zcy;rw[if_neg hm]
  rw[hask] at hR;have Qa:=hA.put b k;have hg: ∀K:Prop,(zb0 ((b:Int),(k:Int)) am=none→K)→(zb0 ((b:Int),(k:Int)) am=some 0→K)→K:=fun K h1 h2=>((hA b k).2 hm).elim h1 h2;rcases hO with ⟨aa,rfl,rfl,rfl⟩| ⟨bw,cap,sp,rfl,rfl,hc⟩| ⟨bw,sp,rfl,rfl⟩
  ·refine hg _ (fun hg=>?_) fun hg=>?_
   all_goals
    refine Ee tok zrZ Tryz.func104 rfl Kk Kk Kn fun M0=>?_;rw[Tryz.results104];have hE:=M0;try simp only[zzs] at hE
    repeat(obtain⟨J0,hE⟩:=hE)
    repeat' first
     |with_reducible first|refine Zd ?_ |refine Ae (fun _=>?_) fun _=>?_ |refine zaF.mk (fun _ _=>?_) fun _=>?_ |refine Nb fun nb A0 C0 B0=>?_ |refine Nr fun nb D0 E0 A0 I0 C0 B0=>?_
     |simp -dsimp -implicitDefEqProofs (disch:=first|exact Kd|fail) only[go_sem,↓reduceIte,seval, -He,zeJ (Yd .i64),ziT,zdF,hg,Vh,Xh,U1]
    unfold zo;refine Xf (H':=(bp, .cells (PC vs va vb vsp vk (.slice (some ⟨nb,0,none⟩) 1 E0) (.map (some bm)) W) [] 135):: (bm, .map ((zcv ((b:Int),(k:Int)) 1 am).map fun p=>(zaB p.1,Yd .i64 p.2))):: ([(nb, .cells [.int .i64 (b:Nat), .int .i64 (k:Nat)] D0 77)]++H)) Ks ?_;exact hR _ _ _ (.inr (.inl ⟨nb,E0,D0,rfl,rfl,by simp at I0⊢;omega⟩)) Qa
  ·have hl:=zff ws;have ho:=zmx ws;refine hg _ (fun hg=>?_) fun hg=>?_
   all_goals
    refine Ee tok zrZ Tryz.func104 rfl Kk Kk Kn fun M0=>?_;rw[Tryz.results104];have hE:=M0;try simp only[zzs] at hE
    repeat(obtain⟨J0,hE⟩:=hE)
    repeat' first
     |with_reducible first|refine Zd ?_ |refine Ae (fun _=>?_) fun _=>?_ |refine zaF.mk (fun _ _=>?_) fun _=>?_ |refine Nb fun nb A0 C0 B0=>?_ |refine Nr fun nb D0 E0 A0 I0 C0 B0=>?_
     |simp -dsimp -implicitDefEqProofs (disch:=first|exact Kd|fail) only[go_sem,↓reduceIte,seval, -He,zeJ (Yd .i64),ziT,zdF,hg,Vh,Xh,U1,hl,ho]
    unfold zo;refine Xf (H':=(bp, .cells (PC vs va vb vsp vk (.slice (some ⟨nb,0,none⟩) (ws.length+1) E0) (.map (some bm)) W) [] 135):: (bm, .map ((zcv ((b:Int),(k:Int)) 1 am).map fun p=>(zaB p.1,Yd .i64 p.2))):: ([(nb, .cells (ws.flatMap zdE++[.int .i64 (b:Nat), .int .i64 (k:Nat)]) D0 77)]++H)) Ks ?_;exact hR _ _ _ (.inr (.inl ⟨nb,E0,D0,by simp,by rw[zfD],by simp only[Ve,Bg];omega⟩)) Qa
  ·have hl:=zff ws;have ho:=zmx ws;refine hg _ (fun hg=>?_) fun hg=>?_
   all_goals
    refine Ee tok zrZ Tryz.func104 rfl Kk Kk Kn fun M0=>?_;rw[Tryz.results104];have hE:=M0;try simp only[zzs] at hE
    repeat(obtain⟨J0,hE⟩:=hE)
    repeat' first
     |with_reducible refine Br.yes ?_
     |with_reducible refine Br.no ?_
     |with_reducible refine Br.dec (fun _=>?_) (fun _=>?_)
     |with_reducible refine Br.beqB (fun _=>?_) (fun _=>?_)
     |with_reducible refine Br.beqb (fun _=>?_) (fun _=>?_)
     |with_reducible refine Br.mk (fun _=>?_) (fun _=>?_)
     |with_reducible refine zaF.mk (fun _ _=>?_) (fun _=>?_)
     |with_reducible refine zeC.zero ?_
     | ((with_reducible refine zda.mk fun nb A0=>?_);have C0:=A0.1.1;have B0:=A0.1.2;try simp only[zdd,zde,zfW,zci,zdf,ze9,and_true] at B0)
     | ((with_reducible refine zbX.mk fun nb D0 E0 A0 I0=>?_);have C0:=A0.1.1;have B0:=A0.1.2;try simp only[zdd,zde,zfW,zci,zdf,ze9,and_true] at B0)
     |simp -dsimp -implicitDefEqProofs (disch:=first|exact Kd|fail) only[go_sem,↓reduceIte,seval, -He,zeJ (Yd .i64),ziT,zdF,hg,Vh,Xh,U1,hl,ho]
     |with_reducible refine zeC.tight ?_
    unfold zo;refine Xf (H':=(bp, .cells (PC vs va vb vsp vk (.slice (some ⟨nb,0,none⟩) (ws.length+1) E0) (.map (some bm)) W) [] 135):: (bm, .map ((zcv ((b:Int),(k:Int)) 1 am).map fun p=>(zaB p.1,Yd .i64 p.2))):: ([(nb, .cells (ws.flatMap zdE++[.int .i64 (b:Nat), .int .i64 (k:Nat)]) D0 77)]++H)) Ks ?_;exact hR _ _ _ (.inr (.inl ⟨nb,E0,D0,by simp,by rw[zfD],by simp only[Ve,Bg];omega⟩)) Qa
theorem zyO {ws:List (Nat×Nat)} {b k:Nat} {am:List ((Int×Int)×Int)} (hw:ws.length≤30000000) (hA:zbw am (ws++[(b,k)])) (I6:(ws++[(b,k)]).Nodup) {bp bm:Nat} {vs va vb vsp vk vw:Value} {W:Int} {kw:za} (hO:WtO vw (ws++[(b,k)]) kw) {G:zb} {H:za} {R:Value→zb→za→Prop}
  (hR: ∀vw' am' kw',WtO vw' ws kw'→zbw am' ws→R (.agg #[.int .i64 (b:Nat), .int .i64 (k:Nat)]) G ((bp, .cells (PC vs va vb vsp vk vw' (.map (some bm)) W) [] 135):: (bm, .map (am'.map fun p=>(zaB p.1,Yd .i64 p.2))):: (kw'++H))):
  FnT Tryz.prog 105 [.pointer (some ⟨bp,0,none⟩)] G ((bp, .cells (PC vs va vb vsp vk vw (.map (some bm)) W) [] 135):: (bm, .map (am.map fun p=>(zaB p.1,Yd .i64 p.2))):: (kw++H)) R:=by
 have Qa:=hA.take I6;have hl:=zff (ws++[(b,k)]);have P4:(ws++[(b,k)]).length=ws.length+1:=by simp
 rw[P4] at hl
 have key: ∃bw cap sp,vw= .slice (some ⟨bw,0,none⟩) (ws.length+1) cap∧kw=[(bw, .cells ((ws++[(b,k)]).flatMap zdE) sp 77)]∧ws.length+1≤cap:=by
  rcases hO with ⟨aa,_,h,_⟩| ⟨bw,cap,sp,rfl,rfl,hc⟩| ⟨bw,sp,rfl,rfl⟩
  ·simp at h
  ·exact⟨bw,cap,sp,by rw[P4],rfl,by rw[P4] at hc;omega⟩
  ·exact⟨bw,_,sp,by rw[P4],rfl,Qe _⟩
 obtain⟨bw,cap,sp,rfl,rfl,D5⟩:=key;have hla:=zr0 ws b k sp;have e1:((ws.length+1 :Nat):Int) - 1=((ws.length:Nat):Int):=by omega
 refine Ee tok zyM Tryz.func105 rfl Kk Kk Kn fun M0=>?_;rw[Tryz.results105];have hE:=M0;try simp only[zzs] at hE
 repeat(obtain⟨J0,hE⟩:=hE)
 repeat' first
  |with_reducible first|refine Zd ?_ |refine Ae (fun _=>?_) fun _=>?_ |refine Nb fun nb A0 C0 B0=>?_
  |simp -dsimp -implicitDefEqProofs (disch:=first|exact Kd|fail) only[go_sem,↓reduceIte,seval,ziT,zdF,hl,hla,e1,Nat.sub_zero,Option.isSome_some,true_and]
 rename_i bz y1 y2 y3
 repeat' first
  |with_reducible first|refine Zd ?_ |refine Ae (fun _=>?_) fun _=>?_ |refine Nb fun nb A0 C0 B0=>?_
  |simp -dsimp -implicitDefEqProofs (disch:=first|exact Kd|fail) only[go_sem,↓reduceIte,seval,ziT,zdF,hl,hla,e1,Nat.sub_zero]
  |with_reducible refine Wg tok mixed zyM 4 [3,4] (.op 0 .plain (.op 1 .plain (.op 2 .plain (.op 3 .held (.op 4 .held (.op 5 .plain .nil)))))) Kk [(bp, .cells (PC vs va vb vsp vk (.slice (some ⟨bw,0,none⟩) ws.length ws.length) (.map (some bm)) W) [] 135),(nb, .cells [.int .i64 (b:Nat), .int .i64 (k:Nat)] [] 77)] Ks ?_
 unfold zo;refine Upd.refind bw (ws.flatMap zdE) ([.int .i64 (b:Nat), .int .i64 (k:Nat)]++sp) (xs:=(ws++[(b,k)]).flatMap zdE) (sp:=sp) (e:=77) ?_ (by rw[zfD,Uf]) ?_
 ·simp -dsimp -implicitDefEqProofs (disch:=first|exact Kd|fail) only[go_sem,↓reduceIte,seval]
 ·simp -dsimp -implicitDefEqProofs (disch:=first|exact Kd|fail) only[go_sem,↓reduceIte,seval]
  refine Xf (H':=(bp, .cells (PC vs va vb vsp vk (.slice (some ⟨bw,0,none⟩) ws.length ws.length) (.map (some bm)) W) [] 135):: (bm, .map ((zcv ((b:Int),(k:Int)) 0 am).map fun p=>(zaB p.1,Yd .i64 p.2))):: ([(bw, .cells (ws.flatMap zdE) ([.int .i64 (b:Nat), .int .i64 (k:Nat)]++sp) 77)]++H)) Ks ?_;exact hR _ _ _ (.inr (.inr ⟨bw,_,rfl,rfl⟩)) Qa
theorem zk8 {w b:Nat} (hb:b<w) (hw:w≤70000) {fr to mk:Nat→Nat} (hbd:fr b≤to b∧to b≤70000) {bp b4 bx csp:Nat} {spx:List Value} {vs va vb vk vw vm:Value} {W:Int} {G:zb} {H:za} {R:Value→zb→za→Prop}
  (hR:R (.int .i64 ((to b - fr b:Nat):Int)) G ((b4, .cells [.pointer (some ⟨bp,0,none⟩)] [] 129):: (bp, .cells (PC vs va vb (.slice (some ⟨bx,0,none⟩) w csp) vk vw vm W) [] 135):: (bx, .cells (zF w fr to mk) spx 159)::H)):
  FnT Tryz.prog 161 [.int .i64 (b:Nat), .pointer (some ⟨b4,0,none⟩)] G ((b4, .cells [.pointer (some ⟨bp,0,none⟩)] [] 129):: (bp, .cells (PC vs va vb (.slice (some ⟨bx,0,none⟩) w csp) vk vw vm W) [] 135):: (bx, .cells (zF w fr to mk) spx 159)::H) R:=by
 have g0:=zk6 (fr:=fr) (to:=to) (mk:=mk) (sp:=spx) hb;have g1:=zhg (fr:=fr) (to:=to) (mk:=mk) (sp:=spx) hb;have e1:((to b:Nat):Int) - ((fr b:Nat):Int)=((to b - fr b:Nat):Int):=by omega
 refine Ee tok [0,1,3] Tryz.func161 rfl Kk Kk Kn fun M0=>?_;rw[Tryz.results161];have hE:=M0;try simp only[zzs] at hE
 repeat(obtain⟨J0,hE⟩:=hE)
 repeat' first
  |with_reducible first|refine Zd ?_ |refine Ae (fun _=>?_) fun _=>?_
  |simp -dsimp -implicitDefEqProofs (disch:=first|exact Kd|fail) only[go_sem,↓reduceIte,seval,g0,g1,e1]
  |with_reducible refine Tri.drawM tok mixed [0,1,3] 1 [0,3,7,8,11,15] (.op 0 .held (.op 1 .plain (.op 2 .plain (.op 3 .held (.op 4 .plain (.op 5 .plain (.op 6 .plain (.op 7 .held (.op 8 .held (.op 9 .plain (.op 10 .plain (.op 11 .held (.op 12 .plain (.op 13 .plain (.op 14 .plain (.op 15 .held (.op 16 .plain (.op 17 .plain .nil)))))))))))))))))) Kk _ (List.Sublist.refl _) ?_
 all_goals refine De ?_ hR ?_
 any_goals first|exact Ks|skip
 rfl
theorem zvM {ws:List (Nat×Nat)} {am:List ((Int×Int)×Int)} (hw:ws.length≤30000000) (hA:zbw am ws) {n w W k old fresh:Nat} (hwn:w≤70000) (ho:old<w) (hf:fresh<w) {fr to mk:Nat→Nat} (hbd: ∀b,b<w→fr b≤to b∧to b≤70000) {bp bm bx csp:Nat} {spx:List Value} {vs va vb vk vw:Value} {kw:za} (hO:WtO vw ws kw) {G:zb} {H:za} {R:Value→zb→za→Prop}
  (hR: ∀vw' am' kw',WtO vw' (zcb (decide (to fresh - fr fresh≤to old - fr old)) old fresh ws k) kw'→zbw am' (zcb (decide (to fresh - fr fresh≤to old - fr old)) old fresh ws k)→R (.tuple #[]) G ((bp, .cells (PC vs va vb (.slice (some ⟨bx,0,none⟩) w csp) vk vw' (.map (some bm)) (W:Nat)) [] 135):: (bx, .cells (zF w fr to mk) spx 159):: (bm, .map (am'.map fun p=>(zaB p.1,Yd .i64 p.2))):: (kw'++H))):
  FnT Tryz.prog 136 [.pointer (some ⟨bp,0,none⟩), .int .i64 (old:Nat), .int .i64 (fresh:Nat), .int .i64 (k:Nat)] G ((bp, .cells (PC vs va vb (.slice (some ⟨bx,0,none⟩) w csp) vk vw (.map (some bm)) (W:Nat)) [] 135):: (bx, .cells (zF w fr to mk) spx 159):: (bm, .map (am.map fun p=>(zaB p.1,Yd .i64 p.2))):: (kw++H)) R:=by
 by_cases hm:(old,k)∈ws
 ·have hg:=(hA old k).1 hm;have hl:zcb (decide (to fresh - fr fresh≤to old - fr old)) old fresh ws k=zcy ws (fresh,k):=by unfold zcb;rw[if_pos (.inl hm)]
  rw[hl] at hR;refine Ee tok zvI Tryz.func136 rfl Kk Kk Kn fun M0=>?_;rw[Tryz.results136];have hE:=M0;try simp only[zzs] at hE
  repeat(obtain⟨J0,hE⟩:=hE)
  repeat' first
   |with_reducible first|refine Zd ?_ |refine Ae (fun _=>?_) fun _=>?_ |refine zaF.mk (fun _ _=>?_) fun _=>?_ |refine Nb fun nb A0 C0 B0=>?_ |refine Nr fun nb D0 E0 A0 I0 C0 B0=>?_
   |simp -dsimp -implicitDefEqProofs (disch:=first|exact Kd|fail) only[go_sem,↓reduceIte,seval,zeJ (Yd .i64),zdF,hg,Vh]
  refine Th (Uh (H':=(bp, .cells (PC vs va vb (.slice (some ⟨bx,0,none⟩) w csp) vk vw (.map (some bm)) (W:Nat)) [] 135):: (bm, .map (am.map fun p=>(zaB p.1,Yd .i64 p.2))):: (kw++((bx, .cells (zF w fr to mk) spx 159)::H))) (znk hw hA hO fun vw' am' kw' K9 L9=>?_) Ks);refine Oe (H':=(bp, .cells (PC vs va vb (.slice (some ⟨bx,0,none⟩) w csp) vk vw' (.map (some bm)) (W:Nat)) [] 135):: (bx, .cells (zF w fr to mk) spx 159):: (bm, .map (am'.map fun p=>(zaB p.1,Yd .i64 p.2))):: (kw'++H)) Ks (Ce ?_)
  repeat' first
   |with_reducible first|refine Zd ?_ |refine Ae (fun _=>?_) fun _=>?_ |refine zaF.mk (fun _ _=>?_) fun _=>?_ |refine Nb fun nb A0 C0 B0=>?_ |refine Nr fun nb D0 E0 A0 I0 C0 B0=>?_
   |simp -dsimp -implicitDefEqProofs (disch:=first|exact Kd|fail) only[go_sem,↓reduceIte,seval]
  exact Ce (hR vw' am' kw' K9 L9)
 ·have hg: ∀K:Prop,(zb0 ((old:Int),(k:Int)) am=none→K)→(zb0 ((old:Int),(k:Int)) am=some 0→K)→K:=fun K h1 h2=>((hA old k).2 hm).elim h1 h2;have hbo:=hbd old ho;have R2:=hbd fresh hf;by_cases P0:to fresh - fr fresh≤to old - fr old
  ·have hl:zcb (decide (to fresh - fr fresh≤to old - fr old)) old fresh ws k=zcy ws (fresh,k):=by unfold zcb;rw[if_pos (.inr (decide_eq_true P0))]
   rw[hl] at hR;refine hg _ (fun hg=>?_) fun hg=>?_
   all_goals
    refine Ee tok zvI Tryz.func136 rfl Kk Kk Kn fun M0=>?_;rw[Tryz.results136];have hE:=M0;try simp only[zzs] at hE
    repeat(obtain⟨J0,hE⟩:=hE)
    repeat' first
     |with_reducible first|refine Zd ?_ |refine Ae (fun _=>?_) fun _=>?_ |refine zaF.mk (fun _ _=>?_) fun _=>?_ |refine Nb fun nb A0 C0 B0=>?_ |refine Nr fun nb D0 E0 A0 I0 C0 B0=>?_
     |simp -dsimp -implicitDefEqProofs (disch:=first|exact Kd|fail) only[go_sem,↓reduceIte,seval,zeJ (Yd .i64),zdF,hg,Vh,Xh]
     |with_reducible refine zk8 hf hwn R2 ?_
     |with_reducible refine zk8 ho hwn hbo ?_
    refine Th (Uh (H':=(bp, .cells (PC vs va vb (.slice (some ⟨bx,0,none⟩) w csp) vk vw (.map (some bm)) (W:Nat)) [] 135):: (bm, .map (am.map fun p=>(zaB p.1,Yd .i64 p.2))):: (kw++((bx, .cells (zF w fr to mk) spx 159)::H))) (znk hw hA hO fun vw' am' kw' K9 L9=>?_) Ks);refine Oe (H':=(bp, .cells (PC vs va vb (.slice (some ⟨bx,0,none⟩) w csp) vk vw' (.map (some bm)) (W:Nat)) [] 135):: (bx, .cells (zF w fr to mk) spx 159):: (bm, .map (am'.map fun p=>(zaB p.1,Yd .i64 p.2))):: (kw'++H)) Ks (Ce ?_)
    repeat' first
     |with_reducible first|refine Zd ?_ |refine Ae (fun _=>?_) fun _=>?_ |refine zaF.mk (fun _ _=>?_) fun _=>?_ |refine Nb fun nb A0 C0 B0=>?_ |refine Nr fun nb D0 E0 A0 I0 C0 B0=>?_
     |simp -dsimp -implicitDefEqProofs (disch:=first|exact Kd|fail) only[go_sem,↓reduceIte,seval]
    exact Ce (hR vw' am' kw' K9 L9)
  ·have hl:zcb (decide (to fresh - fr fresh≤to old - fr old)) old fresh ws k=zcy ws (old,k):=by unfold zcb;rw[if_neg];rintro(h|h);exact hm h;exact P0 (of_decide_eq_true h)
   rw[hl] at hR;refine hg _ (fun hg=>?_) fun hg=>?_
   all_goals
    refine Ee tok zvI Tryz.func136 rfl Kk Kk Kn fun M0=>?_;rw[Tryz.results136];have hE:=M0;try simp only[zzs] at hE
    repeat(obtain⟨J0,hE⟩:=hE)
    repeat' first
     |with_reducible first|refine Zd ?_ |refine Ae (fun _=>?_) fun _=>?_ |refine zaF.mk (fun _ _=>?_) fun _=>?_ |refine Nb fun nb A0 C0 B0=>?_ |refine Nr fun nb D0 E0 A0 I0 C0 B0=>?_
     |simp -dsimp -implicitDefEqProofs (disch:=first|exact Kd|fail) only[go_sem,↓reduceIte,seval,zeJ (Yd .i64),zdF,hg,Vh,Xh]
     |with_reducible refine zk8 hf hwn R2 ?_
     |with_reducible refine zk8 ho hwn hbo ?_
    refine Th (Uh (H':=(bp, .cells (PC vs va vb (.slice (some ⟨bx,0,none⟩) w csp) vk vw (.map (some bm)) (W:Nat)) [] 135):: (bm, .map (am.map fun p=>(zaB p.1,Yd .i64 p.2))):: (kw++((bx, .cells (zF w fr to mk) spx 159)::H))) (znk hw hA hO fun vw' am' kw' K9 L9=>?_) Ks);refine Oe (H':=(bp, .cells (PC vs va vb (.slice (some ⟨bx,0,none⟩) w csp) vk vw' (.map (some bm)) (W:Nat)) [] 135):: (bx, .cells (zF w fr to mk) spx 159):: (bm, .map (am'.map fun p=>(zaB p.1,Yd .i64 p.2))):: (kw'++H)) Ks (Ce ?_)
    repeat' first
     |with_reducible first|refine Zd ?_ |refine Ae (fun _=>?_) fun _=>?_ |refine zaF.mk (fun _ _=>?_) fun _=>?_ |refine Nb fun nb A0 C0 B0=>?_ |refine Nr fun nb D0 E0 A0 I0 C0 B0=>?_
     |simp -dsimp -implicitDefEqProofs (disch:=first|exact Kd|fail) only[go_sem,↓reduceIte,seval]
    exact Ce (hR vw' am' kw' K9 L9)
theorem zz3 {ws:List (Nat×Nat)} {am:List ((Int×Int)×Int)} {w W old fresh:Nat} (hw:ws.length+W≤29000000) (hA:zbw am ws) (hwn:w≤70000) (hW:W≤70000) (ho:old<w) (hf:fresh<w) {fr to mk:Nat→Nat} (hbd: ∀b,b<w→fr b≤to b∧to b≤70000) {bp bm bx csp:Nat} {spx:List Value} {vs va vb vk vw v72 v73 v74:Value} {kw:za} (hO:WtO vw ws kw) {G:zb} {H:za}:
  Tri Tryz.prog Tryz.f106.ntmps (piece [1,1,1,1,1,0,0,1,1,0,0,1,1,1] Tryz.f106) G [(0, .pointer (some ⟨bp,0,none⟩)),(13, .int .i64 (old:Nat)),(14, .int .i64 (fresh:Nat)),(72,v72),(73,v73),(74,v74)] ((bp, .cells (PC vs va vb (.slice (some ⟨bx,0,none⟩) w csp) vk vw (.map (some bm)) (W:Nat)) [] 135):: (bx, .cells (zF w fr to mk) spx 159):: (bm, .map (am.map fun p=>(zaB p.1,Yd .i64 p.2))):: (kw++H)) (onlyN fun G' l H'=> ∃vw' am' kw',WtO vw' (zcq (decide (to fresh - fr fresh≤to old - fr old)) old fresh ws W) kw'∧zbw am' (zcq (decide (to fresh - fr fresh≤to old - fr old)) old fresh ws W)∧G'=G∧zy [0,72,73,74] l=[(0, .pointer (some ⟨bp,0,none⟩)),(72,v72),(73,v73),(74,v74)]∧H'=(bp, .cells (PC vs va vb (.slice (some ⟨bx,0,none⟩) w csp) vk vw' (.map (some bm)) (W:Nat)) [] 135):: (bx, .cells (zF w fr to mk) spx 159):: (bm, .map (am'.map fun p=>(zaB p.1,Yd .i64 p.2))):: (kw'++H)):=by
 refine Tri.sepT fun M1=>?_;have hE:=M1;try simp only[zzs] at hE
 repeat(obtain⟨J0,hE⟩:=hE)
 refine Xg (f:=Tryz.f106) rfl ?_;refine Yg tok zd5 Kk ?_
 repeat' first
  |with_reducible first|refine Zd ?_ |refine Ae (fun _=>?_) fun _=>?_ |refine Nb fun nb A0 C0 B0=>?_ |refine Nr fun nb D0 E0 A0 I0 C0 B0=>?_
  |simp -dsimp -implicitDefEqProofs (disch:=first|exact Kd|fail) only[go_sem,↓reduceIte,seval]
 refine Je tok zd5 Kk [0,13,14,72,73,74,86,87] (fun q G' l H'=> ∃ (j:Nat) (vw':Value) (am':List ((Int×Int)×Int)) (kw':za),j+q=W∧WtO vw' (zcq (decide (to fresh - fr fresh≤to old - fr old)) old fresh ws j) kw'∧zbw am' (zcq (decide (to fresh - fr fresh≤to old - fr old)) old fresh ws j)∧G'=G∧H'=(bp, .cells (PC vs va vb (.slice (some ⟨bx,0,none⟩) w csp) vk vw' (.map (some bm)) (W:Nat)) [] 135):: (bx, .cells (zF w fr to mk) spx 159):: (bm, .map (am'.map fun p=>(zaB p.1,Yd .i64 p.2))):: (kw'++H)∧l=[(0, .pointer (some ⟨bp,0,none⟩)),(13, .int .i64 (old:Nat)),(14, .int .i64 (fresh:Nat)),(72,v72),(73,v73),(74,v74),(86, .int .i64 (W:Nat)),(87, .int .i64 (j:Nat))]) (W) ?_ ?_
 ·exact Ce ⟨0,vw,am,kw,by omega,hO,hA,rfl,rfl,rfl⟩
 ·rintro q G1 l H1 S0 V0 ⟨j,vw',am',kw',hjq,K9,L9,rfl,rfl,rfl⟩;have X1:=(ziO (decide (to fresh - fr fresh≤to old - fr old)) old fresh ws j).2.2.2.2.1;by_cases hj:j<W
  ·repeat' first
    |with_reducible first|refine Zd ?_ |refine Ae (fun _=>?_) fun _=>?_ |refine Nb fun nb A0 C0 B0=>?_ |refine Nr fun nb D0 E0 A0 I0 C0 B0=>?_
    |simp -dsimp -implicitDefEqProofs (disch:=first|exact Kd|fail) only[go_sem,↓reduceIte,seval]
   refine zvM (n:=0) Ko L9 hwn ho hf hbd K9 fun vw2 am2 kw2 hO2 Qa=>?_;rw[←zk5] at hO2 Qa
   repeat' first
    |with_reducible first|refine Zd ?_ |refine Ae (fun _=>?_) fun _=>?_ |refine Nb fun nb A0 C0 B0=>?_ |refine Nr fun nb D0 E0 A0 I0 C0 B0=>?_
    |simp -dsimp -implicitDefEqProofs (disch:=first|exact Kd|fail) only[go_sem,↓reduceIte,seval]
   exact Ce ⟨q - 1,by omega,j+1,vw2,am2,kw2,by omega,hO2,Qa,rfl,rfl,rfl⟩
  ·obtain rfl:j=W:=by omega
   repeat' first
    |with_reducible first|refine Zd ?_ |refine Ae (fun _=>?_) fun _=>?_ |refine Nb fun nb A0 C0 B0=>?_ |refine Nr fun nb D0 E0 A0 I0 C0 B0=>?_
    |simp -dsimp -implicitDefEqProofs (disch:=first|exact Kd|fail) only[go_sem,↓reduceIte,seval]
   exact Ce ⟨vw',am',kw',K9,L9,rfl,rfl,rfl⟩
def zc7 (dl:Nat→Nat) (n:Nat) (st:Nat→Nat) (f i:Nat):List Int:=(Hg i).flatMap fun j=>zb7 dl n (st (f+j))
theorem zk9 (dl:Nat→Nat) (n:Nat) (st:Nat→Nat) (f i:Nat):zc7 dl n st f (i+1)=zc7 dl n st f i++zb7 dl n (st (f+i)):=by
 unfold zc7;rw[Sf,Ig];simp
theorem ziU (dl:Nat→Nat) (n:Nat) (st:Nat→Nat) (f:Nat): ∀i,(zc7 dl n st f i).length≤i * n
 |0=>by simp [zc7]
 |i+1=>by
  rw[zk9,Ve,Bh];have h1:=ziU dl n st f i;have h2:=zki dl n (st (f+i));omega
theorem ztQ {dl:Nat→Nat} {n:Nat} {st:Nat→Nat} {f i:Nat} {x:Int}:x∈zc7 dl n st f i↔ ∃s:Nat,s<n∧(∃j,j<i∧dl s=st (f+j))∧x=s:=by
 unfold zc7;simp only[List.mem_flatMap,List.mem_range,zvK];constructor
 ·rintro⟨j,h1,s,h2,h3,h4⟩;exact⟨s,h2,⟨j,h1,h3⟩,h4⟩
 ·rintro⟨s,h2,⟨j,h1,h3⟩,h4⟩;exact⟨j,h1,s,h2,h3,h4⟩
theorem zz4 {n w W:Nat} {st pl bf fr to mk:Nat→Nat} (hP:PInv n w st pl bf fr to mk) (hn:n≤66000) {b k:Nat} (hb:b<w) (hk:k<W) {dl:Nat→Nat→Nat} {bp bs bx csp:Nat} {spx:List Value} {va vb vk vw vm:Value} {G:zb} {H:za} (N9:BkT G n W dl vk):
  Tri Tryz.prog Tryz.f106.ntmps (piece [1,0] Tryz.f106) G [(0, .pointer (some ⟨bp,0,none⟩)),(1, .int .i64 (b:Nat)),(2, .int .i64 (k:Nat)),(6, .slice none 0 0)] ((bp, .cells (PC (.slice (some ⟨bs,0,none⟩) n n) va vb (.slice (some ⟨bx,0,none⟩) w csp) vk vw vm (W:Nat)) [] 135):: (bx, .cells (zF w fr to mk) spx 159):: (bs, .cells (zk n st) [] 3)::H) (onlyN fun G' l H'=> ∃vf kf,zO [] 3 1 vf (zc7 (dl k) n st (fr b) (to b - fr b)).length ((zc7 (dl k) n st (fr b) (to b - fr b)).map (Yd .i64)) kf∧G'=G∧zy [0,6] l=[(0, .pointer (some ⟨bp,0,none⟩)),(6,vf)]∧H'=(bp, .cells (PC (.slice (some ⟨bs,0,none⟩) n n) va vb (.slice (some ⟨bx,0,none⟩) w csp) vk vw vm (W:Nat)) [] 135):: (bx, .cells (zF w fr to mk) spx 159):: (bs, .cells (zk n st) [] 3):: (kf++H)):=by
 have h1:=hP.ne b hb;have h2:=hP.le b hb;obtain⟨ak,ck,rk,rfl,X9,I2,hrc,hrr⟩:=N9;obtain⟨a2,c2,rv,e2,V1,Z0,J4,T3⟩:=hrr k hk Ko;have hadk:Adr ak:=X9.adr Ko;have Z8:0<n:=by omega
 have V6:Adr a2:=V1.adr Ko;refine Tri.sepT fun M1=>?_;have hE:=M1;try simp only[zzs] at hE
 repeat(obtain⟨J0,hE⟩:=hE)
 refine Xg (f:=Tryz.f106) rfl ?_;refine Yg tok zd5 Kk ?_
 repeat' first
  |with_reducible first|refine Zd ?_ |refine Ae (fun _=>?_) fun _=>?_ |refine Nb fun nb A0 C0 B0=>?_ |refine Nr fun nb D0 E0 A0 I0 C0 B0=>?_
  |simp -dsimp -implicitDefEqProofs (disch:=first|exact Kd|fail) only[go_sem,↓reduceIte,seval]
  |with_reducible refine zov hP Ko hb ?_
 refine Je tok zd5 Kk [0,2,6,18,19,20] (fun q G' l H'=> ∃ (i:Nat) (vf:Value) (kf:za),i+q=to b - fr b∧zO [] 3 1 vf (zc7 (dl k) n st (fr b) i).length ((zc7 (dl k) n st (fr b) i).map (Yd .i64)) kf∧G'=G∧H'=(bp, .cells (PC (.slice (some ⟨bs,0,none⟩) n n) va vb (.slice (some ⟨bx,0,none⟩) w csp) (.slice ak W ck) vw vm (W:Nat)) [] 135):: (bx, .cells (zF w fr to mk) spx 159):: (bs, .cells (zk n st) [] 3):: (kf++H)∧l=[(0, .pointer (some ⟨bp,0,none⟩)),(2, .int .i64 (k:Nat)),(6,vf),(18, .slice (some ⟨bs,fr b,none⟩) (to b - fr b) (to b - fr b)),(19, .int .i64 ((to b - fr b:Nat):Int)),(20, .int .i64 (i:Nat))]) ((to b - fr b)) ?_ ?_
 ·exact Ce ⟨0,_,[],by omega, .inl ⟨none,rfl,rfl,rfl,rfl⟩,rfl,rfl,rfl⟩
 ·rintro q G1 l H1 S0 V0 ⟨i,vf,kf,Q5,hO,rfl,rfl,rfl⟩;by_cases hi:i<to b - fr b
  ·have A5:fr b+i<n:=by omega
   have gs:=zdD st A5;have N1:=hP.st_lt _ A5;obtain⟨a3,c3,e3,D2,H9⟩:=T3 _ N1 Ko;have B9:=ziU (dl k) n st (fr b) i;have J3:=zki (dl k) n (st (fr b+i));have hmul:i * n≤66000 * 66000:=Yh Ko hn;have E8:=zk9 (dl k) n st (fr b) i;have hrall:=fun(H:za) (k':List Value→Prop)=>D2.rdSlAll (n:=(zb7 (dl k) n (st (fr b+i))).length) (by rw[Be]) H k';rcases hO with ⟨aa,rfl,hx0,hx,rfl⟩| ⟨bfm,cfm,spf,rfl,rfl,hx,hcf⟩
   ·have hE:=V0;try simp only[zzs] at hE
    repeat(obtain⟨J0,hE⟩:=hE)
    have K5:zc7 (dl k) n st (fr b) i=[]:=Df hx0;rw[K5,Af] at E8
    repeat' first
     |with_reducible first|refine Zd ?_ |refine Ae (fun _=>?_) fun _=>?_ |refine Nb fun nb A0 C0 B0=>?_ |refine Nr fun nb D0 E0 A0 I0 C0 B0=>?_
     |simp -dsimp -implicitDefEqProofs (disch:=first|exact Kd|fail) only[go_sem,↓reduceIte,seval,gs,Ie X9,e2,Ie V1,e3,hrall]
    ·rename_i h0;have hp0:zb7 (dl k) n (st (fr b+i))=[]:=Df h0;exact Ce ⟨q - 1,by omega,i+1, .slice aa 0 0,[],by omega,by rw[E8,hp0];exact .inl ⟨aa,rfl,rfl,rfl,rfl⟩,rfl,rfl,rfl⟩
    ·refine Xf (H':=(bp, .cells (PC (.slice (some ⟨bs,0,none⟩) n n) va vb (.slice (some ⟨bx,0,none⟩) w csp) (.slice ak W ck) vw vm (W:Nat)) [] 135):: (bx, .cells (zF w fr to mk) spx 159):: (bs, .cells (zk n st) [] 3):: ([(nb, .cells ((zb7 (dl k) n (st (fr b+i))).map (Yd .i64)) D0 3)]++H)) Ks ?_;exact⟨q - 1,by omega,i+1,_,_,by omega,by rw[E8];exact .inr ⟨nb,E0,D0,rfl,rfl,by rw[Be,Gg],by rw[Be];omega⟩,rfl,rfl,rfl⟩
   ·have hE:=V0;try simp only[zzs] at hE
    repeat(obtain⟨J0,hE⟩:=hE)
    rw[Be,Gg] at hx hcf
    repeat' first
     |with_reducible first|refine Zd ?_ |refine Ae (fun _=>?_) fun _=>?_ |refine Nb fun nb A0 C0 B0=>?_ |refine Nr fun nb D0 E0 A0 I0 C0 B0=>?_
     |simp -dsimp -implicitDefEqProofs (disch:=first|exact Kd|fail) only[go_sem,↓reduceIte,seval,gs,Ie X9,e2,Ie V1,e3,hrall,Be]
    refine Xf (H':=(bp, .cells (PC (.slice (some ⟨bs,0,none⟩) n n) va vb (.slice (some ⟨bx,0,none⟩) w csp) (.slice ak W ck) vw vm (W:Nat)) [] 135):: (bx, .cells (zF w fr to mk) spx 159):: (bs, .cells (zk n st) [] 3):: ([(nb, .cells ((zc7 (dl k) n st (fr b) i).map (Yd .i64)++(zb7 (dl k) n (st (fr b+i))).map (Yd .i64)) D0 3)]++H)) Ks ?_;exact⟨q - 1,by omega,i+1,_,_,by omega,by rw[E8];exact .inr ⟨nb,E0,D0,by rw[Ve],by rw[Ke],by rw[Be,Gg],by rw[Be,Ve];omega⟩,rfl,rfl,rfl⟩
  ·obtain rfl:i=to b - fr b:=by omega
   have hE:=V0;try simp only[zzs] at hE
   repeat(obtain⟨J0,hE⟩:=hE)
   repeat' first
    |with_reducible first|refine Zd ?_ |refine Ae (fun _=>?_) fun _=>?_ |refine Nb fun nb A0 C0 B0=>?_ |refine Nr fun nb D0 E0 A0 I0 C0 B0=>?_
    |simp -dsimp -implicitDefEqProofs (disch:=first|exact Kd|fail) only[go_sem,↓reduceIte,seval]
   exact Ce ⟨vf,kf,hO,rfl,rfl,rfl⟩
def zfr (D:List Nat):List Value:=D.map fun c:Nat=>Yd .i64 (c:Int)
theorem zeK (D:List Nat):(zfr D).length=D.length:=Be ..
theorem zz5 {n w:Nat} {st pl bf fr to:Nat→Nat} (hP:PInv n w st pl bf fr to fun _=>0) (hn:n≤66000) {L:List Int} (hL: ∀x∈L,∃s:Nat,s<n∧x=s) (F8:L.length≤5000000000) {a:Option Addr} {c:Nat} {G:zb} (U0:Row G a (L.map (Yd .i64))) {bp bs ba bl bx cb csp:Nat} {spb spx:List Value} {vk vw vm:Value} {W:Int} {H:za}:
  Tri Tryz.prog Tryz.f106.ntmps (piece [1,1,1,0] Tryz.f106) G [(0, .pointer (some ⟨bp,0,none⟩)),(6, .slice a L.length c),(9, .slice none 0 0)] ((bp, .cells (PC (.slice (some ⟨bs,0,none⟩) n n) (.slice (some ⟨ba,0,none⟩) n n) (.slice (some ⟨bl,0,none⟩) n cb) (.slice (some ⟨bx,0,none⟩) w csp) vk vw vm W) [] 135):: (bx, .cells (zF w fr to fun _=>0) spx 159):: (bs, .cells (zk n st) [] 3):: (ba, .cells (zk n pl) [] 3):: (bl, .cells (zk n bf) spb 3)::H) (onlyN fun G' l H'=> ∃st' pl' mk' D vd kd,PInv n w st' pl' bf fr to mk'∧(∀x,x<n→(Mkd pl' bf fr mk' x↔(x:Int)∈L))∧D.Nodup∧(∀c,c∈D→c<w∧1≤mk' c)∧(∀c,c∉D→mk' c=0)∧zO [] 3 1 vd D.length (zfr D) kd∧G'=G∧zy [0,9] l=[(0, .pointer (some ⟨bp,0,none⟩)),(9,vd)]∧H'=(bp, .cells (PC (.slice (some ⟨bs,0,none⟩) n n) (.slice (some ⟨ba,0,none⟩) n n) (.slice (some ⟨bl,0,none⟩) n cb) (.slice (some ⟨bx,0,none⟩) w csp) vk vw vm W) [] 135):: (bx, .cells (zF w fr to mk') spx 159):: (bs, .cells (zk n st') [] 3):: (ba, .cells (zk n pl') [] 3):: (bl, .cells (zk n bf) spb 3):: (kd++H)):=by
 have U1: ∀x:Value,Fe 1 x=[x]:=fun _=>rfl;refine Tri.sepT fun M1=>?_;have hE:=M1;try simp only[zzs] at hE
 repeat(obtain⟨J0,hE⟩:=hE)
 refine Xg (f:=Tryz.f106) rfl ?_;refine Yg tok zd5 Kk ?_
 repeat' first
  |with_reducible first|refine Zd ?_ |refine Ae (fun _=>?_) fun _=>?_ |refine Nb fun nb A0 C0 B0=>?_ |refine Nr fun nb D0 E0 A0 I0 C0 B0=>?_
  |simp -dsimp -implicitDefEqProofs (disch:=first|exact Kd|fail) only[go_sem,↓reduceIte,seval]
 refine Je tok zd5 Kk [0,9,37,38,39] (fun q G' l H'=> ∃ (i:Nat) (st' pl' mk':Nat→Nat) (D:List Nat) (vd:Value) (kd:za),i+q=L.length∧PInv n w st' pl' bf fr to mk'∧(∀x,x<n→(Mkd pl' bf fr mk' x↔(x:Int)∈L.take i))∧D.Nodup∧(∀c,c∈D→c<w∧1≤mk' c)∧(∀c,c∉D→mk' c=0)∧zO [] 3 1 vd D.length (zfr D) kd∧G'=G∧H'=(bp, .cells (PC (.slice (some ⟨bs,0,none⟩) n n) (.slice (some ⟨ba,0,none⟩) n n) (.slice (some ⟨bl,0,none⟩) n cb) (.slice (some ⟨bx,0,none⟩) w csp) vk vw vm W) [] 135):: (bx, .cells (zF w fr to mk') spx 159):: (bs, .cells (zk n st') [] 3):: (ba, .cells (zk n pl') [] 3):: (bl, .cells (zk n bf) spb 3):: (kd++H)∧l=[(0, .pointer (some ⟨bp,0,none⟩)),(9,vd),(37, .slice a L.length c),(38, .int .i64 (L.length:Nat)),(39, .int .i64 (i:Nat))]) (L.length) ?_ ?_
 ·refine Ce ⟨0,st,pl,fun _=>0,[], .slice none 0 0,[],by omega,hP,fun x hx=>⟨fun h=>?_,fun h=>by rw[Se] at h;cases h⟩,List.nodup_nil,fun c h=>(by cases h),fun c _=>rfl, .inl ⟨none,rfl,rfl,rfl,rfl⟩,rfl,rfl,rfl⟩;have h:pl x<fr (bf x)+0:=h;have:=hP.lo x hx;omega
 ·rintro q G1 l H1 S0 V0 ⟨i,st,pl,mk,D,vd,kd,Q5,hP,hM,hD1,hD2,hD3,hO,rfl,rfl,rfl⟩;by_cases hi:i<L.length
  ·obtain⟨s,I1,Ma⟩:=hL _ (Me hi);have hada:Adr a:=U0.adr (by rw[Be];omega);have hbw:=hP.bl_lt s I1;have gb:=zaW bf (sp:=spb) I1;have g2:=zk7 (fr:=fr) (to:=to) (mk:=mk) (sp:=spx) hbw;have D8:D.length≤w:=ze3 hD1 fun c hc=>(hD2 c hc).1;have hw:=hP.nb_le;have B2:L.take (i+1)=L.take i++[(s:Int)]:=by rw[Re hi,Ma]
   have T5: ∀ (pl' mk':Nat→Nat),(∀x,x<n→(Mkd pl' bf fr mk' x↔Mkd pl bf fr mk x∨x=s))→ ∀x,x<n→(Mkd pl' bf fr mk' x↔(x:Int)∈L.take (i+1)):=fun pl' mk' h x hx=>by
    rw[h x hx,hM x hx,B2,Ug,Vg];constructor
    ·rintro(h|h)
     ·exact .inl h
     ·exact .inr (by rw[h])
    ·rintro(h|h)
     ·exact .inl h
     ·exact .inr Ko
   by_cases hz:mk (bf s)=0
   ·have hzi:((mk (bf s):Nat):Int)=0:=by omega
    have hnD:bf s∉D:=fun h=>by have:=(hD2 _ h).2;omega
    have J5: ∀mk':Nat→Nat,(∀b,b≠bf s→mk' b=mk b)→1≤mk' (bf s)→(D++[bf s]).Nodup∧(∀c,c∈D++[bf s]→c<w∧1≤mk' c)∧ ∀c,c∉D++[bf s]→mk' c=0:=fun mk' h1 h2=>by
     refine⟨List.nodup_append.2 ⟨hD1,by simp,fun x hx y hy=>by rw[Vg] at hy;intro e;subst e;subst hy;exact hnD hx⟩,fun c hc=>?_,fun c hc=>?_⟩
     ·rcases List.mem_append.1 hc with hc|hc
      ·rw[h1 c fun e=>hnD (e▸hc)];exact hD2 c hc
      ·rw[Vg] at hc;subst hc;exact⟨hbw,h2⟩
     ·rw[Ug,not_or,Vg] at hc;rw[h1 c hc.2];exact hD3 c hc.1
    have Ga:zfr (D++[bf s])=zfr D++[.int .i64 (bf s:Nat)]:=by unfold zfr;rw[Ke];rfl
    have C1:=zeK D;rcases hO with ⟨aa,rfl,hx0,hx,rfl⟩| ⟨bd,cd,spd,rfl,rfl,hx,hcd⟩
    ·have hDn:D=[]:=Df hx0;subst hDn;have hE:=V0;try simp only[zzs] at hE
     repeat(obtain⟨J0,hE⟩:=hE)
     repeat' first
      |with_reducible first|refine Zd ?_ |refine Ae (fun _=>?_) fun _=>?_ |refine Nb fun nb A0 C0 B0=>?_ |refine Nr fun nb D0 E0 A0 I0 C0 B0=>?_
      |simp -dsimp -implicitDefEqProofs (disch:=first|exact Kd|fail) only[go_sem,↓reduceIte,seval,Ie U0,Le,Ma,gb,g2,hzi,U1]
      |with_reducible refine Wg tok mixed zd5 10 [3,7,10,13] (.op 0 .plain (.op 1 .plain (.op 2 .plain (.op 3 .held (.op 4 .plain (.op 5 .plain (.op 6 .plain (.op 7 .held (.op 8 .plain (.op 9 .plain (.op 10 .held (.op 11 .plain (.op 12 .plain (.op 13 .held (.op 14 .plain .nil))))))))))))))) Kk [(bp, .cells (PC (.slice (some ⟨bs,0,none⟩) n n) (.slice (some ⟨ba,0,none⟩) n n) (.slice (some ⟨bl,0,none⟩) n cb) (.slice (some ⟨bx,0,none⟩) w csp) vk vw vm W) [] 135),(bl, .cells (zk n bf) spb 3),(bx, .cells (zF w fr to mk) spx 159)] Ks ?_
     refine Th (Uh (H':=(bp, .cells (PC (.slice (some ⟨bs,0,none⟩) n n) (.slice (some ⟨ba,0,none⟩) n n) (.slice (some ⟨bl,0,none⟩) n cb) (.slice (some ⟨bx,0,none⟩) w csp) vk vw vm W) [] 135):: (bx, .cells (zF w fr to mk) spx 159):: (bs, .cells (zk n st) [] 3):: (ba, .cells (zk n pl) [] 3):: (bl, .cells (zk n bf) spb 3):: ([(nb, .cells [.int .i64 (bf s:Nat)] D0 3)]++H)) (zow hP Ko I1 fun r st' pl' mk' hP' hM' h1 h2=>Upd.sepI fun R0=>Ce ?_) Ks);obtain⟨f1,f2,f3⟩:=J5 mk' h1 h2;have hE:=R0;try simp only[zzs] at hE
     repeat(obtain⟨J0,hE⟩:=hE)
     repeat' first
      |with_reducible first|refine Zd ?_ |refine Ae (fun _=>?_) fun _=>?_ |refine Nb fun nb A0 C0 B0=>?_ |refine Nr fun nb D0 E0 A0 I0 C0 B0=>?_
      |simp -dsimp -implicitDefEqProofs (disch:=first|exact Kd|fail) only[go_sem,↓reduceIte,seval]
     exact Ce ⟨q - 1,by omega,i+1,st',pl',mk',_,_,_,by omega,hP',T5 pl' mk' hM',f1,f2,f3, .inr ⟨nb,E0,D0,rfl,rfl,rfl,by simp [zfr] at I0⊢;omega⟩,rfl,rfl,rfl⟩
    ·have hE:=V0;try simp only[zzs] at hE
     repeat(obtain⟨J0,hE⟩:=hE)
     rw[C1,Gg] at hx hcd
     repeat' first
      |with_reducible first|refine Zd ?_ |refine Ae (fun _=>?_) fun _=>?_ |refine Nb fun nb A0 C0 B0=>?_ |refine Nr fun nb D0 E0 A0 I0 C0 B0=>?_
      |simp -dsimp -implicitDefEqProofs (disch:=first|exact Kd|fail) only[go_sem,↓reduceIte,seval,Ie U0,Le,Ma,gb,g2,hzi,U1,C1]
      |with_reducible refine Wg tok mixed zd5 10 [3,7,10,13] (.op 0 .plain (.op 1 .plain (.op 2 .plain (.op 3 .held (.op 4 .plain (.op 5 .plain (.op 6 .plain (.op 7 .held (.op 8 .plain (.op 9 .plain (.op 10 .held (.op 11 .plain (.op 12 .plain (.op 13 .held (.op 14 .plain .nil))))))))))))))) Kk [(bp, .cells (PC (.slice (some ⟨bs,0,none⟩) n n) (.slice (some ⟨ba,0,none⟩) n n) (.slice (some ⟨bl,0,none⟩) n cb) (.slice (some ⟨bx,0,none⟩) w csp) vk vw vm W) [] 135),(bl, .cells (zk n bf) spb 3),(bx, .cells (zF w fr to mk) spx 159)] Ks ?_
     refine Th (Uh (H':=(bp, .cells (PC (.slice (some ⟨bs,0,none⟩) n n) (.slice (some ⟨ba,0,none⟩) n n) (.slice (some ⟨bl,0,none⟩) n cb) (.slice (some ⟨bx,0,none⟩) w csp) vk vw vm W) [] 135):: (bx, .cells (zF w fr to mk) spx 159):: (bs, .cells (zk n st) [] 3):: (ba, .cells (zk n pl) [] 3):: (bl, .cells (zk n bf) spb 3):: ([(nb, .cells (zfr D++[.int .i64 (bf s:Nat)]) D0 3)]++H)) (zow hP Ko I1 fun r st' pl' mk' hP' hM' h1 h2=>Upd.sepI fun R0=>Ce ?_) Ks);obtain⟨f1,f2,f3⟩:=J5 mk' h1 h2;have hE:=R0;try simp only[zzs] at hE
     repeat(obtain⟨J0,hE⟩:=hE)
     repeat' first
      |with_reducible first|refine Zd ?_ |refine Ae (fun _=>?_) fun _=>?_ |refine Nb fun nb A0 C0 B0=>?_ |refine Nr fun nb D0 E0 A0 I0 C0 B0=>?_
      |simp -dsimp -implicitDefEqProofs (disch:=first|exact Kd|fail) only[go_sem,↓reduceIte,seval]
     exact Ce ⟨q - 1,by omega,i+1,st',pl',mk',D++[bf s],_,_,by omega,hP',T5 pl' mk' hM',f1,f2,f3, .inr ⟨nb,E0,D0,by rw[Ve,Bg],by rw[Ga],by rw[zeK,Gg],by rw[zeK,Ve,Bg];omega⟩,rfl,rfl,rfl⟩
   ·have hzi: ¬((mk (bf s):Nat):Int)=0:=by omega
    have hE:=V0;try simp only[zzs] at hE
    repeat(obtain⟨J0,hE⟩:=hE)
    repeat' first
     |with_reducible first|refine Zd ?_ |refine Ae (fun _=>?_) fun _=>?_ |refine Nb fun nb A0 C0 B0=>?_ |refine Nr fun nb D0 E0 A0 I0 C0 B0=>?_
     |simp -dsimp -implicitDefEqProofs (disch:=first|exact Kd|fail) only[go_sem,↓reduceIte,seval,Ie U0,Le,Ma,gb,g2]
     |with_reducible refine Wg tok mixed zd5 10 [3,7,10,13] (.op 0 .plain (.op 1 .plain (.op 2 .plain (.op 3 .held (.op 4 .plain (.op 5 .plain (.op 6 .plain (.op 7 .held (.op 8 .plain (.op 9 .plain (.op 10 .held (.op 11 .plain (.op 12 .plain (.op 13 .held (.op 14 .plain .nil))))))))))))))) Kk [(bp, .cells (PC (.slice (some ⟨bs,0,none⟩) n n) (.slice (some ⟨ba,0,none⟩) n n) (.slice (some ⟨bl,0,none⟩) n cb) (.slice (some ⟨bx,0,none⟩) w csp) vk vw vm W) [] 135),(bl, .cells (zk n bf) spb 3),(bx, .cells (zF w fr to mk) spx 159)] Ks ?_
    refine zow hP Ko I1 fun r st' pl' mk' hP' hM' h1 h2=>?_;have T1:bf s∈D:=Zg fun h=>hz (hD3 _ h)
    repeat' first
     |with_reducible first|refine Zd ?_ |refine Ae (fun _=>?_) fun _=>?_ |refine Nb fun nb A0 C0 B0=>?_ |refine Nr fun nb D0 E0 A0 I0 C0 B0=>?_
     |simp -dsimp -implicitDefEqProofs (disch:=first|exact Kd|fail) only[go_sem,↓reduceIte,seval]
    exact Ce ⟨q - 1,by omega,i+1,st',pl',mk',D,_,_,by omega,hP',T5 pl' mk' hM',hD1,fun c hc=>⟨(hD2 c hc).1,by
     by_cases e:c=bf s
     ·rw[e];exact h2
     ·rw[h1 c e];exact(hD2 c hc).2⟩,fun c hc=>by rw[h1 c fun e=>hc (e▸T1)];exact hD3 c hc,hO,rfl,rfl,rfl⟩
  ·obtain rfl:i=L.length:=by omega
   rw[Te] at hM;have hE:=V0;try simp only[zzs] at hE
   repeat(obtain⟨J0,hE⟩:=hE)
   repeat' first
    |with_reducible first|refine Zd ?_ |refine Ae (fun _=>?_) fun _=>?_ |refine Nb fun nb A0 C0 B0=>?_ |refine Nr fun nb D0 E0 A0 I0 C0 B0=>?_
    |simp -dsimp -implicitDefEqProofs (disch:=first|exact Kd|fail) only[go_sem,↓reduceIte,seval]
   exact Ce ⟨st,pl,mk,D,vd,kd,hP,hM,hD1,hD2,hD3,hO,rfl,rfl,rfl⟩
structure ByI (n W:Nat) (al:Nat→Nat) (dl:Nat→Nat→Nat) (k:Nat) (X:Nat→Prop) (bf0 st pl:Nat→Nat) (D:List Nat) (m0 w:Nat) (bf fr to mk:Nat→Nat) (ws:List (Nat×Nat)):Prop where
 P:PInv n w st pl bf fr to mk
 rest: ∀c,c∈D→c<w∧1≤mk c∧ ∀s,s<n→bf s=c→(Mkd pl bf fr mk s↔X s)
 zero: ∀c,c<w→c∉D→mk c=0
 same: ∀s t,s<n→t<n→bf s=bf t→bf s∉D→(X s↔X t)
 fine: ∀s t,s<n→t<n→al s=al t→bf s=bf t
 lab: ∀s t,s<n→t<n→bf s=bf t→bf0 s=bf0 t
 law:zdn n W bf dl ws k X
 nd:ws.Nodup
 bd: ∀p∈ws,p.1<w∧p.2<W
 ms:ws.length+W * (n - w)≤m0
section
variable {n W k m0 w c:Nat} {al bf0 st pl bf fr to mk:Nat→Nat} {dl:Nat→Nat→Nat} {X:Nat→Prop} {D:List Nat} {ws:List (Nat×Nat)}
theorem ByI.all (h:ByI n W al dl k X bf0 st pl (c::D) m0 w bf fr to mk ws) (I6:(c::D).Nodup) (he:fr c+mk c=to c):ByI n W al dl k X bf0 st pl D m0 w bf fr to (zn mk c 0) ws:=by
 rw[List.nodup_cons] at I6;obtain⟨V7,J4,H9⟩:=h.rest c (Jh ..);refine⟨h.P.clear c,fun c' hc'=>?_,fun c' h1 h2=>?_,fun s t hs ht e hn=>?_,h.fine,h.lab,h.law,h.nd,h.bd,h.ms⟩
 ·obtain⟨g1,g2,g3⟩:=h.rest c' (Oh _ hc');have P3:c'≠c:=fun e=>I6.1 (e▸hc');refine⟨g1,by rw[zbf _ _ P3];exact g2,fun s hs e=>?_⟩;have:=g3 s hs e;unfold Mkd at this⊢;rw[e,zbf _ _ P3];rw[e] at this;exact this
 ·by_cases e:c'=c
  ·rw[e,zbu]
  ·rw[zbf _ _ e];exact h.zero c' h1 fun hm=>(List.mem_cons.1 hm).elim e h2
 ·by_cases e2:bf s=c
  ·have m1:Mkd pl bf fr mk s:=by have:=h.P.hi s hs;unfold Mkd;rw[e2] at this⊢;omega
   have m2:Mkd pl bf fr mk t:=by have:=h.P.hi t ht;unfold Mkd;rw[←e,e2] at this⊢;omega
   exact⟨fun _=>(H9 t ht (by rw[←e,e2])).1 m2,fun _=>(H9 s hs e2).1 m1⟩
  ·exact h.same s t hs ht e fun hm=>(List.mem_cons.1 hm).elim e2 hn
theorem ByI.part (h:ByI n W al dl k X bf0 st pl (c::D) m0 w bf fr to mk ws) (I6:(c::D).Nodup) (he:fr c+mk c<to c) (E7: ∀j s,j<W→s<n→dl j s<n) (hX: ∀s t,s<n→t<n→al s=al t→(X s↔X t)) (small:Bool):
  ByI n W al dl k X bf0 st pl D m0 (w+1) (fun s=>if bf s=c∧pl s<fr c+mk c then w else bf s) (zn (zn fr c (fr c+mk c)) w (fr c)) (zn to w (fr c+mk c)) (zn (zn mk c 0) w 0) (zcq small c w ws W):=by
 rw[List.nodup_cons] at I6;obtain⟨V7,J4,H9⟩:=h.rest c (Jh ..);have hbw:=h.P.bl_lt;have hPN:=h.P.part V7 J4 Ko;obtain⟨l1,l2,l3,l4,l5,l6⟩:=ziO small c w ws W
 have Pa: ∀s,s<n→bf s=c→(pl s<fr c+mk c↔X s):=fun s hs e=>by
  have:=H9 s hs e;unfold Mkd at this;rw[e] at this;exact this
 have Jd: ∀s t,s<n→t<n→(if bf s=c∧pl s<fr c+mk c then w else bf s)=(if bf t=c∧pl t<fr c+mk c then w else bf t)→bf s=bf t:=fun s t hs ht e=>by
  have h1:=hbw s hs;have h2:=hbw t ht;split at e
  ·rename_i g1;split at e
   ·rename_i g2;rw[g1.1,g2.1]
   ·omega
  ·split at e
   ·omega
   ·exact e
 refine⟨hPN,fun c' hc'=>?_,fun c' h1 h2=>?_,fun s t hs ht e hn=>?_,fun s t hs ht e=>?_,fun s t hs ht e=>h.lab s t hs ht (Jd s t hs ht e),h.law.split E7 hbw l1 l3 l4,l6 h.nd,fun p hp=>?_,?_⟩
 ·obtain⟨g1,g2,g3⟩:=h.rest c' (Oh _ hc');have P3:c'≠c:=fun e=>I6.1 (e▸hc');have hnw:c'≠w:=by omega
  refine⟨by omega,by rw[zbf _ _ hnw,zbf _ _ P3];exact g2,fun s hs e=>?_⟩;have e:(if bf s=c∧pl s<fr c+mk c then w else bf s)=c':=e
  have e1:bf s=c':=by
   split at e
   ·omega
   ·exact e
  have:=g3 s hs e1;unfold Mkd at this⊢;rw[e1] at this;show pl s<zn _ w _ (if _ then _ else _)+zn _ w _ (if _ then _ else _)↔_;rw[e,zbf _ _ hnw,zbf _ _ P3,zbf _ _ hnw,zbf _ _ P3];exact this
 ·by_cases e:c'=w
  ·rw[e,zbu]
  ·rw[zbf _ _ e];by_cases e2:c'=c
   ·rw[e2,zbu]
   ·rw[zbf _ _ e2];exact h.zero c' Ko fun hm=>(List.mem_cons.1 hm).elim e2 h2
 ·have e:(if bf s=c∧pl s<fr c+mk c then w else bf s)=(if bf t=c∧pl t<fr c+mk c then w else bf t):=e;have hn:(if bf s=c∧pl s<fr c+mk c then w else bf s)∉D:=hn;have e0:=Jd s t hs ht e;by_cases e2:bf s=c
  ·have e3:bf t=c:=by rw[←e0,e2]
   have h1:=hbw s hs;rw[←Pa s hs e2,←Pa t ht e3];rw[e2,e3] at e;simp only[true_and] at e;by_cases g1:pl s<fr c+mk c
   ·rw[if_pos g1] at e;refine⟨fun _=>?_,fun _=>g1⟩;apply Zg;intro g2;rw[if_neg g2] at e;omega
   ·rw[if_neg g1] at e;refine⟨fun g=>absurd g g1,fun g2=>?_⟩;rw[if_pos g2] at e;omega
  ·rw[if_neg fun g=>e2 g.1] at hn;exact h.same s t hs ht e0 fun hm=>(List.mem_cons.1 hm).elim e2 hn
 ·show(if _ then _ else _)=(if _ then _ else _);have e0:=h.fine s t hs ht e;by_cases e2:bf s=c
  ·have e3:bf t=c:=by rw[←e0,e2]
   have hx:=hX s t hs ht e;rw[←Pa s hs e2,←Pa t ht e3] at hx;by_cases g1:pl s<fr c+mk c
   ·rw[if_pos ⟨e2,g1⟩,if_pos ⟨e3,hx.1 g1⟩]
   ·rw[if_neg fun g=>g1 g.2,if_neg fun g=>g1 (hx.2 g.2)];exact e0
  ·rw[if_neg fun g=>e2 g.1,if_neg fun g=>e2 (by rw[e0];exact g.1)];exact e0
 ·rcases l2 p hp with g| ⟨g1,g2⟩
  ·have:=h.bd p g;omega
  ·refine⟨?_,g2⟩;rcases g1 with g|g <;> omega
 ·have h1:=h.ms;have h2:=hPN.nb_le;have h3:W * (n - w)=W * (n - (w+1))+W:=by rw[←Nat.mul_succ];congr 1;omega
  omega
end
theorem zvN {D:List Nat} {i:Nat} (h:i<D.length):(zfr D)[i]'(by rw[zeK];exact h)= .int .i64 (D[i]:Nat):=by simp [zfr]
theorem zz6 {n W k m0:Nat} {al bf0 st pl:Nat→Nat} {dl:Nat→Nat→Nat} {X:Nat→Prop} (E7: ∀j s,j<W→s<n→dl j s<n) (hX: ∀s t,s<n→t<n→al s=al t→(X s↔X t)) (hn:n≤66000) (hW:W≤256) {D:List Nat} (hD:D.Nodup) (D8:D.length≤66000) {w:Nat} {bf fr to mk:Nat→Nat} {ws:List (Nat×Nat)} (hI:ByI n W al dl k X bf0 st pl D m0 w bf fr to mk ws) (hm0:m0≤20000000) {am:List ((Int×Int)×Int)} (hA:zbw am ws) {a:Option Addr} {c:Nat} {G:zb} (U0:Row G a (zfr D)) {bp bs ba bl bx bm cb csp:Nat} {spb spx:List Value} (N8:w * 3+spx.length=csp * 3) {vk vw:Value} {kw:za} (hO:WtO vw ws kw) {H:za}:
  Tri Tryz.prog Tryz.f106.ntmps (piece [1,1,1,1] Tryz.f106) G [(0, .pointer (some ⟨bp,0,none⟩)),(9, .slice a D.length c)] ((bp, .cells (PC (.slice (some ⟨bs,0,none⟩) n n) (.slice (some ⟨ba,0,none⟩) n n) (.slice (some ⟨bl,0,none⟩) n cb) (.slice (some ⟨bx,0,none⟩) w csp) vk vw (.map (some bm)) (W:Nat)) [] 135):: (bx, .cells (zF w fr to mk) spx 159):: (bs, .cells (zk n st) [] 3):: (bl, .cells (zk n bf) spb 3):: (bm, .map (am.map fun p=>(zaB p.1,Yd .i64 p.2))):: (kw++H)) (onlyN fun G' l H'=> ∃ (w:Nat) (bf fr to mk:Nat→Nat) (ws:List (Nat×Nat)) (am:List ((Int×Int)×Int)) (vw:Value) (kw:za) (bx csp:Nat) (spx:List Value),ByI n W al dl k X bf0 st pl [] m0 w bf fr to mk ws∧zbw am ws∧WtO vw ws kw∧w * 3+spx.length=csp * 3∧G'=G∧H'=(bp, .cells (PC (.slice (some ⟨bs,0,none⟩) n n) (.slice (some ⟨ba,0,none⟩) n n) (.slice (some ⟨bl,0,none⟩) n cb) (.slice (some ⟨bx,0,none⟩) w csp) vk vw (.map (some bm)) (W:Nat)) [] 135):: (bx, .cells (zF w fr to mk) spx 159):: (bs, .cells (zk n st) [] 3):: (bl, .cells (zk n bf) spb 3):: (bm, .map (am.map fun p=>(zaB p.1,Yd .i64 p.2))):: (kw++H)):=by
 refine Tri.sepT fun M1=>?_;have hE:=M1;try simp only[zzs] at hE
 repeat(obtain⟨J0,hE⟩:=hE)
 refine Xg (f:=Tryz.f106) rfl ?_;refine Yg tok zd5 Kk ?_
 repeat' first
  |with_reducible first|refine Zd ?_ |refine Ae (fun _=>?_) fun _=>?_ |refine Nb fun nb A0 C0 B0=>?_ |refine Nr fun nb D0 E0 A0 I0 C0 B0=>?_
  |simp -dsimp -implicitDefEqProofs (disch:=first|exact Kd|fail) only[go_sem,↓reduceIte,seval]
 refine Tri.loopS tok zd5 (.seq .run (.seq .run (.seq (.block (.seq .run (.seq .run (.seq .run .cut)))) .cut))) Kk [0,72,73,74] (fun q G' l H'=> ∃ (i w:Nat) (bf fr to mk:Nat→Nat) (ws:List (Nat×Nat)) (am:List ((Int×Int)×Int)) (vw:Value) (kw:za) (bx csp:Nat) (spx:List Value),i+q=D.length∧ByI n W al dl k X bf0 st pl (D.drop i) m0 w bf fr to mk ws∧zbw am ws∧WtO vw ws kw∧w * 3+spx.length=csp * 3∧G'=G∧H'=(bp, .cells (PC (.slice (some ⟨bs,0,none⟩) n n) (.slice (some ⟨ba,0,none⟩) n n) (.slice (some ⟨bl,0,none⟩) n cb) (.slice (some ⟨bx,0,none⟩) w csp) vk vw (.map (some bm)) (W:Nat)) [] 135):: (bx, .cells (zF w fr to mk) spx 159):: (bs, .cells (zk n st) [] 3):: (bl, .cells (zk n bf) spb 3):: (bm, .map (am.map fun p=>(zaB p.1,Yd .i64 p.2))):: (kw++H)∧l=[(0, .pointer (some ⟨bp,0,none⟩)),(72, .slice a D.length c),(73, .int .i64 (D.length:Nat)),(74, .int .i64 (i:Nat))]) (D.length) ?_ ?_
 ·exact Ce ⟨0,w,bf,fr,to,mk,ws,am,vw,kw,bx,csp,spx,by omega,hI,hA,hO,N8,rfl,rfl,rfl⟩
 ·clear hI hA hO N8 M1;rintro q G1 l H1 S0 V0 ⟨i,w,bf,fr,to,mk,ws,am,vw,kw,bx,csp,spx,Q5,hI,hA,hO,N8,rfl,rfl,rfl⟩;have hE:=V0;try simp only[zzs] at hE
  repeat(obtain⟨J0,hE⟩:=hE)
  by_cases hi:i<D.length
  ·have hada:Adr a:=U0.adr (by rw[zeK];omega);have hgi:=zvN hi;have Y0:i< (zfr D).length:=by rw[zeK];exact hi
   have hdr:D.drop i=D[i]::D.drop (i+1):=List.drop_eq_getElem_cons hi;obtain⟨c,hc⟩: ∃c,c=D[i]:=⟨_,rfl⟩;rw[←hc] at hgi hdr;rw[hdr] at hI;have hndd:(c::D.drop (i+1)).Nodup:=by rw[←hdr];exact hD.sublist (List.drop_sublist i D)
   obtain⟨V7,J4,H9⟩:=hI.rest c (Jh ..);have hPn:=hI.P.nb_le;have hms:=hI.ms
   repeat' first
    |with_reducible first|refine Zd ?_ |refine Ae (fun _=>?_) fun _=>?_ |refine Nb fun nb A0 C0 B0=>?_ |refine Nr fun nb D0 E0 A0 I0 C0 B0=>?_
    |simp -dsimp -implicitDefEqProofs (disch:=first|exact Kd|fail) only[go_sem,↓reduceIte,seval,Ie U0,hgi]
   refine zyN hI.P Ko V7 J4 N8 (fun he=>?_) fun bx' csp' spx' he hcx'=>?_
   ·have K3:=hI.all hndd he
    repeat' first
     |with_reducible first|refine Zd ?_ |refine Ae (fun _=>?_) fun _=>?_ |refine Nb fun nb A0 C0 B0=>?_ |refine Nr fun nb D0 E0 A0 I0 C0 B0=>?_
     |simp -dsimp -implicitDefEqProofs (disch:=first|exact Kd|fail) only[go_sem,↓reduceIte,seval]
    refine Yg tok zd5 Kk ?_
    repeat' first
     |with_reducible first|refine Zd ?_ |refine Ae (fun _=>?_) fun _=>?_ |refine Nb fun nb A0 C0 B0=>?_ |refine Nr fun nb D0 E0 A0 I0 C0 B0=>?_
     |simp -dsimp -implicitDefEqProofs (disch:=first|exact Kd|fail) only[go_sem,↓reduceIte,seval]
    exact Ce ⟨q - 1,by omega,i+1,w,bf,fr,to,_,ws,am,vw,kw,bx,csp,spx,by omega,K3,hA,hO,N8,rfl,rfl,rfl⟩
   ·have K3:=hI.part hndd he E7 hX (decide (zn to w (fr c+mk c) w - zn (zn fr c (fr c+mk c)) w (fr c) w≤zn to w (fr c+mk c) c - zn (zn fr c (fr c+mk c)) w (fr c) c));have hPn2:=K3.P.nb_le
    repeat' first
     |with_reducible first|refine Zd ?_ |refine Ae (fun _=>?_) fun _=>?_ |refine Nb fun nb A0 C0 B0=>?_ |refine Nr fun nb D0 E0 A0 I0 C0 B0=>?_
     |simp -dsimp -implicitDefEqProofs (disch:=first|exact Kd|fail) only[go_sem,↓reduceIte,seval]
    refine Ch [0,13,14,72,73,74] ?_;refine Tri.upd (Oe (H':=(bp, .cells (PC (.slice (some ⟨bs,0,none⟩) n n) (.slice (some ⟨ba,0,none⟩) n n) (.slice (some ⟨bl,0,none⟩) n cb) (.slice (some ⟨bx',0,none⟩) (w+1) csp') vk vw (.map (some bm)) (W:Nat)) [] 135):: (bx', .cells (zF (w+1) (zn (zn fr c (fr c+mk c)) w (fr c)) (zn to w (fr c+mk c)) (zn (zn mk c 0) w 0)) spx' 159):: (bm, .map (am.map fun p=>(zaB p.1,Yd .i64 p.2))):: (kw++((bs, .cells (zk n st) [] 3):: (bl, .cells (zk n (fun s=>if bf s=c∧pl s<fr c+mk c then w else bf s)) spb 3)::H))) Ks (Ce ?_));refine Ah [1,1,1,1,1,0,0,1,1,0,0,1,1,1] Tryz.f106 Kk ?_;refine Tri.onlyN (zz3 (W:=W) Ko hA Ko Ko Ko Ko (fun b hb=>?_) hO) fun G2 l2 H2 Q0 R0 hM=>?_
    ·have h1:=K3.P.ne b hb;have h2:=K3.P.le b hb;exact⟨by omega,by omega⟩
    ·obtain⟨vw2,am2,kw2,hO2,Qa,rfl,L4,rfl⟩:=hM;simp only[go_sem];refine Ch [0,72,73,74] ?_;rw[L4];refine Yg tok zd5 Kk ?_
     repeat' first
      |with_reducible first|refine Zd ?_ |refine Ae (fun _=>?_) fun _=>?_ |refine Nb fun nb A0 C0 B0=>?_ |refine Nr fun nb D0 E0 A0 I0 C0 B0=>?_
      |simp -dsimp -implicitDefEqProofs (disch:=first|exact Kd|fail) only[go_sem,↓reduceIte,seval]
     refine Xf (H':=(bp, .cells (PC (.slice (some ⟨bs,0,none⟩) n n) (.slice (some ⟨ba,0,none⟩) n n) (.slice (some ⟨bl,0,none⟩) n cb) (.slice (some ⟨bx',0,none⟩) (w+1) csp') vk vw2 (.map (some bm)) (W:Nat)) [] 135):: (bx', .cells (zF (w+1) (zn (zn fr c (fr c+mk c)) w (fr c)) (zn to w (fr c+mk c)) (zn (zn mk c 0) w 0)) spx' 159):: (bs, .cells (zk n st) [] 3):: (bl, .cells (zk n (fun s=>if bf s=c∧pl s<fr c+mk c then w else bf s)) spb 3):: (bm, .map (am2.map fun p=>(zaB p.1,Yd .i64 p.2))):: (kw2++H)) Ks ?_;exact⟨q - 1,by omega,i+1,w+1,_,_,_,_,_,am2,vw2,kw2,bx',csp',spx',by omega,K3,Qa,hO2,hcx',rfl,rfl,rfl⟩
  ·have hd:D.drop i=[]:=List.drop_eq_nil_of_le Ko;rw[hd] at hI
   repeat' first
    |with_reducible first|refine Zd ?_ |refine Ae (fun _=>?_) fun _=>?_ |refine Nb fun nb A0 C0 B0=>?_ |refine Nr fun nb D0 E0 A0 I0 C0 B0=>?_
    |simp -dsimp -implicitDefEqProofs (disch:=first|exact Kd|fail) only[go_sem,↓reduceIte,seval]
   exact Ce ⟨w,bf,fr,to,mk,ws,am,vw,kw,bx,csp,spx,hI,hA,hO,N8,rfl,rfl⟩
structure HInv (n W:Nat) (al bf0:Nat→Nat) (w:Nat) (st pl bf fr to:Nat→Nat) (ws:List (Nat×Nat)):Prop where
 P:PInv n w st pl bf fr to fun _=>0
 fine: ∀s t,s<n→t<n→al s=al t→bf s=bf t
 lab: ∀s t,s<n→t<n→bf s=bf t→bf0 s=bf0 t
 nd:ws.Nodup
 bd: ∀p∈ws,p.1<w∧p.2<W
theorem zAw {n W w:Nat} {al bf0 st pl bf fr to:Nat→Nat} {dl:Nat→Nat→Nat} (E7: ∀j s,j<W→s<n→dl j s<n) (hal: ∀j s t,j<W→s<n→t<n→al s=al t→al (dl j s)=al (dl j t)) (hn:n≤66000) (hW:W≤256) {ws:List (Nat×Nat)} (hI:HInv n W al bf0 w st pl bf fr to ws) {b k:Nat} (hb:b<w) (hk:k<W) (Lc:zdn n W bf dl ws k fun s=>bf (dl k s)=b) (hm0:ws.length+W * (n - w)≤20000000) {am:List ((Int×Int)×Int)} (hA:zbw am ws) {G:zb} {bp bs ba bl bx bm cb csp:Nat} {spb spx:List Value} (N8:w * 3+spx.length=csp * 3) {vk vw:Value} {kw:za} (hO:WtO vw ws kw) (N9:BkT G n W dl vk) {H:za} {R:Value→zb→za→Prop}
  (hR: ∀G' w' st' pl' bf' fr' to' ws' am' vw' kw' bx' csp' spx',PLe G G'→HInv n W al bf0 w' st' pl' bf' fr' to' ws'→zdn n W bf' dl ws' 0 (fun _=>False)→ws'.length+W * (n - w')≤ws.length+W * (n - w)→zbw am' ws'→w' * 3+spx'.length=csp' * 3→WtO vw' ws' kw'→R (.tuple #[]) G' ((bp, .cells (PC (.slice (some ⟨bs,0,none⟩) n n) (.slice (some ⟨ba,0,none⟩) n n) (.slice (some ⟨bl,0,none⟩) n cb) (.slice (some ⟨bx',0,none⟩) w' csp') vk vw' (.map (some bm)) (W:Nat)) [] 135):: (bx', .cells (zF w' fr' to' (fun _=>0)) spx' 159):: (bs, .cells (zk n st') [] 3):: (ba, .cells (zk n pl') [] 3):: (bl, .cells (zk n bf') spb 3):: (bm, .map (am'.map fun p=>(zaB p.1,Yd .i64 p.2))):: (kw'++H))):
  FnT Tryz.prog 106 [.pointer (some ⟨bp,0,none⟩), .int .i64 (b:Nat), .int .i64 (k:Nat)] G ((bp, .cells (PC (.slice (some ⟨bs,0,none⟩) n n) (.slice (some ⟨ba,0,none⟩) n n) (.slice (some ⟨bl,0,none⟩) n cb) (.slice (some ⟨bx,0,none⟩) w csp) vk vw (.map (some bm)) (W:Nat)) [] 135):: (bx, .cells (zF w fr to (fun _=>0)) spx 159):: (bs, .cells (zk n st) [] 3):: (ba, .cells (zk n pl) [] 3):: (bl, .cells (zk n bf) spb 3):: (bm, .map (am.map fun p=>(zaB p.1,Yd .i64 p.2))):: (kw++H)) R:=by
 have hP:=hI.P;have Oa:=hP.le b hb;have R2:=hP.ne b hb;obtain⟨L,hL⟩: ∃L,L=zc7 (dl k) n st (fr b) (to b - fr b):=⟨_,rfl⟩
 have Z5: ∀x:Int,x∈L↔ ∃s:Nat,s<n∧bf (dl k s)=b∧x=s:=fun x=>by
  rw[hL,ztQ];constructor
  ·rintro⟨s,h1,⟨j,h2,h3⟩,h4⟩;exact⟨s,h1,by rw[h3];exact hP.own b _ hb Ko Ko,h4⟩
  ·rintro⟨s,h1,h2,h3⟩;have hds:=E7 k s hk h1;have Q3:=hP.lo _ hds;have M5:=hP.hi _ hds;rw[h2] at Q3 M5;exact⟨s,h1,⟨pl (dl k s) - fr b,by omega,by rw[show fr b+(pl (dl k s) - fr b)=pl (dl k s) by omega,hP.st_pl _ hds]⟩,h3⟩
 have F8:L.length≤5000000000:=by
  have h1:=ziU (dl k) n st (fr b) (to b - fr b);have h2:(to b - fr b) * n≤66000 * 66000:=Yh Ko hn;rw[hL];omega
 refine FnT.bodyS tok zd5 (.seq .run (.seq .cut (.seq .cut (.seq .cut .cut)))) Tryz.func106 rfl Kk Kk Kn fun M0=>?_;rw[Tryz.results106];have hE:=M0;try simp only[zzs] at hE
 repeat(obtain⟨J0,hE⟩:=hE)
 repeat' first
  |with_reducible first|refine Zd ?_ |refine Ae (fun _=>?_) fun _=>?_ |refine Nb fun nb A0 C0 B0=>?_ |refine Nr fun nb D0 E0 A0 I0 C0 B0=>?_
  |simp -dsimp -implicitDefEqProofs (disch:=first|exact Kd|fail) only[go_sem,↓reduceIte,seval]
 refine Ch [0,1,2,6] ?_;refine Tri.upd (Oe (H':=(bp, .cells (PC (.slice (some ⟨bs,0,none⟩) n n) (.slice (some ⟨ba,0,none⟩) n n) (.slice (some ⟨bl,0,none⟩) n cb) (.slice (some ⟨bx,0,none⟩) w csp) vk vw (.map (some bm)) (W:Nat)) [] 135):: (bx, .cells (zF w fr to (fun _=>0)) spx 159):: (bs, .cells (zk n st) [] 3):: ((ba, .cells (zk n pl) [] 3):: (bl, .cells (zk n bf) spb 3):: (bm, .map (am.map fun p=>(zaB p.1,Yd .i64 p.2))):: (kw++H))) Ks (Ce ?_));refine Ah [1,0] Tryz.f106 Kk ?_;refine Tri.onlyN (zz4 hP hn hb hk N9) fun G1 l1 H1 N2 V0 hM=>?_;obtain⟨vf,kf,hOf,rfl,L4,rfl⟩:=hM;rw[←hL] at hOf;simp only[go_sem];refine Ch [0,6] ?_;rw[L4];refine Tri.upd (Oe (H':=kf++((bp, .cells (PC (.slice (some ⟨bs,0,none⟩) n n) (.slice (some ⟨ba,0,none⟩) n n) (.slice (some ⟨bl,0,none⟩) n cb) (.slice (some ⟨bx,0,none⟩) w csp) vk vw (.map (some bm)) (W:Nat)) [] 135):: (bx, .cells (zF w fr to (fun _=>0)) spx 159):: (bs, .cells (zk n st) [] 3):: (ba, .cells (zk n pl) [] 3):: (bl, .cells (zk n bf) spb 3):: ((bm, .map (am.map fun p=>(zaB p.1,Yd .i64 p.2))):: (kw++H)))) Ks (Upd.sepI fun J0=>zO.shareApp hOf J0 fun G2 af cf Q0 R0 evf hrf hcf=>?_));subst evf;refine Yg tok zd5 Kk ?_
 repeat' first
  |with_reducible first|refine Zd ?_ |refine Ae (fun _=>?_) fun _=>?_ |refine Nb fun nb A0 C0 B0=>?_ |refine Nr fun nb D0 E0 A0 I0 C0 B0=>?_
  |simp -dsimp -implicitDefEqProofs (disch:=first|exact Kd|fail) only[go_sem,↓reduceIte,seval]
 refine Ah [1,1,1,0] Tryz.f106 Kk ?_;refine Tri.onlyN (zz5 hP hn (fun x hx=>by obtain⟨s,h1,_,h3⟩:=(Z5 x).1 hx;exact⟨s,h1,h3⟩) F8 hrf) fun G3 l3 H3 A1 K1 hM=>?_;obtain⟨st2,pl2,mk2,D,vd,kd,hP2,hM2,hD1,hD2,hD3,hOd,rfl,Kc,rfl⟩:=hM;simp only[go_sem];refine Ch [0,9] ?_;rw[Kc];refine Tri.upd (Oe (H':=kd++((bp, .cells (PC (.slice (some ⟨bs,0,none⟩) n n) (.slice (some ⟨ba,0,none⟩) n n) (.slice (some ⟨bl,0,none⟩) n cb) (.slice (some ⟨bx,0,none⟩) w csp) vk vw (.map (some bm)) (W:Nat)) [] 135):: (bx, .cells (zF w fr to mk2) spx 159):: (bs, .cells (zk n st2) [] 3):: (bl, .cells (zk n bf) spb 3):: (bm, .map (am.map fun p=>(zaB p.1,Yd .i64 p.2))):: (kw++((ba, .cells (zk n pl2) [] 3)::H)))) Ks (Upd.sepI fun J0=>zO.shareApp hOd J0 fun G4 ad cd Z1 S1 evd hrd hcd=>?_));subst evd
 have hX: ∀s,s<n→(Mkd pl2 bf fr mk2 s↔bf (dl k s)=b):=fun s hs=>by
  rw[hM2 s hs,Z5];constructor
  ·rintro⟨t,h1,h2,h3⟩;obtain rfl:s=t:=by omega
   exact h2
  ·exact fun h=>⟨s,hs,h,rfl⟩
 have hBy:ByI n W al dl k (fun s=>bf (dl k s)=b) bf0 st2 pl2 D (ws.length+W * (n - w)) w bf fr to mk2 ws:=by
  refine⟨hP2,fun c hc=>⟨(hD2 c hc).1,(hD2 c hc).2,fun s hs _=>hX s hs⟩,fun c _ hc=>hD3 c hc,fun s t hs ht e hn=>?_,hI.fine,hI.lab,Lc,hI.nd,hI.bd,Qe _⟩;have hz:=hD3 _ hn
  have h1: ¬Mkd pl2 bf fr mk2 s:=fun h=>by
   unfold Mkd at h;have:=hP2.lo s hs;omega
  have h2: ¬Mkd pl2 bf fr mk2 t:=fun h=>by
   unfold Mkd at h;rw[←e] at h;have:=hP2.lo t ht;rw[←e] at this;omega
  show bf (dl k s)=b↔bf (dl k t)=b;rw[←hX s hs,←hX t ht];exact⟨fun h=>absurd h h1,fun h=>absurd h h2⟩
 refine Ah [1,1,1,1] Tryz.f106 Kk ?_
 refine Tri.onlyN (zz6 E7 (fun s t hs ht e=>by
  show bf (dl k s)=b↔bf (dl k t)=b;rw[hI.fine _ _ (E7 k s hk hs) (E7 k t hk ht) (hal k s t hk hs ht e)]) hn hW hD1 (by have:=ze3 hD1 fun c hc=>(hD2 c hc).1;have:=hP.nb_le;omega) hBy hm0 hA hrd N8 hO) fun G5 l5 H5 A2 P1 hM=>?_
 obtain⟨w',bf',fr',to',mk',ws',am',vw',kw',bx',csp',spx',C7,L9,K9,hcx',rfl,rfl⟩:=hM;simp only[go_sem];have hmz: ∀c,c<w'→mk' c=0:=fun c hc=>C7.zero c hc (by simp);have hrz:zF w' fr' to' mk'=zF w' fr' to' fun _=>0:=zhX fun i hi=>⟨rfl,rfl,hmz i hi⟩;have hPz:PInv n w' st2 pl2 bf' fr' to' fun _=>0:=⟨C7.P.st_lt,C7.P.pl_lt,C7.P.pl_st,C7.P.st_pl,C7.P.bl_lt,C7.P.lo,C7.P.hi,C7.P.ne,C7.P.le,fun c hc=>by have:=C7.P.ne c hc;omega,C7.P.own⟩;rw[hrz];unfold zo;refine Xf (H':=(bp, .cells (PC (.slice (some ⟨bs,0,none⟩) n n) (.slice (some ⟨ba,0,none⟩) n n) (.slice (some ⟨bl,0,none⟩) n cb) (.slice (some ⟨bx',0,none⟩) w' csp') vk vw' (.map (some bm)) (W:Nat)) [] 135):: (bx', .cells (zF w' fr' to' (fun _=>0)) spx' 159):: (bs, .cells (zk n st2) [] 3):: (ba, .cells (zk n pl2) [] 3):: (bl, .cells (zk n bf') spb 3):: (bm, .map (am'.map fun p=>(zaB p.1,Yd .i64 p.2))):: (kw'++H)) Ks ?_;exact hR G5 w' st2 pl2 bf' fr' to' ws' am' vw' kw' bx' csp' spx' (Q0.trans Z1) ⟨hPz,C7.fine,C7.lab,C7.nd,C7.bd⟩ (C7.law.end fun s t hs ht e=>C7.same s t hs ht e (by simp)) C7.ms L9 hcx' K9
end Go.Proofs.YtomdbjfdbkejoaaGreatDoor
namespace Go.Proofs.YtomdbjfdbkejoaaGreatDoor
open Go Go.V Go.Proofs
noncomputable def zbC (d:DfaT) (k:Nat):List Int:=if zaz (zg d)=true then lvl d k else[]
theorem zfN {d:DfaT} (h:zg d) (k:Nat):zbC d k=lvl d k:=by unfold zbC;rw[if_pos (zA h)]
theorem zxO {d:DfaT} (h: ¬zg d) (k:Nat):zbC d k=[]:=by unfold zbC;rw[if_neg];rw[zu h];exact Bool.false_ne_true
theorem WtO.isS {vw:Value} {ws:List (Nat×Nat)} {kw:za} (h:WtO vw ws kw): ∃a c,vw= .slice a ws.length c:=by
 rcases h with ⟨a,rfl,rfl,_⟩| ⟨b,cap,sp,rfl,_⟩| ⟨b,sp,rfl,_⟩
 ·exact⟨a,0,rfl⟩
 ·exact⟨_,_,rfl⟩
 ·exact⟨_,_,rfl⟩
def zh0 (n:Nat) (f:Nat→Nat):List Int:=(Hg n).map fun i=>((f i:Nat):Int)
theorem zeL (n:Nat) (f:Nat→Nat):(zh0 n f).length=n:=by simp [zh0]
theorem zvO (n:Nat) (f:Nat→Nat):zk n f=(zh0 n f).map (Yd .i64):=by unfold zk zh0;rw[List.map_map];rfl
theorem zox {n:Nat} (f:Nat→Nat) {i:Nat} (h:i<n):(zh0 n f)[i]'(by rw[zeL];exact h)=(f i:Int):=by simp [zh0]
def alF (d:DfaT) (N:Nat) (s:Nat):Nat:=((lvl d N).getD s 0).toNat
theorem zoy {d:DfaT} (h:d.next.length=d.label.length) (N:Nat) {s:Nat} (hs:s<d.next.length):(lvl d N)[s]'(by rw[zP h];exact hs)=(alF d N s:Int):=by
 have hl:s< (lvl d N).length:=by rw[zP h];exact hs
 unfold alF;rw[Fg,Xe hl];have hb:(lvl d N)[s]∈zd (lvl d N):=by rw[zbL];exact Me hl
 have:=za9 hb;show _=(((lvl d N)[s]).toNat:Int);omega
theorem zhi {d:DfaT} (h:d.next.length=d.label.length) (N:Nat) {s t:Nat} (hs:s<d.next.length) (ht:t<d.next.length):alF d N s=alF d N t↔(lvl d N)[s]'(by rw[zP h];exact hs)=(lvl d N)[t]'(by rw[zP h];exact ht):=by
 rw[zoy h N hs,zoy h N ht];omega
theorem zla {d:DfaT} (K0:zg d) {s k:Nat} (hs:s<d.next.length) (hk:k<d.width.toNat) (N:Nat):atL (lvl d N) (atL d.next[s] k)=(alF d N (dlF d k s):Int):=by
 obtain⟨h1,h2,h3⟩:=ziR K0 hs (k:=k) Ko;have h4:=K0.2.2.1
 have e1:atL d.next[s] (k:Int)=(dlF d k s:Int):=by
  rw[zL (by simpa using h1)];simp only[Yf];exact h2
 rw[e1,zL (by simp only[Yf];rw[zP h4];omega)];simp only[Yf];exact zoy h4 N Ko
theorem zvP {d:DfaT} (K0:zg d) {N:Nat} (hN:zk3 d N) {s t k:Nat} (hs:s<d.label.length) (ht:t<d.label.length) (hk:k<d.width.toNat) (e:alF d N s=alF d N t):alF d N (dlF d k s)=alF d N (dlF d k t):=by
 have h4:=K0.2.2.1;have hs':s<d.next.length:=by omega
 have ht':t<d.next.length:=by omega
 have h1:=(zd3 h4 N hs' ht').1 (by simp only[hN.2.1];exact(zhi h4 N hs' ht').1 e);have h2:=h1.2 k hk;rw[zla K0 hs' hk,zla K0 ht' hk] at h2;omega
theorem ztR {d:DfaT} (K0:zg d) {N:Nat} (hN:zk3 d N) {bf:Nat→Nat} (Bb: ∀s t,s<d.label.length→t<d.label.length→alF d N s=alF d N t→bf s=bf t) (L5: ∀s t,s<d.label.length→t<d.label.length→bf s=bf t→blF d.label s=blF d.label t)
  (N1: ∀s t k,s<d.label.length→t<d.label.length→k<d.width.toNat→bf s=bf t→bf (dlF d k s)=bf (dlF d k t)):zd (zh0 d.label.length bf)=zbC d 65536:=by
 have h4:=K0.2.2.1;have S0:N≤65536:=by have:=hN.1;have:=K0.2.1;omega
 rw[zfN K0,zfe hN.2.1 S0,←zbL d N]
 have hlev: ∀m s t (hs:s<d.next.length) (ht:t<d.next.length),bf s=bf t→alF d m s=alF d m t:=by
  intro m;induction m with
  |zero=>
   intro s t hs ht e;rw[zhi h4 0 hs ht,zf7 h4 Ko Ko];exact(zqv Ko Ko).1 (L5 s t Ko Ko e)
  |succ m ih=>
   intro s t hs ht e;rw[zhi h4 (m+1) hs ht,zd3 h4 m hs ht];refine⟨(zhi h4 m hs ht).1 (ih s t hs ht e),fun k hk=>?_⟩;rw[zla K0 hs hk,zla K0 ht hk];have h1:=(ziR K0 hs (k:=k) Ko).2.2;have h2:=(ziR K0 ht (k:=k) Ko).2.2;rw[ih _ _ Ko Ko (N1 s t k Ko Ko hk e)]
 have R6:(zh0 d.label.length bf).length=(lvl d N).length:=by rw[zeL,zP h4,h4]
 refine zdj R6 fun i j hi hj=>?_;rw[zeL] at hi hj;rw[zox bf hi,zox bf hj];have e1:=zhi h4 N (s:=i) (t:=j) Ko Ko;constructor
 ·intro e;exact e1.1 (hlev N i j Ko Ko Ko)
 ·intro e;have:=Bb i j hi hj (e1.2 e);omega
set_option maxRecDepth 4000 in
theorem zz7 {d:DfaT} {C:List Value} {an al ay:Option Addr} {cn cl cs:Nat} {rs:List Value} {G:zb} {H:za} (O:OpenD G d C an al ay cn cl cs rs) {n w W:Nat} (hW:d.width=(W:Int)) (U8:W≤256) (hw:w≤66000) {b1 bp bx bm csp:Nat} {vs va vb vk:Value}:
  Tri Tryz.prog Tryz.f67.ntmps (piece [1,1,1,0] Tryz.f67) G [(1, .pointer (some ⟨b1,0,none⟩)),(3, .pointer (some ⟨bp,0,none⟩))] ((bp, .cells (PC vs va vb (.slice (some ⟨bx,0,none⟩) w csp) vk (.slice none 0 0) (.map (some bm)) (W:Nat)) [] 135):: (bm, .map []):: (b1, .cells C [] 27)::H) (onlyN fun G' l H'=> ∃ (ws:List (Nat×Nat)) (am:List ((Int×Int)×Int)) (vw:Value) (kw:za),(∀b k,b<w→k<W→(b,k)∈ws)∧ws.Nodup∧(∀p∈ws,p.1<w∧p.2<W)∧ws.length≤w * W∧zbw am ws∧WtO vw ws kw∧G'=G∧zy [3] l=[(3, .pointer (some ⟨bp,0,none⟩))]∧H'=(bp, .cells (PC vs va vb (.slice (some ⟨bx,0,none⟩) w csp) vk vw (.map (some bm)) (W:Nat)) [] 135):: (bm, .map (am.map fun p=>(zaB p.1,Yd .i64 p.2))):: (kw++H)):=by
 have N0:=O.len;have D1:=O.w;have hmulw:w * W≤66000 * 256:=Yh hw U8;refine Tri.sepT fun M1=>?_;have hE:=M1;try simp only[zzs] at hE
 repeat(obtain⟨J0,hE⟩:=hE)
 refine Xg (f:=Tryz.f67) rfl ?_;refine Yg tok ziQ Kk ?_
 repeat' first
  |with_reducible first|refine Zd ?_ |refine Ae (fun _=>?_) fun _=>?_ |refine Nb fun nb A0 C0 B0=>?_
  |simp -dsimp -implicitDefEqProofs (disch:=first|exact Kd|fail) only[go_sem,↓reduceIte,seval]
 refine Je tok ziQ Kk [1,3,16,17] (fun q G' l H'=> ∃ (i:Nat) (ws:List (Nat×Nat)) (am:List ((Int×Int)×Int)) (vw:Value) (kw:za),i+q=w∧(∀b k,b<i→k<W→(b,k)∈ws)∧ws.Nodup∧(∀p∈ws,p.1<w∧p.2<W)∧ws.length≤i * W∧zbw am ws∧WtO vw ws kw∧G'=G∧H'=(bp, .cells (PC vs va vb (.slice (some ⟨bx,0,none⟩) w csp) vk vw (.map (some bm)) (W:Nat)) [] 135):: (b1, .cells C [] 27):: (bm, .map (am.map fun p=>(zaB p.1,Yd .i64 p.2))):: (kw++H)∧l=[(1, .pointer (some ⟨b1,0,none⟩)),(3, .pointer (some ⟨bp,0,none⟩)),(16, .int .i64 (w:Nat)),(17, .int .i64 (i:Nat))]) (w) ?_ ?_
 ·exact Xf (H':=(bp, .cells (PC vs va vb (.slice (some ⟨bx,0,none⟩) w csp) vk (.slice none 0 0) (.map (some bm)) (W:Nat)) [] 135):: (b1, .cells C [] 27):: (bm, .map []):: ([]++H)) Ks ⟨0,[],[],_,[],by omega,fun b k h=>by omega,List.nodup_nil,fun p h=>(by cases h),by simp,zbw.nil, .inl ⟨none,rfl,rfl,rfl⟩,rfl,rfl,rfl⟩
 ·rintro q G1 l H1 S0 V0 ⟨i,ws,am,vw,kw,Q5,h1,h2,h3,h4,hA,hO,rfl,rfl,rfl⟩;have hE:=V0;try simp only[zzs] at hE
  repeat(obtain⟨J0,hE⟩:=hE)
  by_cases hi:i<w
  ·repeat' first
    |with_reducible first|refine Zd ?_ |refine Ae (fun _=>?_) fun _=>?_ |refine Nb fun nb A0 C0 B0=>?_
    |simp -dsimp -implicitDefEqProofs (disch:=first|exact Kd|fail) only[go_sem,↓reduceIte,seval,N0,D1,hW]
   refine Je tok ziQ Kk [1,3,4,16,17,21,22] (fun q2 G' l H'=> ∃ (j:Nat) (ws:List (Nat×Nat)) (am:List ((Int×Int)×Int)) (vw:Value) (kw:za),j+q2=W∧(∀b k,b<i→k<W→(b,k)∈ws)∧(∀k,k<j→(i,k)∈ws)∧ws.Nodup∧(∀p∈ws,p.1<w∧p.2<W)∧ws.length≤i * W+j∧zbw am ws∧WtO vw ws kw∧G'=G1∧H'=(bp, .cells (PC vs va vb (.slice (some ⟨bx,0,none⟩) w csp) vk vw (.map (some bm)) (W:Nat)) [] 135):: (b1, .cells C [] 27):: (bm, .map (am.map fun p=>(zaB p.1,Yd .i64 p.2))):: (kw++H)∧l=[(1, .pointer (some ⟨b1,0,none⟩)),(3, .pointer (some ⟨bp,0,none⟩)),(4, .int .i64 (i:Nat)),(16, .int .i64 (w:Nat)),(17, .int .i64 (i:Nat)),(21, .int .i64 (W:Nat)),(22, .int .i64 (j:Nat))]) (W) ?_ ?_
   ·exact Ce ⟨0,ws,am,vw,kw,by omega,h1,fun k h=>by omega,h2,h3,by omega,hA,hO,rfl,rfl,rfl⟩
   ·clear h1 h2 h3 h4 hA hO V0;rintro q2 G2 l H2 Q0 R0 ⟨j,ws,am,vw,kw,hjq,h1,h1',h2,h3,h4,hA,hO,rfl,rfl,rfl⟩;have hE:=R0;try simp only[zzs] at hE
    repeat(obtain⟨J0,hE⟩:=hE)
    have hmul:i * W+W≤w * W:=by rw[←Bh];exact Nat.mul_le_mul_right W Ko
    by_cases hj:j<W
    ·repeat' first
      |with_reducible first|refine Zd ?_ |refine Ae (fun _=>?_) fun _=>?_ |refine Nb fun nb A0 C0 B0=>?_
      |simp -dsimp -implicitDefEqProofs (disch:=first|exact Kd|fail) only[go_sem,↓reduceIte,seval]
     refine Th (Uh (H':=(bp, .cells (PC vs va vb (.slice (some ⟨bx,0,none⟩) w csp) vk vw (.map (some bm)) (W:Nat)) [] 135):: (bm, .map (am.map fun p=>(zaB p.1,Yd .i64 p.2))):: (kw++((b1, .cells C [] 27)::H))) (znk Ko hA hO fun vw' am' kw' K9 L9=>?_) Ks);refine Oe (H':=(bp, .cells (PC vs va vb (.slice (some ⟨bx,0,none⟩) w csp) vk vw' (.map (some bm)) (W:Nat)) [] 135):: (b1, .cells C [] 27):: (bm, .map (am'.map fun p=>(zaB p.1,Yd .i64 p.2))):: (kw'++H)) Ks (Ce ?_)
     repeat' first
      |with_reducible first|refine Zd ?_ |refine Ae (fun _=>?_) fun _=>?_ |refine Nb fun nb A0 C0 B0=>?_
      |simp -dsimp -implicitDefEqProofs (disch:=first|exact Kd|fail) only[go_sem,↓reduceIte,seval]
     refine Ce ⟨q2 - 1,by omega,j+1,_,am',vw',kw',by omega,fun b k g1 g2=>zj9 (h1 b k g1 g2),fun k hk=>?_,zk4 h2,fun p hp=>?_,?_,L9,K9,rfl,rfl,rfl⟩
     ·rcases Eg k j with g|g
      ·exact zj9 (h1' k g)
      ·obtain rfl:k=j:=by omega
       exact zhT _ _
     ·rcases zlT hp with g|g
      ·exact h3 p g
      ·rw[g];exact⟨hi,hj⟩
     ·have:=zka ws (i,j);omega
    ·obtain rfl:j=W:=by omega
     repeat' first
      |with_reducible first|refine Zd ?_ |refine Ae (fun _=>?_) fun _=>?_ |refine Nb fun nb A0 C0 B0=>?_
      |simp -dsimp -implicitDefEqProofs (disch:=first|exact Kd|fail) only[go_sem,↓reduceIte,seval]
     refine Ce ⟨q - 1,by omega,i+1,ws,am,vw,kw,by omega,fun b k g1 g2=>?_,h2,h3,by rw[Bh];omega,hA,hO,rfl,rfl,rfl⟩;rcases Eg b i with g|g
     ·exact h1 b k g g2
     ·obtain rfl:b=i:=by omega
      exact h1' k g2
  ·obtain rfl:i=w:=by omega
   repeat' first
    |with_reducible first|refine Zd ?_ |refine Ae (fun _=>?_) fun _=>?_ |refine Nb fun nb A0 C0 B0=>?_
    |simp -dsimp -implicitDefEqProofs (disch:=first|exact Kd|fail) only[go_sem,↓reduceIte,seval]
   refine Xf (H':=(bp, .cells (PC vs va vb (.slice (some ⟨bx,0,none⟩) i csp) vk vw (.map (some bm)) (W:Nat)) [] 135):: (bm, .map (am.map fun p=>(zaB p.1,Yd .i64 p.2))):: (kw++H)) Ks ?_;exact⟨ws,am,vw,kw,h1,h2,h3,h4,hA,hO,rfl,rfl,rfl⟩
set_option maxRecDepth 4000 in
theorem zz8 {n W:Nat} {al bf0:Nat→Nat} {dl:Nat→Nat→Nat} (E7: ∀j s,j<W→s<n→dl j s<n) (hal: ∀j s t,j<W→s<n→t<n→al s=al t→al (dl j s)=al (dl j t)) (hn:n≤66000) (hW:W≤256) {w:Nat} {st pl bf fr to:Nat→Nat} {ws:List (Nat×Nat)} (hI:HInv n W al bf0 w st pl bf fr to ws) (Lc:zdn n W bf dl ws 0 fun _=>False) (hms:ws.length+W * (n - w)≤20000000) {am:List ((Int×Int)×Int)} (hA:zbw am ws) {G:zb} {bp bs ba bl bx bm cb csp:Nat} {spb spx:List Value} (N8:w * 3+spx.length=csp * 3) {vk vw:Value} {kw:za} (hO:WtO vw ws kw) (N9:BkT G n W dl vk) {H:za}:
  Tri Tryz.prog Tryz.f67.ntmps (piece [1,1,1,1,0] Tryz.f67) G [(3, .pointer (some ⟨bp,0,none⟩))] ((bp, .cells (PC (.slice (some ⟨bs,0,none⟩) n n) (.slice (some ⟨ba,0,none⟩) n n) (.slice (some ⟨bl,0,none⟩) n cb) (.slice (some ⟨bx,0,none⟩) w csp) vk vw (.map (some bm)) (W:Nat)) [] 135):: (bx, .cells (zF w fr to (fun _=>0)) spx 159):: (bs, .cells (zk n st) [] 3):: (ba, .cells (zk n pl) [] 3):: (bl, .cells (zk n bf) spb 3):: (bm, .map (am.map fun p=>(zaB p.1,Yd .i64 p.2))):: (kw++H)) (onlyN fun G' l H'=> ∃ (w:Nat) (st pl bf fr to:Nat→Nat) (am:List ((Int×Int)×Int)) (vw:Value) (kw:za) (bx csp:Nat) (spx:List Value),PLe G G'∧HInv n W al bf0 w st pl bf fr to []∧zdn n W bf dl [] 0 (fun _=>False)∧zy [3] l=[(3, .pointer (some ⟨bp,0,none⟩))]∧H'=(bp, .cells (PC (.slice (some ⟨bs,0,none⟩) n n) (.slice (some ⟨ba,0,none⟩) n n) (.slice (some ⟨bl,0,none⟩) n cb) (.slice (some ⟨bx,0,none⟩) w csp) vk vw (.map (some bm)) (W:Nat)) [] 135):: (bx, .cells (zF w fr to (fun _=>0)) spx 159):: (bs, .cells (zk n st) [] 3):: (ba, .cells (zk n pl) [] 3):: (bl, .cells (zk n bf) spb 3):: (bm, .map (am.map fun p=>(zaB p.1,Yd .i64 p.2))):: (kw++H)):=by
 refine Tri.sepT fun M1=>?_;have hE:=M1;try simp only[zzs] at hE
 repeat(obtain⟨J0,hE⟩:=hE)
 refine Xg (f:=Tryz.f67) rfl ?_;refine Yg tok ziQ Kk ?_
 repeat' first
  |with_reducible first|refine Zd ?_ |refine Ae (fun _=>?_) fun _=>?_ |refine Nb fun nb A0 C0 B0=>?_
  |simp -dsimp -implicitDefEqProofs (disch:=first|exact Kd|fail) only[go_sem,↓reduceIte,seval]
 refine Je tok ziQ Kk [3] (fun q G' l H'=> ∃ (w:Nat) (st pl bf fr to:Nat→Nat) (ws:List (Nat×Nat)) (am:List ((Int×Int)×Int)) (vw:Value) (kw:za) (bx csp:Nat) (spx:List Value),ws.length+W * (n - w)=q∧q≤20000000∧PLe G G'∧HInv n W al bf0 w st pl bf fr to ws∧zdn n W bf dl ws 0 (fun _=>False)∧zbw am ws∧w * 3+spx.length=csp * 3∧WtO vw ws kw∧H'=(bp, .cells (PC (.slice (some ⟨bs,0,none⟩) n n) (.slice (some ⟨ba,0,none⟩) n n) (.slice (some ⟨bl,0,none⟩) n cb) (.slice (some ⟨bx,0,none⟩) w csp) vk vw (.map (some bm)) (W:Nat)) [] 135):: (bx, .cells (zF w fr to (fun _=>0)) spx 159):: (bs, .cells (zk n st) [] 3):: (ba, .cells (zk n pl) [] 3):: (bl, .cells (zk n bf) spb 3):: (bm, .map (am.map fun p=>(zaB p.1,Yd .i64 p.2))):: (kw++H)∧l=[(3, .pointer (some ⟨bp,0,none⟩))]) ((ws.length+W * (n - w))) ?_ ?_
 ·exact Ce ⟨w,st,pl,bf,fr,to,ws,am,vw,kw,bx,csp,spx,rfl,hms,PLe.refl _,hI,Lc,hA,N8,hO,rfl,rfl⟩
 ·clear hI Lc hms hA N8 hO M1;rintro q G1 l H1 S0 V0 ⟨w,st,pl,bf,fr,to,ws,am,vw,kw,bx,csp,spx,hq,hms,N2,hI,Lc,hA,N8,hO,rfl,rfl⟩;obtain⟨av,cv,ev⟩:=hO.isS;rcases List.eq_nil_or_concat ws with rfl| ⟨ws0,⟨b,k⟩,X6⟩
  ·rw[ev] at V0⊢;have hE:=V0;try simp only[zzs] at hE
   repeat(obtain⟨J0,hE⟩:=hE)
   repeat' first
    |with_reducible first|refine Zd ?_ |refine Ae (fun _=>?_) fun _=>?_ |refine Nb fun nb A0 C0 B0=>?_
    |simp -dsimp -implicitDefEqProofs (disch:=first|exact Kd|fail) only[go_sem,↓reduceIte,seval]
   refine Ce ⟨w,st,pl,bf,fr,to,am,vw,kw,bx,csp,spx,N2,hI,Lc,rfl,?_⟩;rw[ev];rfl
  ·rw[List.concat_eq_append] at X6;subst X6;have X1:(ws0++[(b,k)]).length=ws0.length+1:=by simp
   rw[X1] at ev hq;obtain⟨hb,hk⟩:=hI.bd (b,k) (List.mem_append_right _ (List.mem_singleton.2 rfl));have I6:=hI.nd;have hlaw0:=Lc.take;have hI0:HInv n W al bf0 w st pl bf fr to ws0:=⟨hI.P,hI.fine,hI.lab,(List.nodup_append.1 I6).1,fun p hp=>hI.bd p (Bi _ hp)⟩;rw[ev] at V0 hO⊢;have hE:=V0;try simp only[zzs] at hE
   repeat(obtain⟨J0,hE⟩:=hE)
   repeat' first
    |with_reducible first|refine Zd ?_ |refine Ae (fun _=>?_) fun _=>?_ |refine Nb fun nb A0 C0 B0=>?_
    |simp -dsimp -implicitDefEqProofs (disch:=first|exact Kd|fail) only[go_sem,↓reduceIte,seval]
   refine Th (Uh (H':=(bp, .cells (PC (.slice (some ⟨bs,0,none⟩) n n) (.slice (some ⟨ba,0,none⟩) n n) (.slice (some ⟨bl,0,none⟩) n cb) (.slice (some ⟨bx,0,none⟩) w csp) vk (.slice av (ws0.length+1) cv) (.map (some bm)) (W:Nat)) [] 135):: (bm, .map (am.map fun p=>(zaB p.1,Yd .i64 p.2))):: (kw++((bx, .cells (zF w fr to (fun _=>0)) spx 159):: (bs, .cells (zk n st) [] 3):: (ba, .cells (zk n pl) [] 3):: (bl, .cells (zk n bf) spb 3)::H))) (zyO Ko hA I6 hO fun vw' am' kw' K9 L9=>?_) Ks);refine Oe (H':=(bp, .cells (PC (.slice (some ⟨bs,0,none⟩) n n) (.slice (some ⟨ba,0,none⟩) n n) (.slice (some ⟨bl,0,none⟩) n cb) (.slice (some ⟨bx,0,none⟩) w csp) vk vw' (.map (some bm)) (W:Nat)) [] 135):: (bx, .cells (zF w fr to (fun _=>0)) spx 159):: (bs, .cells (zk n st) [] 3):: (ba, .cells (zk n pl) [] 3):: (bl, .cells (zk n bf) spb 3):: (bm, .map (am'.map fun p=>(zaB p.1,Yd .i64 p.2))):: (kw'++H)) Ks (Upd.sepI fun R0=>Ce ?_);have hE:=R0;try simp only[zzs] at hE
   repeat(obtain⟨J0,hE⟩:=hE)
   repeat' first
    |with_reducible first|refine Zd ?_ |refine Ae (fun _=>?_) fun _=>?_ |refine Nb fun nb A0 C0 B0=>?_
    |simp -dsimp -implicitDefEqProofs (disch:=first|exact Kd|fail) only[go_sem,↓reduceIte,seval]
   refine Th (Uh (H':=(bp, .cells (PC (.slice (some ⟨bs,0,none⟩) n n) (.slice (some ⟨ba,0,none⟩) n n) (.slice (some ⟨bl,0,none⟩) n cb) (.slice (some ⟨bx,0,none⟩) w csp) vk vw' (.map (some bm)) (W:Nat)) [] 135):: (bx, .cells (zF w fr to (fun _=>0)) spx 159):: (bs, .cells (zk n st) [] 3):: (ba, .cells (zk n pl) [] 3):: (bl, .cells (zk n bf) spb 3):: (bm, .map (am'.map fun p=>(zaB p.1,Yd .i64 p.2))):: (kw'++H)) (zAw E7 hal hn hW hI0 hb hk hlaw0 Ko L9 N8 K9 (N9.mono N2) fun G2 w2 st2 pl2 bf2 fr2 to2 ws2 am2 vw2 kw2 bx2 csp2 spx2 Q0 K3 hlaw2 hms2 Qa hcx2 hO2=>Ce ?_) Ks)
   repeat' first
    |with_reducible first|refine Zd ?_ |refine Ae (fun _=>?_) fun _=>?_ |refine Nb fun nb A0 C0 B0=>?_
    |simp -dsimp -implicitDefEqProofs (disch:=first|exact Kd|fail) only[go_sem,↓reduceIte,seval]
   exact Ce ⟨ws2.length+W * (n - w2),by omega,w2,st2,pl2,bf2,fr2,to2,ws2,am2,vw2,kw2,bx2,csp2,spx2,rfl,by omega,N2.trans Q0,K3,hlaw2,Qa,hcx2,hO2,rfl,rfl⟩
set_option maxRecDepth 4000 in
theorem ztS {d:DfaT} (P0:zr d) {G:zb} {H:za} {R:Value→zb→za→Prop} {v:Value} (hv:IsD G d v)
  (hR: ∀G' v',PLe G G'→Sep G' (zm H)→Sl G' (Yd .i64) v' (zbC d 65536)→R v' G' H):FnT Tryz.prog 67 [v] G H R:=by
 obtain⟨C,an,al,ay,cn,cl,cs,rs,rfl,O⟩:=hv.opened;have N0:=O.len;have T0:=O.all;refine Zf ?_;by_cases K0:zg d
 ·have hb:=zA K0;obtain⟨Y2,K2,U2,N3,X3,Y3,Y1⟩:=id K0;obtain⟨N,hN⟩:=zlS U2 Y2;obtain⟨n,C1⟩: ∃n,n=d.label.length:=⟨_,rfl⟩;obtain⟨W,hWd⟩: ∃W:Nat,W=d.width.toNat:=⟨_,rfl⟩;have E5:0≤d.width:=by omega
  have hW:d.width=(W:Int):=by omega
  have U8:W≤256:=by
   have h2:=zZ d.of;have h3:=O.ofl;omega
  have E7: ∀j s,j<W→s<n→dlF d j s<n:=fun j s hj hs=>by
   have:=(ziR K0 (s:=s) (k:=j) Ko Ko).2.2;omega
  have hal: ∀j s t,j<W→s<n→t<n→alF d N s=alF d N t→alF d N (dlF d j s)=alF d N (dlF d j t):=fun j s t hj hs ht e=>zvP K0 hN Ko Ko Ko e;have J5:=fun bf=>ztR K0 hN (bf:=bf);refine FnT.bodyS tok ziQ (.seq .run (.seq .run (.seq .run (.seq .cut (.seq .cut .cut))))) Tryz.func67 rfl Kk Kk Kn fun M0=>?_;rw[Tryz.results67];have hE:=M0;try simp only[zzs] at hE
  repeat(obtain⟨J0,hE⟩:=hE)
  repeat' first
   |with_reducible first|refine Zd ?_ |refine Ae (fun _=>?_) fun _=>?_ |refine Nb fun nb A0 C0 B0=>?_
   |simp -dsimp -implicitDefEqProofs (disch:=first|exact Kd|fail) only[go_sem,↓reduceIte,seval, -He,Ye,N0,T0,hb]
   |with_reducible refine zaJ P0 O.is ?_
  obtain⟨b1,e10⟩: ∃x,x=nb:=⟨_,rfl⟩;subst e10;refine zpR P0 K0 C1 hW U8 O.is fun G2 bp bs ba bl bm cb spb vsp ks vk st pl w fr to Q0 hncb hP hks N9=>?_;have I3:=hP.bl_lt 0 Ko;have hwn:=hP.nb_le;rcases hks with ⟨_,_,h0,_,_⟩| ⟨bx,csp,spx,rfl,rfl,hxl,hxc⟩
  ·omega
  rw[zbr] at hxc
  repeat' first
   |with_reducible first|refine Zd ?_ |refine Ae (fun _=>?_) fun _=>?_ |refine Nb fun nb A0 C0 B0=>?_
   |simp -dsimp -implicitDefEqProofs (disch:=first|exact Kd|fail) only[go_sem,↓reduceIte,seval]
  refine Ch [1,3] ?_;refine Tri.upd (Oe (H':=(bp, .cells (PC (.slice (some ⟨bs,0,none⟩) n n) (.slice (some ⟨ba,0,none⟩) n n) (.slice (some ⟨bl,0,none⟩) n cb) (.slice (some ⟨bx,0,none⟩) w csp) vk (.slice none 0 0) (.map (some bm)) (W:Nat)) [] 135):: (bm, .map []):: (b1, .cells C [] 27):: ((bx, .cells (zF w fr to (fun _=>0)) spx 159):: (bs, .cells (zk n st) [] 3):: (ba, .cells (zk n pl) [] 3):: (bl, .cells (zk n (blF d.label)) spb 3)::H)) Ks (Ce ?_));refine Ah [1,1,1,0] Tryz.f67 Kk ?_;refine Tri.onlyN (zz7 (n:=n) (O.mono Q0) hW U8 Ko) fun G3 l3 H3 A1 K1 hM=>?_;obtain⟨ws,am,vw,kw,h1,h2,h3,h4,hA,hO,rfl,L4,rfl⟩:=hM;simp only[go_sem];refine Ch [3] ?_;rw[L4]
  have hmul:w * W+W * (n - w)=W * n:=by
   rw[Nat.mul_comm w W,←Nat.mul_add];congr 1;omega
  have hmul2:W * n≤256 * 65536:=Yh U8 Ko;refine Tri.upd (Oe (H':=(bp, .cells (PC (.slice (some ⟨bs,0,none⟩) n n) (.slice (some ⟨ba,0,none⟩) n n) (.slice (some ⟨bl,0,none⟩) n cb) (.slice (some ⟨bx,0,none⟩) w csp) vk vw (.map (some bm)) (W:Nat)) [] 135):: (bx, .cells (zF w fr to (fun _=>0)) spx 159):: (bs, .cells (zk n st) [] 3):: (ba, .cells (zk n pl) [] 3):: (bl, .cells (zk n (blF d.label)) spb 3):: (bm, .map (am.map fun p=>(zaB p.1,Yd .i64 p.2))):: (kw++H)) Ks (Ce ?_));refine Ah [1,1,1,1,0] Tryz.f67 Kk ?_;refine Tri.onlyN (zz8 (al:=alF d N) (bf0:=blF d.label) E7 hal Ko U8 ⟨hP,fun s t hs ht e=>?_,fun s t _ _ e=>e,h2,h3⟩ (fun s t j hs ht hj e ne=> .inl (h1 _ j (hP.bl_lt _ (E7 j s hj hs)) hj)) Ko hA hxc hO N9) fun G4 l4 H4 Z1 S1 hM=>?_
  ·rw[zqv Ko Ko,←zf7 U2 Ko Ko];exact zj8 U2 Ko Ko N (Pg N) ((zhi U2 N Ko Ko).1 e)
  ·obtain⟨w',st',pl',bf',fr',to',am',vw',kw',bx',csp',spx',Ac,C7,hlaw',hfr4,rfl⟩:=hM;simp only[go_sem];refine Ch [3] ?_;rw[hfr4];have hres:=J5 bf' (fun s t hs ht e=>C7.fine s t Ko Ko e) (fun s t hs ht e=>C7.lab s t Ko Ko e) (fun s t k hs ht hk e=>hlaw'.done Ko Ko Ko e);rw[←C1] at hres;refine Tri.upd (Oe (H':=(bl, .cells (zk n bf') spb 3):: (bp, .cells (PC (.slice (some ⟨bs,0,none⟩) n n) (.slice (some ⟨ba,0,none⟩) n n) (.slice (some ⟨bl,0,none⟩) n cb) (.slice (some ⟨bx',0,none⟩) w' csp') vk vw' (.map (some bm)) (W:Nat)) [] 135)::H) Ks (Upd.sepI fun J0=>Jf J0.1.1 fun G5 A2 P1 U7=>?_));rw[zvO] at U7;have hE:=P1;try simp only[zzs] at hE
   repeat(obtain⟨J0,hE⟩:=hE)
   refine Yg tok ziQ Kk ?_
   repeat' first
    |with_reducible first|refine Zd ?_ |refine Ae (fun _=>?_) fun _=>?_ |refine Nb fun nb A0 C0 B0=>?_
    |simp -dsimp -implicitDefEqProofs (disch:=first|exact Kd|fail) only[go_sem,↓reduceIte,seval]
   refine znW (l:=zh0 n bf') (by rw[zeL];omega) ⟨_,cb,by rw[zeL],U7,by rw[zeL];exact hncb⟩ fun G6 v6 Q1 E3 hsl6=>?_;rw[hres] at hsl6
   repeat' first
    |with_reducible first|refine Zd ?_ |refine Ae (fun _=>?_) fun _=>?_ |refine Nb fun nb A0 C0 B0=>?_
    |simp -dsimp -implicitDefEqProofs (disch:=first|exact Kd|fail) only[go_sem,↓reduceIte,seval]
   unfold zo;refine Xf (H':=H) Ks ?_;exact fun _ hs=>hR G6 v6 (Q0.trans (Ac.trans (A2.trans Q1))) hs hsl6
 ·have hb:=zu K0;rw[zxO K0] at hR;refine Ee tok ziQ Tryz.func67 rfl Kk Kk Kn fun M0=>?_;rw[Tryz.results67];have hE:=M0;try simp only[zzs] at hE
  repeat(obtain⟨J0,hE⟩:=hE)
  repeat' first
   |with_reducible first|refine Zd ?_ |refine Ae (fun _=>?_) fun _=>?_ |refine Nb fun nb A0 C0 B0=>?_
   |simp -dsimp -implicitDefEqProofs (disch:=first|exact Kd|fail) only[go_sem,↓reduceIte,seval, -He,Ye,N0,T0,hb]
   |with_reducible refine zaJ P0 O.is ?_
  unfold zo;refine Xf (H':=H) Ks ?_;exact fun _ hs=>hR G _ (PLe.refl _) hs (Sl.nil _ _)
def zao (d:DfaT) (m:List Int):List Int:=(zv m).map fun s=>d.label.getD s.toNat 0
def zg3 (d:DfaT) (m:List Int) (j:Nat) (vl:Value) (kl:za):Prop:=
 (j=0∧vl= .slice none 0 0∧kl=[])∨ ∃bl c2 sp2,vl= .slice (some ⟨bl,0,none⟩) j c2∧kl=[(bl, .cells (((zao d m).take j).map (Yd .i64)) sp2 3)]∧j+sp2.length=c2
theorem zwT {d:DfaT} {m:List Int} {C:List Value} {an al ay:Option Addr} {cn cl cs:Nat} {rs:List Value} {G:zb} {H:za} (O:OpenD G d C an al ay cn cl cs rs) {v0 v1 v6 v35 v36 v37:Value} {b2 b4 b7:Nat} {j t:Nat} (hj:j< (zv m).length) (H6:j<65536) (ht:t<d.label.length) (A3:(zv m)[j]=(t:Int)) {vn vl vs:Value} {kl:za} (H8:zg3 d m j vl kl):
  Tri Tryz.prog Tryz.f66.ntmps (piece [1,1,1,1,0,1,0,0,1,1,0,0,1,1,1,1] Tryz.f66) G [(0,v0),(1,v1),(2, .pointer (some ⟨b2,0,none⟩)),(4, .pointer (some ⟨b4,0,none⟩)),(5, .int .i64 0),(6,v6),(7, .pointer (some ⟨b7,0,none⟩)),(9, .int .i64 (t:Nat)),(35,v35),(36,v36),(37,v37)] ((b7, .cells (zc d vn vl vs) [] 27):: (b2, .cells C [] 27):: (kl++H)) (onlyN fun G' fr' H'=>
   ∃vl' kl',G'=G∧zg3 d m (j+1) vl' kl'∧zy [0,1,2,4,5,6,7,35,36,37] fr'=[(0,v0),(1,v1),(2, .pointer (some ⟨b2,0,none⟩)),(4, .pointer (some ⟨b4,0,none⟩)),(5, .int .i64 0),(6,v6),(7, .pointer (some ⟨b7,0,none⟩)),(35,v35),(36,v36),(37,v37)]∧H'=(b7, .cells (zc d vn vl' vs) [] 27):: (b2, .cells C [] 27):: (kl'++H)):=by
 have N0:=O.len;have X0:=O.l;have Z0: ∀a b c:Value,(zc d a b c).length=260:=fun a b c=>zN O.ofl _ _ _;have P2: ∀a b c:Value,(zc d a b c)[258]? =some b:=fun a b c=>zbz O.ofl _ _ _;have K4: ∀a b c x:Value,zf (zc d a b c) 258 [x]=zc d a x c:=fun a b c x=>zaH O.ofl _ _ _ _;have J2:d.label[t]=d.label.getD t 0:=by rw[Fg,Xe ht];rfl
 have L5:(zao d m).take (j+1)=(zao d m).take j++[d.label.getD t 0]:=by
  have U4:j< (zao d m).length:=by unfold zao;rw[Be];exact hj
  rw[Re U4];congr 2;simp only[zao,Le,A3,Yf]
 have L7:((zao d m).take j).length=j:=by rw[Ge];unfold zao;rw[Be];omega
 have V6:Adr al:=O.rl.adr (by rw[Be];omega);refine Tri.sepT fun M1=>?_;rcases H8 with ⟨X2,rfl,rfl⟩| ⟨bl,c2,sp2,rfl,rfl,J4⟩
 ·have hE:=M1;try simp only[zzs] at hE
  repeat(obtain⟨J0,hE⟩:=hE)
  have T2:((zao d m).take (j+1)).map (Yd .i64)=[Yd .i64 (d.label.getD t 0)]:=by rw[L5,Ke,Df (L7.trans X2)];rfl
  refine Xg (f:=Tryz.f66) rfl ?_;refine Yg tok zeF Kk ?_
  repeat' first
   |with_reducible first|refine Zd ?_ |refine Ae (fun _=>?_) fun _=>?_ |refine Nb fun nb A0 C0 B0=>?_ |refine Nr fun nb D0 E0 A0 I0 C0 B0=>?_
   |simp -dsimp -implicitDefEqProofs (disch:=first|exact Kd|fail) only[go_sem,↓reduceIte,seval, -He,Zh,Ye,N0,X0,Z0,P2,K4,Ie O.rl,Le,J2,Yf,Og]
   |with_reducible refine Vf tok mixed zeF 17 [1,3,6] (.op 0 .plain (.op 1 .held (.op 2 .plain (.op 3 .held (.op 4 .plain (.op 5 .plain (.op 6 .held (.op 7 .keeps (.op 8 .keeps (.op 9 .plain (.op 10 .plain .nil))))))))))) Kk [7,2] ?_
  rw[←T2];exact Oe (H':=(b7, .cells (zc d vn (.slice (some ⟨nb,0,none⟩) 1 E0) vs) [] 27):: (b2, .cells C [] 27):: ([(nb, .cells (((zao d m).take (j+1)).map (Yd .i64)) D0 3)]++H)) Ks (Ce ⟨.slice (some ⟨nb,0,none⟩) 1 E0,_,rfl, .inr ⟨nb,E0,D0,by rw[X2],rfl,by omega⟩,rfl,rfl⟩)
 ·have hE:=M1;try simp only[zzs] at hE
  repeat(obtain⟨J0,hE⟩:=hE)
  obtain⟨ps,Q6,J3⟩: ∃ps,ps=((zao d m).take j).map (Yd .i64)∧ps.length=j:=⟨_,rfl,by rw[Be,L7]⟩;have T2:((zao d m).take (j+1)).map (Yd .i64)=ps++[Yd .i64 (d.label.getD t 0)]:=by rw[L5,Ke,←Q6];rfl
  rw[←Q6];refine Xg (f:=Tryz.f66) rfl ?_;refine Yg tok zeF Kk ?_
  repeat' first
   |with_reducible first|refine Zd ?_ |refine Ae (fun _=>?_) fun _=>?_ |refine Nb fun nb A0 C0 B0=>?_ |refine Nr fun nb D0 E0 A0 I0 C0 B0=>?_
   |simp -dsimp -implicitDefEqProofs (disch:=first|exact Kd|fail) only[go_sem,↓reduceIte,seval, -He,Zh,Ye,N0,X0,Z0,P2,K4,Ie O.rl,Le,J2,Yf,Og]
   |with_reducible refine Vf tok mixed zeF 17 [1,3,6] (.op 0 .plain (.op 1 .held (.op 2 .plain (.op 3 .held (.op 4 .plain (.op 5 .plain (.op 6 .held (.op 7 .keeps (.op 8 .keeps (.op 9 .plain (.op 10 .plain .nil))))))))))) Kk [7,2] ?_
  rw[←T2];exact Oe (H':=(b7, .cells (zc d vn (.slice (some ⟨nb,0,none⟩) (j+1) E0) vs) [] 27):: (b2, .cells C [] 27):: ([(nb, .cells (((zao d m).take (j+1)).map (Yd .i64)) D0 3)]++H)) Ks (Ce ⟨_,_,rfl, .inr ⟨nb,E0,D0,rfl,rfl,by omega⟩,rfl,rfl⟩)
def zlV (d:DfaT) (m:List Int) (G':zb) (j:Nat) (vn:Value) (kn:za):Prop:=
 (j=0∧vn= .slice none 0 0∧kn=[])∨ ∃bn c1 rv sp1,vn= .slice (some ⟨bn,0,none⟩) j c1∧kn=[(bn, .cells rv sp1 24)]∧rv.length=j∧j+sp1.length=c1∧
  ∀i (h:i<j) (h2:i<rv.length) (h3:i< (zv m).length),∃b c,rv[i]= .slice b (zdk d m (zv m)[i].toNat).length c∧Row G' b ((zdk d m (zv m)[i].toNat).map (Yd .i64))∧(zdk d m (zv m)[i].toNat).length≤c
theorem x_t {d:DfaT} (P0:zr d) {m:List Int} (N1:zaY d m) {C:List Value} {an al ay:Option Addr} {cn cl cs:Nat} {rs:List Value} {G:zb} {H:za} (O:OpenD G d C an al ay cn cl cs rs) {v0 v1:Value} {b2 b4 b7:Nat} {an3 ah:Option Addr} {cn3 ch:Nat} (D2:Row G an3 ((zd m).map (Yd .i64))) (S4:Row G ah ((zv m).map (Yd .i64))) {j:Nat} (hj:j< (zv m).length) {vn vl vs:Value} {kn kl:za} (H8:zlV d m G j vn kn) (M9:zg3 d m j vl kl) (J6:zax vs=true):
  Tri Tryz.prog Tryz.f66.ntmps (piece [1,1,1,1,0,1,0,0,1,1,0,0] Tryz.f66) G [(0,v0),(1,v1),(2, .pointer (some ⟨b2,0,none⟩)),(4, .pointer (some ⟨b4,0,none⟩)),(5, .int .i64 0),(6, .slice an3 (zd m).length cn3),(7, .pointer (some ⟨b7,0,none⟩)),(35, .slice ah (zv m).length ch),(36, .int .i64 (zv m).length),(37, .int .i64 (j:Nat))] ((b7, .cells (zc d vn vl vs) [] 27):: (b2, .cells C [] 27):: (kn++(kl++H))) (onlyN fun G' fr' H'=>
   ∃vn' vl' kn' kl',PLe G G'∧zlV d m G' (j+1) vn' kn'∧zg3 d m (j+1) vl' kl'∧zy [0,1,2,4,5,6,7,35,36,37] fr'=[(0,v0),(1,v1),(2, .pointer (some ⟨b2,0,none⟩)),(4, .pointer (some ⟨b4,0,none⟩)),(5, .int .i64 0),(6, .slice an3 (zd m).length cn3),(7, .pointer (some ⟨b7,0,none⟩)),(35, .slice ah (zv m).length ch),(36, .int .i64 (zv m).length),(37, .int .i64 (j:Nat))]∧H'=(b7, .cells (zc d vn' vl' vs) [] 27):: (b2, .cells C [] 27):: (kn'++(kl'++H))):=by
 obtain⟨U3,M2,V3,A4,M4⟩:=id P0;have K0:=N1.1;have X4:m.length=d.label.length:=N1.2.1;obtain⟨Y2,K2,U2,N3,X3,Y3,Y1⟩:=id K0;have N0:=O.len;have D1:=O.w;have J1:=O.n;have X0:=O.l;have C1:=zt m;have Z0: ∀a b c:Value,(zc d a b c).length=260:=fun a b c=>zN O.ofl _ _ _;have Z2: ∀a b c:Value,(zc d a b c)[257]? =some a:=fun a b c=>zcx O.ofl _ _ _;have P2: ∀a b c:Value,(zc d a b c)[258]? =some b:=fun a b c=>zbz O.ofl _ _ _;have U5: ∀a b c x:Value,zf (zc d a b c) 257 [x]=zc d x b c:=fun a b c x=>zbi O.ofl _ _ _ _;have K4: ∀a b c x:Value,zf (zc d a b c) 258 [x]=zc d a x c:=fun a b c x=>zaH O.ofl _ _ _ _
 -- the state
 obtain⟨t,L3,A3⟩: ∃t:Nat,t<m.length∧(zv m)[j]=(t:Int):=by
  have Z5:(zl m)[j]'(by unfold zv at hj;rwa [Be] at hj)∈m:=(zK m).1 (Me _);obtain⟨t,ht⟩:=zaf Z5;exact⟨t,(zaa ht).1,by simp only[zv,Le];exact zB ht⟩
 have L1:t<d.next.length:=by omega
 have K7:t<d.label.length:=by omega
 have V8:t<rs.length:=by have:=O.rnl;omega
 obtain⟨b,c,e1,e2,e3⟩:=O.rs t L1 V8;obtain⟨I3,Ib,Ra,Y7⟩:=Y1 t L1 K7;obtain⟨row,U0⟩: ∃row,row=d.next[t]:=⟨_,rfl⟩;have I2:=M2 _ (Me L1);rw[←U0] at e1 e2 e3 I3 Y7 I2;have hw:d.width=(row.length:Int):=I3.symm;obtain⟨r,hr⟩: ∃r,r=zdk d m t:=⟨_,rfl⟩;have I8:r=row.map (atL (zd m)):=by rw[hr];unfold zdk;rw[Fg,Xe L1,U0];rfl
 have I5:r.length=row.length:=by rw[I8,Be]
 have J2:d.label[t]=d.label.getD t 0:=by rw[Fg,Xe K7];rfl
 have L5:(zao d m).take (j+1)=(zao d m).take j++[d.label.getD t 0]:=by
  have U4:j< (zao d m).length:=by unfold zao;rw[Be];exact hj
  rw[Re U4];congr 2;simp only[zao,Le,A3,Yf]
 have L7:((zao d m).take j).length=j:=by rw[Ge];unfold zao;rw[Be];omega
 have Y5:zdk d m (zv m)[j].toNat=r:=by rw[A3,Yf,hr]
 have B3:Adr an:=O.rn.adr Ko;have V6:Adr al:=O.rl.adr (by rw[Be];omega);have Xa:Adr ah:=S4.adr (by rw[Be];omega);have Yc:Adr an3:=D2.adr (by rw[Be];omega)
 have H6:j<65536:=by
  have h1:=zZ m;unfold zv at hj;rw[Be] at hj;omega
 refine Tri.sepT fun M1=>?_;have hE:=M1;try simp only[zzs] at hE
 repeat(obtain⟨J0,hE⟩:=hE)
 refine Xg (f:=Tryz.f66) rfl ?_;refine Tri.runS tok zeF (.seq .run (.seq .run (.seq .run (.seq .run .cut)))) Kk ?_
 repeat' first
  |with_reducible first|refine Zd ?_ |refine Ae (fun _=>?_) fun _=>?_ |refine Nb fun nb A0 C0 B0=>?_ |refine Nr fun nb D0 E0 A0 I0 C0 B0=>?_
  |simp -dsimp -implicitDefEqProofs (disch:=first|exact Kd|fail) only[go_sem,↓reduceIte,seval, -He,Ye,N0,D1,J1,X0,hw,Z0,Z2,P2,U5,K4,Ie S4,Ie O.rn,e1,Ie O.rl,Ie D2,Le,A3,J2,Yf,Og,Wh]
 revert nb;intro br hbr hbr1 hbr2;rw[show Fe row.length (Yd .i64 0)=(zbq r 0).map (Yd .i64) by rw[←I5,zfB]];refine Je tok zeF Kk [0,1,2,4,5,6,7,9,10,35,36,37,48,49,50] (fun q G' fr H'=> ∃k:Nat,k+q=row.length∧G'=G∧H'=(br, .cells ((zbq r k).map (Yd .i64)) [] 3):: (b7, .cells (zc d vn vl vs) [] 27):: (b2, .cells C [] 27):: (kn++(kl++H))∧fr=[(0,v0),(1,v1),(2, .pointer (some ⟨b2,0,none⟩)),(4, .pointer (some ⟨b4,0,none⟩)),(5, .int .i64 0),(6, .slice an3 (zd m).length cn3),(7, .pointer (some ⟨b7,0,none⟩)),(9, .int .i64 (t:Nat)),(10, .slice (some ⟨br,0,none⟩) row.length row.length),(35, .slice ah (zv m).length ch),(36, .int .i64 (zv m).length),(37, .int .i64 (j:Nat)),(48, .slice b row.length c),(49, .int .i64 row.length),(50, .int .i64 (k:Nat))]) (row.length) ?_ ?_
 ·exact Ce ⟨0,by omega,rfl,rfl,rfl⟩
 ·rintro q G1 fr H' S0 hs ⟨k,hk,rfl,rfl,rfl⟩;have J3:(zbq r k).length=row.length:=by rw[zgD r Ko,I5]
  by_cases Q2:k<row.length
  ·have hE:=hs;try simp only[zzs] at hE
   repeat(obtain⟨J0,hE⟩:=hE)
   have D7:k<r.length:=by omega
   have Cd:Adr b:=e2.adr (by rw[Be];omega);have hx:=Y7 _ (Me Q2);obtain⟨y,Z4⟩:=Int.eq_ofNat_of_zero_le hx.1;have hym:y< (zd m).length:=by omega
   have P5:(zd m)[y]=r[k]:=by
    simp only[I8,Le];rw[Z4,zL (by simpa using hym)];simp only[Yf]
   have M3:=zgE D7
   repeat' first
    |with_reducible first|refine Zd ?_ |refine Ae (fun _=>?_) fun _=>?_ |refine Nb fun nb A0 C0 B0=>?_ |refine Nr fun nb D0 E0 A0 I0 C0 B0=>?_
    |simp -dsimp -implicitDefEqProofs (disch:=first|exact Kd|fail) only[go_sem,↓reduceIte,seval, -He,Ie e2,Ie D2,Le,Z4,P5,M3,J3,Yf]
   exact Ce ⟨q - 1,by omega,k+1,by omega,rfl,rfl,rfl⟩
  ·obtain rfl:k=row.length:=by omega
   have hpa:zbq r row.length=r:=by rw[←I5];exact ziL r
   rw[hpa] at hs⊢;rcases H8 with ⟨X2,rfl,rfl⟩| ⟨bn,c1,rv,sp1,rfl,rfl,T3,V7,F5⟩
   ·have hE:=hs;try simp only[zzs] at hE
    repeat(obtain⟨J0,hE⟩:=hE)
    repeat' first
     |with_reducible first|refine Zd ?_ |refine Ae (fun _=>?_) fun _=>?_ |refine Nb fun nb A0 C0 B0=>?_ |refine Nr fun nb D0 E0 A0 I0 C0 B0=>?_
     |simp -dsimp -implicitDefEqProofs (disch:=first|exact Kd|fail) only[go_sem,↓reduceIte,seval, -He,Be,L7,Zh,Ye,N0,D1,J1,X0,hw,Z0,Z2,P2,U5,K4,Ie S4,Ie O.rn,e1,Ie O.rl,Ie D2,Le,A3,J2,Yf,Og,Wh]
    refine Tri.upd (Oe (H':=(b7, .cells (zc d (.slice (some ⟨nb,0,none⟩) 1 E0) vl vs) [] 27):: (b2, .cells C [] 27):: (kl++((br, .cells (r.map (Yd .i64)) [] 3):: (nb, .cells [.slice (some ⟨br,0,none⟩) row.length row.length] D0 24)::H))) Ks (Ce ?_));refine Ch [0,1,2,4,5,6,7,9,35,36,37] ?_;refine Ah [1,1,1,1,0,1,0,0,1,1,0,0,1,1,1,1] Tryz.f66 Kk ?_;refine Tri.onlyN (zwT O hj H6 K7 A3 M9) fun G5 l5 H5 A2 P1 hM=>?_;obtain⟨vl',kl',rfl,X8,L4,rfl⟩:=hM;rw[zb1];have hE:=P1;try simp only[zzs] at hE
    repeat(obtain⟨J0,hE⟩:=hE)
    refine Oe (H':=(br, .cells (r.map (Yd .i64)) [] 3):: (b7, .cells (zc d (.slice (some ⟨nb,0,none⟩) 1 E0) vl' vs) [] 27):: (b2, .cells C [] 27):: ([(nb, .cells [.slice (some ⟨br,0,none⟩) row.length row.length] D0 24)]++(kl'++H))) Ks (Jf Ka fun G6 Q1 E3 C6=>?_);refine⟨_,vl',_,kl',Q1, .inr ⟨nb,E0,_,D0,by rw[X2],rfl,by rw[X2];rfl,by omega,fun i h h2 h3=>?_⟩,X8,L4,rfl⟩;obtain rfl:i=0:=by omega
    obtain rfl:j=0:=X2;refine⟨some ⟨br,0,none⟩,row.length,?_,?_,?_⟩
    ·rw[Y5,I5];rfl
    ·rw[Y5];exact C6
    ·rw[Y5,I5];exact Qe _
   ·have hE:=hs;try simp only[zzs] at hE
    repeat(obtain⟨J0,hE⟩:=hE)
    repeat' first
     |with_reducible first|refine Zd ?_ |refine Ae (fun _=>?_) fun _=>?_ |refine Nb fun nb A0 C0 B0=>?_ |refine Nr fun nb D0 E0 A0 I0 C0 B0=>?_
     |simp -dsimp -implicitDefEqProofs (disch:=first|exact Kd|fail) only[go_sem,↓reduceIte,seval, -He,Be,L7,Zh,Ye,N0,D1,J1,X0,hw,Z0,Z2,P2,U5,K4,Ie S4,Ie O.rn,e1,Ie O.rl,Ie D2,Le,A3,J2,Yf,Og,Wh]
    refine Tri.upd (Oe (H':=(b7, .cells (zc d (.slice (some ⟨nb,0,none⟩) (j+1) E0) vl vs) [] 27):: (b2, .cells C [] 27):: (kl++((br, .cells (r.map (Yd .i64)) [] 3):: (nb, .cells (rv++[.slice (some ⟨br,0,none⟩) row.length row.length]) D0 24)::H))) Ks (Ce ?_));refine Ch [0,1,2,4,5,6,7,9,35,36,37] ?_;refine Ah [1,1,1,1,0,1,0,0,1,1,0,0,1,1,1,1] Tryz.f66 Kk ?_;refine Tri.onlyN (zwT O hj H6 K7 A3 M9) fun G5 l5 H5 A2 P1 hM=>?_;obtain⟨vl',kl',rfl,X8,L4,rfl⟩:=hM;rw[zb1];have hE:=P1;try simp only[zzs] at hE
    repeat(obtain⟨J0,hE⟩:=hE)
    refine Oe (H':=(br, .cells (r.map (Yd .i64)) [] 3):: (b7, .cells (zc d (.slice (some ⟨nb,0,none⟩) (j+1) E0) vl' vs) [] 27):: (b2, .cells C [] 27):: ([(nb, .cells (rv++[.slice (some ⟨br,0,none⟩) row.length row.length]) D0 24)]++(kl'++H))) Ks (Jf Ka fun G6 Q1 E3 C6=>?_);refine⟨_,vl',_,kl',Q1, .inr ⟨nb,E0,_,D0,rfl,rfl,by rw[Ve,T3];rfl,by omega,fun i h h2 h3=>?_⟩,X8,L4,rfl⟩;rcases Eg i j with Z3|Z3
    ·obtain⟨b',c',f1,f2,f3⟩:=F5 i Z3 Ko h3;exact⟨b',c',by rw[List.getElem_append_left Ko];exact f1,f2.mono Q1,f3⟩
    ·obtain rfl:i=j:=by omega
     refine⟨some ⟨br,0,none⟩,row.length,?_,?_,?_⟩
     ·rw[Y5,I5,List.getElem_append_right Ko];simp [T3]
     ·rw[Y5];exact C6
     ·rw[Y5,I5];exact Qe _
theorem zAx {d:DfaT} (P0:zr d) {m:List Int} (N1:zaY d m) {G:zb} {H:za} {R:Value→zb→za→Prop} {v w:Value} (hv:IsD G d v) (P4:Sl G (Yd .i64) w m)
  (hR: ∀G' v',PLe G G'→Sep G' (zm H)→IsD G' (ofD d m) v'→R (.tuple #[v', .int .i64 0]) G' H):FnT Tryz.prog 66 [v,w] G H R:=by
 obtain⟨C,an,al,ay,cn,cl,cs,rs,rfl,O⟩:=hv.opened;obtain⟨U3,M2,V3,A4,M4⟩:=id P0;have I3:=P4;obtain⟨aw,cw,rfl,Sa,R9⟩:=P4;have K0:=N1.1;have X4:m.length=d.label.length:=N1.2.1;obtain⟨Y2,K2,U2,N3,X3,Y3,Y1⟩:=id K0;have hb:=zA K0;have F4:=zA N1;have N0:=O.len;have T0:=O.all;have L3:=zZ m;have hhl:(zv m).length=(zl m).length:=by unfold zv;rw[Be]
 have H6:(zv m).length≤65536:=by omega
 have Ta:0< (zv m).length:=by
  have h0:0<m.length:=by omega
  have:m[0]∈zl m:=(zK m).2 (Me h0);rw[hhl];exact List.length_pos_of_mem this
 have Z0: ∀a b c:Value,(zc d a b c).length=260:=fun a b c=>zN O.ofl _ _ _;have X7: ∀a b c:Value,Hf 260 (zc d a b c)=zc d a b c:=fun a b c=>zbQ O.ofl _ _ _
 have T4: ∀a b c:Value,zf zz 0 (zc d a b c)=zc d a b c:=fun a b c=>by
  unfold zf;rw[Se,Af,Gf (by rw[zj,Z0];omega),Bf]
 refine Zf ?_;refine FnT.bodyS tok zeF (.seq .run (.seq .run (.seq .run (.seq .cut .cut)))) Tryz.func66 rfl Kk Kk Kn fun M0=>?_;rw[Tryz.results66];have hE:=M0;try simp only[zzs] at hE
 repeat(obtain⟨J0,hE⟩:=hE)
 repeat' first
  |with_reducible first|refine Zd ?_ |refine Ae (fun _=>?_) fun _=>?_ |refine Nb fun nb A0 C0 B0=>?_ |refine Nr fun nb D0 E0 A0 I0 C0 B0=>?_
  |simp -dsimp -implicitDefEqProofs (disch:=first|exact Kd|fail) only[go_sem,↓reduceIte,seval, -He,Ye,N0,T0,hb,F4]
  |with_reducible refine zaJ P0 O.is ?_
 rename_i b2 Ec J8 A8;revert nb;intro b4 hb40 Fc Wb;refine zvr P0 Ko O.is I3 fun G2 Q0 R0=>?_;have hE:=R0;try simp only[zzs] at hE
 repeat(obtain⟨J0,hE⟩:=hE)
 repeat' first
  |with_reducible first|refine Zd ?_ |refine Ae (fun _=>?_) fun _=>?_ |refine Nb fun nb A0 C0 B0=>?_ |refine Nr fun nb D0 E0 A0 I0 C0 B0=>?_
  |simp -dsimp -implicitDefEqProofs (disch:=first|exact Kd|fail) only[go_sem,↓reduceIte,seval, -He,Ye,F4]
 refine znW Ko (I3.mono Q0) fun G3 v3 A1 K1 T6=>?_;obtain⟨an3,cn3,rfl,D2,H9⟩:=T6
 repeat' first
  |with_reducible first|refine Zd ?_ |refine Ae (fun _=>?_) fun _=>?_ |refine Nb fun nb A0 C0 B0=>?_ |refine Nr fun nb D0 E0 A0 I0 C0 B0=>?_
  |simp -dsimp -implicitDefEqProofs (disch:=first|exact Kd|fail) only[go_sem,↓reduceIte,seval, -He,Ye]
 have O3:OpenD G3 d C an al ay cn cl cs rs:=OpenD.mono (Q0.trans A1) O;refine Ah [1,1,1,0] Tryz.f66 Kk ?_;refine Ch [0,1,2,4,5,6] ?_;refine Tri.onlyN (zAu P0 O3) fun G4 l4 H4 Z1 S1 hM=>?_;obtain⟨b7,vs,_,J6,L4,rfl⟩:=hM;simp only[go_sem];refine Ch [0,1,2,4,5,6,7] ?_;rw[L4];have hE:=S1;try simp only[zzs] at hE
 repeat(obtain⟨J0,hE⟩:=hE)
 have O4:=OpenD.mono Z1 O3;obtain⟨ay4,cy4,rfl,hr4y,hcy4⟩:=id J6;refine Yg tok zeF Kk ?_
 repeat' first
  |with_reducible first|refine Zd ?_ |refine Ae (fun _=>?_) fun _=>?_ |refine Nb fun nb A0 C0 B0=>?_ |refine Nr fun nb D0 E0 A0 I0 C0 B0=>?_
  |simp -dsimp -implicitDefEqProofs (disch:=first|exact Kd|fail) only[go_sem,↓reduceIte,seval, -He,Ye]
 refine zql Ko ⟨an3,cn3,rfl,D2.mono Z1,H9⟩ fun G5 v5 A2 P1 Sb=>?_;obtain⟨ah,ch,rfl,S4,hch⟩:=Sb;have hE:=P1;try simp only[zzs] at hE
 repeat(obtain⟨J0,hE⟩:=hE)
 have O5:=OpenD.mono A2 O4
 repeat' first
  |with_reducible first|refine Zd ?_ |refine Ae (fun _=>?_) fun _=>?_ |refine Nb fun nb A0 C0 B0=>?_ |refine Nr fun nb D0 E0 A0 I0 C0 B0=>?_
  |simp -dsimp -implicitDefEqProofs (disch:=first|exact Kd|fail) only[go_sem,↓reduceIte,seval, -He,Ye]
 refine Tri.loopS tok zeF (.seq .run (.seq .run (.seq (.block .cut) .cut))) Kk [0,1,2,4,5,6,7,35,36,37] (fun q G' fr H'=> ∃ (j:Nat) (vn vl:Value) (kn kl:za),j+q=(zv m).length∧zlV d m G' j vn kn∧zg3 d m j vl kl∧H'=(b7, .cells (zc d vn vl (.slice ay4 d.names.length cy4)) [] 27):: (b2, .cells C [] 27):: (kn++(kl++((b4, .cells zz [] 27)::H)))∧fr=[(0, .agg (List.toArray C)),(1, .slice aw m.length cw),(2, .pointer (some ⟨b2,0,none⟩)),(4, .pointer (some ⟨b4,0,none⟩)),(5, .int .i64 0),(6, .slice an3 (zd m).length cn3),(7, .pointer (some ⟨b7,0,none⟩)),(35, .slice ah (zv m).length ch),(36, .int .i64 (zv m).length),(37, .int .i64 (j:Nat))]) ((zv m).length) ?_ ?_
 ·exact Oe (H':=(b7, .cells (zc d (.slice none 0 0) (.slice none 0 0) (.slice ay4 d.names.length cy4)) [] 27):: (b2, .cells C [] 27):: ([]++([]++((b4, .cells zz [] 27)::H)))) Ks (Ce ⟨0,_,_,[],[],by omega, .inl ⟨rfl,rfl,rfl⟩, .inl ⟨rfl,rfl,rfl⟩,rfl,rfl⟩)
 ·rintro q G6 fr H' Q1 E3 ⟨j,vn,vl,kn,kl,hj,Y4,Q3,rfl,rfl⟩;by_cases U4:j< (zv m).length
  ·repeat' first
    |with_reducible first|refine Zd ?_ |refine Ae (fun _=>?_) fun _=>?_ |refine Nb fun nb A0 C0 B0=>?_ |refine Nr fun nb D0 E0 A0 I0 C0 B0=>?_
    |simp -dsimp -implicitDefEqProofs (disch:=first|exact Kd|fail) only[go_sem,↓reduceIte,seval, -He,Ye]
   refine Ch [0,1,2,4,5,6,7,35,36,37] ?_;refine Ah [1,1,1,1,0,1,0,0,1,1,0,0] Tryz.f66 Kk ?_;refine Tri.onlyN (x_t P0 N1 (OpenD.mono Q1 O5) ((D2.mono Z1).mono (A2.trans Q1)) (S4.mono Q1) U4 Y4 Q3 rfl) fun G7 l7 H7 W2 B4 hM=>?_;obtain⟨vn',vl',kn',kl',_,Tb,Mc,I7,rfl⟩:=hM;simp only[go_sem];refine Ch [0,1,2,4,5,6,7,35,36,37] ?_;rw[I7];refine Yg tok zeF Kk ?_
   repeat' first
    |with_reducible first|refine Zd ?_ |refine Ae (fun _=>?_) fun _=>?_ |refine Nb fun nb A0 C0 B0=>?_ |refine Nr fun nb D0 E0 A0 I0 C0 B0=>?_
    |simp -dsimp -implicitDefEqProofs (disch:=first|exact Kd|fail) only[go_sem,↓reduceIte,seval, -He,Ye]
   exact Ce ⟨q - 1,by omega,j+1,vn',vl',kn',kl',by omega,Tb,Mc,rfl,rfl⟩
  ·obtain rfl:j=(zv m).length:=by omega
   rcases Y4 with ⟨X2,_,_⟩| ⟨bn,c1,rv,sp1,rfl,rfl,T3,V7,F5⟩
   ·exact absurd X2 Ko
   rcases Q3 with ⟨X2,_,_⟩| ⟨bl,c2,sp2,rfl,rfl,J4⟩
   ·exact absurd X2 Ko
   have hE:=E3;try simp only[zzs] at hE
   repeat(obtain⟨J0,hE⟩:=hE)
   have S3:=zaC (d:=d) (vn:= .slice (some ⟨bn,0,none⟩) (zv m).length c1) (vl:= .slice (some ⟨bl,0,none⟩) (zv m).length c2) (vs:= .slice ay4 d.names.length cy4) rfl rfl rfl;have F8:(zao d m).length=(zv m).length:=by unfold zao;rw[Be]
   rw[show(zao d m).take (zv m).length=zao d m by rw[←F8,Te]]
   repeat' first
    |with_reducible first|refine Zd ?_ |refine Ae (fun _=>?_) fun _=>?_ |refine Nb fun nb A0 C0 B0=>?_ |refine Nr fun nb D0 E0 A0 I0 C0 B0=>?_
    |simp -dsimp -implicitDefEqProofs (disch:=first|exact Kd|fail) only[go_sem,↓reduceIte,seval, -He,Ye,Z0,X7,T4,S3,zj]
   unfold zo;refine Oe (H':=(bn, .cells rv sp1 24):: (bl, .cells ((zao d m).map (Yd .i64)) sp2 3)::H) Ks (Upd.trans (Jf Ka fun G7 W2 B4 Q7=>?_));refine Jf B4.1.1 fun G8 N4 B6 N6=>?_;refine fun _ hs=>hR G8 _ ((((Q0.trans A1).trans Z1).trans A2).trans (Q1.trans (W2.trans N4))) hs ?_;refine⟨O.ofl,O.ofb,_,_,_,rfl,⟨some ⟨bn,0,none⟩,c1,rv,?_,Q7.mono N4,?_,?_,fun i h h2=>?_⟩,⟨some ⟨bl,0,none⟩,c2,?_,N6,?_⟩,⟨ay4,cy4,rfl,hr4y.mono ((A2.trans Q1).trans (W2.trans N4)),hcy4⟩⟩
   ·simp only[ofD,Be]
   ·simp only[ofD,Be];exact T3
   ·simp only[ofD,Be];omega
   ·have hi:i< (zv m).length:=by simp only[ofD,Be] at h;exact h
    obtain⟨b',c',f1,f2,f3⟩:=F5 i hi h2 hi;refine⟨b',c',?_,?_,?_⟩
    ·simp only[ofD,Le];exact f1
    ·simp only[ofD,Le];exact f2.mono (W2.trans N4)
    ·simp only[ofD,Le];exact f3
   ·simp only[ofD,Be]
   ·simp only[ofD,Be];omega
end Go.Proofs.YtomdbjfdbkejoaaGreatDoor
