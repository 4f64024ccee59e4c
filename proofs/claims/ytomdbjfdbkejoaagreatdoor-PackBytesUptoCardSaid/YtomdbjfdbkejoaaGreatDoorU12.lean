/- A part of the proof, joined of several texts: the verification layer, contracts of functions, plain law. -/
import Derived.Test.YtomdbjfdbkejoaaGreatDoorU11
import Derived.Lib.Overlaps
set_option maxHeartbeats 64000000
set_option linter.unusedSimpArgs false
set_option linter.unusedVariables false
set_option linter.unusedSectionVars false
open Go.V.Nx renaming go→Zd
open Go.V.Bk renaming go→Ae
open List renaming reduceReplicate→He,toList_toArray→Ye,length_map→Be,getElem_mem→Me,getElem_map→Le,replicate→Fe,take_of_length_le→Pe,take→Hf,map_append→Ke,length_take→Ge,take_succ_eq_append_getElem→Re,getElem?_eq_getElem→Xe,length_append→Ve,take_zero→Se,nil_append→Af,drop_of_length_le→Gf,append_nil→Bf,getElem_of_mem→Ue,length_replicate→We,flatMap_cons→Nh,all_map→Mg,eq_nil_of_length_eq_zero→Df,map_replicate→Ff,mem_take_iff_getElem→Sj,length_drop→Of,range→Hg,mem_singleton→Vg,take_append_of_le_length→Tf,mem_of_mem_take→Li,take_length→Te,range_succ→Sf,flatMap_append→Ig,findIdx?_eq_some_iff_getElem→Cf,replicate_zero→Wh,ext_getElem→Tg,getElem?_map→Lg
open Go.Value renaming int→Yd,slice→Wf
open Go.V.Upd renaming now→Ce,go→Oe,leave→Xf,finL→De,shareRow→Jf
open Go.V.FnT renaming body→Ee,sep→Zf,upd→Th,leave→Uh
open Go.V.Row renaming obj→Ie
open Go.V.Tri renaming loopU→Je,run→Yg,live→Ch,piece→Xg,drawH→Vf,drawS→Wg,isPiece→Ah
open Nat renaming testBit_succ→Si,le_refl→Qe,mul_one→Gg,testBit_zero→Ti,testBit_and→Ui,reduceEqDiff→Vi,reduceAdd→Wi,reduceSub→Xi,reduceMul→Yi,reduceBEq→Zi,reduceLT→Aj,reduceLeDiff→Bj,reduceMod→Cj,reducePow→Dj,reduceDiv→Ij,pow_succ→Rj,lt_or_ge→Eg,zero_le→Pg,mul_le_mul_right→Gh,lt_trichotomy→Sh
open Int renaming toNat_natCast→Yf,reducePow→Fj,reduceDiv→Gj,reduceMod→Hj,reduceNeg→Jj,reduceAdd→Kj,reduceSub→Lj,reduceMul→Mj,reduceLE→Nj,reduceLT→Oj,reduceEq→Pj,reduceToNat→Qj,eq_ofNat_of_zero_le→Dg
open UInt8 renaming reduceOfNat→Ej,toNat_ofNat'→Sg
open Option renaming map_map→Ze
open Classical renaming propDecidable→Mf
namespace Go.Proofs.YtomdbjfdbkejoaaGreatDoor
abbrev zdt:List Nat:=[0,1,2,3,6,7,8,9,10,19,20,21,22,38]
abbrev zsf:List Nat:=[0,1,2,3,4,5,7,8,13,19,20,21,22,28]
abbrev zsg:List Nat:=[0,2,3,4,8,16,19,30]
abbrev zg6:List Nat:=[0,1,2,4,5,6,7,8,11,15,29,37,52]
abbrev zwi:List Nat:=[0,2,3,5,6,7,8,9,10,11,14,15,16]
abbrev zwj:List Nat:=[0,1,3,4,5,6,7,11,24]
abbrev zy1:List Nat:=[0,1,2,3,5,6]
abbrev zwk:List Nat:=[0,1,2,3,4,5,6,7,15,16]
abbrev zy2:List Nat:=[0,1,2,3,5,7,8,9,10]
abbrev zy3:List Nat:=[0,1,2,3,5,10]
abbrev zwl:List Nat:=[0,1,3,4,6,13,14,15,16]
abbrev zwm:List Nat:=[0,1,2,3,4,5,6,7,10,15,16,17]
abbrev zsh:List Nat:=[0,1,2,3,6,7,12,31]
abbrev zwn:List Nat:=[0,1,2,3,4,5,10,17]
abbrev zwo:List Nat:=[0,1,2,3,4,5,6,10,15]
open Go Go.V Go.Proofs
def zbx (d:DfaT) (g:Tx→Int):List Int:=d.label.map fun k=>if 0<k then g (zcU d k) else 0
def zdu (rows:List (List Int)):List (List Value):=rows.map fun r=>r.map (Yd .i64)
theorem zAG {d:DfaT} (P0:zr d) {names:List Tx} (C1:names.length≤2000000) {C:List Value} {an al ay:Option Addr} {cn cl cs:Nat} {rs:List Value} {G:zb} {H:za} (O:OpenD G d C an al ay cn cl cs rs) {v1 v2 v6:Value} (h1:Sl G str v1 names) {b3:Nat}:
  Tri Tryz.prog Tryz.f96.ntmps (piece [1,0] Tryz.f96) G [(1,v1),(2,v2),(3, .pointer (some ⟨b3,0,none⟩)),(6,v6)] ((b3, .cells C [] 27)::H) (onlyN fun G' fr' H'=>
   ∃b7 vs,PLe G G'∧Sl G' str vs names∧zy [2,3,6,7] fr'=[(2,v2),(3, .pointer (some ⟨b3,0,none⟩)),(6,v6),(7, .pointer (some ⟨b7,0,none⟩))]∧H'=(b7, .cells (zc d (.slice none 0 0) (.slice none 0 0) vs) [] 27):: (b3, .cells C [] 27)::H):=by
 obtain⟨U3,M2,V3,A4,M4⟩:=id P0;have N0:=O.len;have D1:=O.w;have E4:=O.of;have R5:(u8L d.of).length=256:=by rw[Be,O.ofl]
 have R3:=zdl O.ofl;have F4:=zc2 O.ofl;have D4:(u8L d.of++[Yd .i64 0,Wf none 0 0,Wf none 0 0,Wf none 0 0]).length=260:=by rw[Ve,R5];rfl
 have Z0: ∀v:Value,(zc d (.slice none 0 0) (.slice none 0 0) v).length=260:=fun v=>zN O.ofl _ _ _;have hb3:=zcG O.ofl (.slice none 0 0) (.slice none 0 0) (.slice none 0 0)
 have T4: ∀v:Value,zf zz 0 (zc d (.slice none 0 0) (.slice none 0 0) v)=zc d (.slice none 0 0) (.slice none 0 0) v:=fun v=>by
  unfold zf;rw[Se,Af,Gf (by rw[zj,Z0];omega),Bf]
 refine Tri.sepT fun M1=>?_;have hE:=M1;try simp only[zzs] at hE
 repeat(obtain⟨J0,hE⟩:=hE)
 refine Xg (f:=Tryz.f96) rfl ?_;refine Yg tok zdt Kk ?_
 repeat' first
  |with_reducible first|refine Zd ?_ |refine Ae (fun _=>?_) fun _=>?_ |refine Nb fun nb A0 C0 B0=>?_ |refine Nr fun nb D0 E0 A0 I0 C0 B0=>?_
  |with_reducible refine Vf tok mixed zdt 1 [1,3] (.op 0 .plain (.op 1 .held (.op 2 .plain (.op 3 .held (.op 4 .plain (.both (.op 5 .keeps (.op 6 .plain (.op 7 .keeps (.op 8 .plain .nil)))) (.op 7 .keeps (.op 5 .keeps (.op 6 .plain (.op 8 .plain .nil)))))))))) Kk [3] ?_
  |with_reducible refine Vf tok mixed zdt 5 [1] (.op 0 .plain (.op 1 .held (.op 2 .plain (.op 3 .keeps (.op 4 .keeps (.op 5 .plain (.op 6 .plain (.op 7 .plain .nil)))))))) Kk [7] ?_
  |with_reducible refine Tri.drawM tok mixed zdt 8 [2,4,7,10] (.op 0 .plain (.op 1 .plain (.op 2 .held (.op 3 .plain (.op 4 .held (.op 5 .plain (.op 6 .plain (.op 7 .held (.op 8 .plain (.op 9 .plain (.op 10 .held (.op 11 .keeps (.op 12 .plain .nil))))))))))))) Kk _ (List.Sublist.refl _) ?_
  |simp -dsimp -implicitDefEqProofs (disch:=first|exact Kd|fail) only[go_sem,↓reduceIte,seval, -He,Ye,N0,D1,E4,R5,R3,F4,hb3,D4,Z0,zj,zG,T4]
  | ((with_reducible refine zhP names C1 h1 fun G4 v4 Z1 S1 Za=>?_);obtain⟨ay4,cy4,rfl,S7,hc4⟩:=Za;have S3:=zaC (d:=d) (vn:= .slice none 0 0) (vl:= .slice none 0 0) (vs:= .slice ay4 names.length cy4) rfl rfl rfl;(have hE:=S1;try simp only[zzs] at hE;repeat(obtain⟨J0,hE⟩:=hE)))
  | (with_reducible refine And.intro ?_ ?_)
 all_goals exact Ce ⟨nb,_,Z1,⟨ay4,cy4,rfl,S7,hc4⟩,rfl,rfl⟩
theorem zAH {d:DfaT} (hd:d.of.length=256) {row:List Int} (I2:row.length≤2000000) (hr0:0<row.length) {i:Nat} (hi:i≤70000) {G:zb} {H:za} {v2 v3 v6 v8 v9 v19 v20 v21 vn vl vs:Value} {b7:Nat} {rv:List Value} {kn:za} (h9:Sl G (Yd .i64) v9 row) (S8:zO [] 24 1 vn i rv kn):
  Tri Tryz.prog Tryz.f96.ntmps (piece [1,1,0,1,0,0,1,1,0,0,1,0] Tryz.f96) G [(2,v2),(3,v3),(6,v6),(7, .pointer (some ⟨b7,0,none⟩)),(8,v8),(9,v9),(19,v19),(20,v20),(21,v21)] ((b7, .cells (zc d vn vl vs) [] 27):: (kn++H)) (onlyN fun G' fr' H'=>
   ∃vn' kn' br cr spr,G'=G∧row.length+spr.length=cr∧zO [] 24 1 vn' (i+1) (rv++[.slice (some ⟨br,0,none⟩) row.length cr]) kn'∧zy [2,3,6,7,8,19,20,21] fr'=[(2,v2),(3,v3),(6,v6),(7, .pointer (some ⟨b7,0,none⟩)),(8,v8),(19,v19),(20,v20),(21,v21)]∧H'=(b7, .cells (zc d vn' vl vs) [] 27):: (kn'++((br, .cells (row.map (Yd .i64)) spr 3)::H))):=by
 have U1: ∀x:Value,Fe 1 x=[x]:=fun _=>rfl;have Z0: ∀a b c:Value,(zc d a b c).length=260:=fun a b c=>zN hd _ _ _;have Z2: ∀a b c:Value,(zc d a b c)[257]? =some a:=fun a b c=>zcx hd _ _ _;have U5: ∀a b c x:Value,zf (zc d a b c) 257 [x]=zc d x b c:=fun a b c x=>zbi hd _ _ _ _;refine Tri.sepT fun M1=>?_;rcases S8 with ⟨aa,rfl,O7,hx,rfl⟩| ⟨bl,cc,sp,rfl,rfl,hx,V2⟩
 ·have hE:=M1;try simp only[zzs] at hE
  repeat(obtain⟨J0,hE⟩:=hE)
  refine Xg (f:=Tryz.f96) rfl ?_;refine Yg tok zdt Kk ?_
  repeat' first
   |with_reducible first|refine Zd ?_ |refine Ae (fun _=>?_) fun _=>?_ |refine Nb fun nb A0 C0 B0=>?_ |refine Nr fun nb D0 E0 A0 I0 C0 B0=>?_
   |simp -dsimp -implicitDefEqProofs (disch:=first|exact Kd|fail) only[go_sem,↓reduceIte,seval, -He,Z0,Z2,U5,U1]
   |with_reducible refine Wg tok mixed zdt 5 [1] (.op 0 .plain (.op 1 .held (.op 2 .plain (.op 3 .keeps (.op 4 .keeps (.op 5 .plain (.op 6 .plain (.op 7 .plain .nil)))))))) Kk [(b7, .cells (zc d (.slice aa 0 0) vl vs) [] 27)] Ks ?_
  refine zkj row I2 h9 fun v4 kb4 S1 hO4=>?_;rcases hO4 with ⟨_,_,h0,_,_⟩| ⟨br,cr,spr,rfl,rfl,hy,hyc⟩
  ·omega
  rw[Be,Gg] at hyc;have hE:=S1;try simp only[zzs] at hE
  repeat(obtain⟨J0,hE⟩:=hE)
  repeat' first
   |with_reducible first|refine Zd ?_ |refine Ae (fun _=>?_) fun _=>?_ |refine Nb fun nb A0 C0 B0=>?_ |refine Nr fun nb D0 E0 A0 I0 C0 B0=>?_
   |simp -dsimp -implicitDefEqProofs (disch:=first|exact Kd|fail) only[go_sem,↓reduceIte,seval, -He,Z0,Z2,U5,U1]
  refine Xf (H':=(b7, .cells (zc d (.slice (some ⟨nb,0,none⟩) 1 E0) vl vs) [] 27):: ([(nb, .cells [.slice (some ⟨br,0,none⟩) row.length cr] D0 24)]++((br, .cells (row.map (Yd .i64)) spr 3)::H))) Ks ?_;exact⟨_,_,br,cr,spr,rfl,by omega, .inr ⟨nb,E0,D0,by rw[O7],by rw[hx];rfl,by rw[hx,O7];rfl,by rw[hx];simp at I0⊢;omega⟩,rfl,rfl⟩
 ·rw[Gg] at hx V2;have hE:=M1;try simp only[zzs] at hE
  repeat(obtain⟨J0,hE⟩:=hE)
  refine Xg (f:=Tryz.f96) rfl ?_;refine Yg tok zdt Kk ?_
  repeat' first
   |with_reducible first|refine Zd ?_ |refine Ae (fun _=>?_) fun _=>?_ |refine Nb fun nb A0 C0 B0=>?_ |refine Nr fun nb D0 E0 A0 I0 C0 B0=>?_
   |simp -dsimp -implicitDefEqProofs (disch:=first|exact Kd|fail) only[go_sem,↓reduceIte,seval, -He,Z0,Z2,U5,U1]
   |with_reducible refine Wg tok mixed zdt 5 [1] (.op 0 .plain (.op 1 .held (.op 2 .plain (.op 3 .keeps (.op 4 .keeps (.op 5 .plain (.op 6 .plain (.op 7 .plain .nil)))))))) Kk [(b7, .cells (zc d (.slice (some ⟨bl,0,none⟩) i cc) vl vs) [] 27)] Ks ?_
  refine zkj row I2 h9 fun v4 kb4 S1 hO4=>?_;rcases hO4 with ⟨_,_,h0,_,_⟩| ⟨br,cr,spr,rfl,rfl,hy,hyc⟩
  ·omega
  rw[Be,Gg] at hyc;have hE:=S1;try simp only[zzs] at hE
  repeat(obtain⟨J0,hE⟩:=hE)
  repeat' first
   |with_reducible first|refine Zd ?_ |refine Ae (fun _=>?_) fun _=>?_ |refine Nb fun nb A0 C0 B0=>?_ |refine Nr fun nb D0 E0 A0 I0 C0 B0=>?_
   |simp -dsimp -implicitDefEqProofs (disch:=first|exact Kd|fail) only[go_sem,↓reduceIte,seval, -He,Z0,Z2,U5,U1]
  refine Xf (H':=(b7, .cells (zc d (.slice (some ⟨nb,0,none⟩) (i+1) E0) vl vs) [] 27):: ([(nb, .cells (rv++[.slice (some ⟨br,0,none⟩) row.length cr]) D0 24)]++((br, .cells (row.map (Yd .i64)) spr 3)::H))) Ks ?_;exact⟨_,_,br,cr,spr,rfl,by omega, .inr ⟨nb,E0,D0,rfl,rfl,by rw[Ve,hx];simp,by rw[Ve,hx];simp at I0⊢;omega⟩,rfl,rfl⟩
theorem zy4 {d:DfaT} (hd:d.of.length=256) {labs:List Int} {x:Int} {i:Nat} (hi:i≤70000) (hli:labs.length=i) {G:zb} {H:za} {v2 v3 v6 v19 v20 v21 vn vl vs:Value} {b7:Nat} {kl:za} (Q2:zO [] 3 1 vl i (labs.map (Yd .i64)) kl):
  Tri Tryz.prog Tryz.f96.ntmps (piece [1,1,0,1,0,0,1,1,0,0,1,1,1,1] Tryz.f96) G [(2,v2),(3,v3),(6,v6),(7, .pointer (some ⟨b7,0,none⟩)),(10, .int .i64 x),(19,v19),(20,v20),(21,v21)] ((b7, .cells (zc d vn vl vs) [] 27):: (kl++H)) (onlyN fun G' fr' H'=>
   ∃vl' kl',G'=G∧zO [] 3 1 vl' (i+1) ((labs++[x]).map (Yd .i64)) kl'∧zy [2,3,6,7,19,20,21] fr'=[(2,v2),(3,v3),(6,v6),(7, .pointer (some ⟨b7,0,none⟩)),(19,v19),(20,v20),(21,v21)]∧H'=(b7, .cells (zc d vn vl' vs) [] 27):: (kl'++H)):=by
 have U1: ∀x:Value,Fe 1 x=[x]:=fun _=>rfl;have Z0: ∀a b c:Value,(zc d a b c).length=260:=fun a b c=>zN hd _ _ _;have P2: ∀a b c:Value,(zc d a b c)[258]? =some b:=fun a b c=>zbz hd _ _ _;have K4: ∀a b c x:Value,zf (zc d a b c) 258 [x]=zc d a x c:=fun a b c x=>zaH hd _ _ _ _;refine Tri.sepT fun M1=>?_;rcases Q2 with ⟨aa,rfl,O7,hx,rfl⟩| ⟨bl,cc,sp,rfl,rfl,hx,V2⟩
 ·have hE:=M1;try simp only[zzs] at hE
  repeat(obtain⟨J0,hE⟩:=hE)
  refine Xg (f:=Tryz.f96) rfl ?_;refine Yg tok zdt Kk ?_
  repeat' first
   |with_reducible first|refine Zd ?_ |refine Ae (fun _=>?_) fun _=>?_ |refine Nb fun nb A0 C0 B0=>?_ |refine Nr fun nb D0 E0 A0 I0 C0 B0=>?_
   |simp -dsimp -implicitDefEqProofs (disch:=first|exact Kd|fail) only[go_sem,↓reduceIte,seval, -He,Z0,P2,K4,U1]
  refine Xf (H':=(b7, .cells (zc d vn (.slice (some ⟨nb,0,none⟩) 1 E0) vs) [] 27):: ([(nb, .cells [.int .i64 x] D0 3)]++H)) Ks ?_;exact⟨_,_,rfl, .inr ⟨nb,E0,D0,by rw[O7],by rw[Ke,hx];rfl,by rw[Ke,hx,O7];rfl,by rw[Ke,hx];simp at I0⊢;omega⟩,rfl,rfl⟩
 ·rw[Be,Gg] at hx V2;have hE:=M1;try simp only[zzs] at hE
  repeat(obtain⟨J0,hE⟩:=hE)
  refine Xg (f:=Tryz.f96) rfl ?_;refine Yg tok zdt Kk ?_
  repeat' first
   |with_reducible first|refine Zd ?_ |refine Ae (fun _=>?_) fun _=>?_ |refine Nb fun nb A0 C0 B0=>?_ |refine Nr fun nb D0 E0 A0 I0 C0 B0=>?_
   |simp -dsimp -implicitDefEqProofs (disch:=first|exact Kd|fail) only[go_sem,↓reduceIte,seval, -He,Z0,P2,K4,U1,Be,hli]
  refine Xf (H':=(b7, .cells (zc d vn (.slice (some ⟨nb,0,none⟩) (i+1) E0) vs) [] 27):: ([(nb, .cells (labs.map (Yd .i64)++[.int .i64 x]) D0 3)]++H)) Ks ?_;exact⟨_,_,rfl, .inr ⟨nb,E0,D0,rfl,by rw[Ke];rfl,by simp [hli],by simp at I0⊢;omega⟩,rfl,rfl⟩
theorem zy5 {d:DfaT} (P0:zr d) (K0:zg d) {names:List Tx} (C1:names.length≤2000000) {g:Tx→Int} {fid:FuncId} {bx:Nat} {XC:List Value} {tyX:TypeId} {G:zb} {H:za} {R:Value→zb→za→Prop} {v v1:Value} (hv:IsD G d v) (h1:Sl G str v1 names)
  (hBy: ∀ (s:Tx) (G1:zb) (H1:za) (R1:Value→zb→za→Prop),PLe G G1→s∈d.names→R1 (.int .i64 (g s)) G1 ((bx, .cells XC [] tyX)::H1)→FnT Tryz.prog fid [str s, .pointer (some ⟨bx,0,none⟩)] G1 ((bx, .cells XC [] tyX)::H1) R1)
  (hR: ∀G' vs bn cn spn rv bl cl spl F,PLe G G'→Sep G' (zm ((bn,Res.cells rv spn 24):: (bl, .cells ((zbx d g).map (Yd .i64)) spl 3):: (F++((bx, .cells XC [] tyX)::H))))→Sl G' str vs names→Fam 3 rv (zdu d.next) F→d.label.length+spn.length=cn→d.label.length+spl.length=cl→
   R (.agg (zc d (.slice (some ⟨bn,0,none⟩) d.label.length cn) (.slice (some ⟨bl,0,none⟩) d.label.length cl) vs).toArray) G' ((bn, .cells rv spn 24):: (bl, .cells ((zbx d g).map (Yd .i64)) spl 3):: (F++((bx, .cells XC [] tyX)::H)))):
  FnT Tryz.prog 96 [v,v1,(.func (.func fid) #[] #[.pointer (some ⟨bx,0,none⟩)])] G ((bx, .cells XC [] tyX)::H) R:=by
 obtain⟨C,an,al,ay,cn,cl,cs,rs,rfl,O⟩:=hv.opened;obtain⟨U3,M2,V3,A4,M4⟩:=id P0;obtain⟨Y2,K2,U2,N3,X3,Y3,Y1⟩:=id K0;have N0:=O.len;have T0:=O.all;have J1:=O.n;have X0:=O.l;have S2:=O.s
 have hww:d.width≤256:=by
  have h2:=zZ d.of;have h3:=O.ofl;omega
 have E5:1≤d.width:=by
  have h0:0<d.of.length:=by rw[O.ofl];omega
  have:=List.length_pos_of_mem ((zK d.of).2 (Me h0));omega
 have Z0: ∀a b c:Value,(zc d a b c).length=260:=fun a b c=>zN O.ofl _ _ _;have X7: ∀a b c:Value,Hf 260 (zc d a b c)=zc d a b c:=fun a b c=>zbQ O.ofl _ _ _
 have T4: ∀a b c:Value,zf zz 0 (zc d a b c)=zc d a b c:=fun a b c=>by
  unfold zf;rw[Se,Af,Gf (by rw[zj,Z0];omega),Bf]
 have F8:(zbx d g).length=d.label.length:=by unfold zbx;rw[Be]
 have hMl:(zdu d.next).length=d.next.length:=by unfold zdu;rw[Be]
 refine Zf ?_;refine FnT.bodyS tok zdt (.seq .run (.seq .cut .cut)) Tryz.func96 rfl Kk Kk Kn fun M0=>?_;rw[Tryz.results96];have hE:=M0;try simp only[zzs] at hE
 repeat(obtain⟨J0,hE⟩:=hE)
 repeat' first
  |with_reducible first|refine Zd ?_ |refine Ae (fun _=>?_) fun _=>?_ |refine Nb fun nb A0 C0 B0=>?_ |refine Nr fun nb D0 E0 A0 I0 C0 B0=>?_
  |simp -dsimp -implicitDefEqProofs (disch:=first|exact Kd|fail) only[go_sem,↓reduceIte,seval, -He,Ye,N0,T0]
 rename_i b3 hb30 hb31 hb32;obtain⟨b6,e0⟩: ∃x,x=nb:=⟨_,rfl⟩;subst e0;refine Ch [1,2,3,6] ?_;refine Tri.upd (Oe (H':=(b3, .cells C [] 27):: (b6, .cells (Fe 256 (Yd .u8 0)++[Yd .i64 0,Wf none 0 0,Wf none 0 0,Wf none 0 0]) [] 27):: (bx, .cells XC [] tyX)::H) Ks (Ce ?_));refine Ah [1,0] Tryz.f96 Kk ?_;refine Tri.onlyN (zAG P0 C1 O h1) fun G1 l1 H1 N2 V0 hM=>?_;obtain⟨b7,vs,_,J6,L4,rfl⟩:=hM;simp only[go_sem];refine Ch [2,3,6,7] ?_;rw[L4];have hE:=V0;try simp only[zzs] at hE
 repeat(obtain⟨J0,hE⟩:=hE)
 have O1:=OpenD.mono N2 O;obtain⟨ay1,cy1,rfl,hry1,hcy1⟩:=id J6;refine Yg tok zdt Kk ?_
 repeat' first
  |with_reducible first|refine Zd ?_ |refine Ae (fun _=>?_) fun _=>?_ |refine Nb fun nb A0 C0 B0=>?_ |refine Nr fun nb D0 E0 A0 I0 C0 B0=>?_
  |simp -dsimp -implicitDefEqProofs (disch:=first|exact Kd|fail) only[go_sem,↓reduceIte,seval, -He,Ye,N0,J1]
 refine Tri.loopS tok zdt (.seq .run (.seq .run (.seq (.block (.seq .run (.seq .cut .cut))) .cut))) Kk [2,3,6,7,19,20,21] (fun q G' fr H'=> ∃ (i:Nat) (vn vl:Value) (rv:List Value) (kn kl F:za),i+q=d.next.length∧G'=G1∧zO [] 24 1 vn i rv kn∧zO [] 3 1 vl i (((zbx d g).take i).map (Yd .i64)) kl∧Fam 3 rv ((zdu d.next).take i) F∧H'=(b7, .cells (zc d vn vl (.slice ay1 names.length cy1)) [] 27):: (b3, .cells C [] 27):: (b6, .cells zz [] 27):: (bx, .cells XC [] tyX):: (kn++(kl++(F++H)))∧fr=[(2,(.func (.func fid) #[] #[.pointer (some ⟨bx,0,none⟩)])),(3, .pointer (some ⟨b3,0,none⟩)),(6, .pointer (some ⟨b6,0,none⟩)),(7, .pointer (some ⟨b7,0,none⟩)),(19, .slice an d.next.length cn),(20, .int .i64 d.next.length),(21, .int .i64 (i:Nat))]) (d.next.length) ?_ ?_
 ·exact Ce ⟨0,_,_,[],[],[],[],by omega,rfl, .inl ⟨none,rfl,rfl,rfl,rfl⟩, .inl ⟨none,rfl,rfl,rfl,rfl⟩,Fam.nil 3,rfl,rfl⟩
 ·rintro q G2 fr H' Q0 R0 ⟨i,vn,vl,rv,kn,kl,F,Q5,rfl,S8,Q2,hF,rfl,rfl⟩;have hE:=R0;try simp only[zzs] at hE
  repeat(obtain⟨J0,hE⟩:=hE)
  by_cases Y0:i<d.next.length
  ·have hiv:i<rs.length:=by have:=O1.rnl;omega
   have hilb:i<d.label.length:=by omega
   obtain⟨b,c,e1,e2,e3⟩:=O1.rs i Y0 hiv;obtain⟨I3,Ib,Ra,Y7⟩:=Y1 i Y0 hilb;have hadn:Adr an:=O1.rn.adr Ko;have hadl:Adr al:=O1.rl.adr (by rw[Be];omega);have I2:=M2 _ (Me Y0)
   repeat' first
    |with_reducible first|refine Zd ?_ |refine Ae (fun _=>?_) fun _=>?_ |refine Nb fun nb A0 C0 B0=>?_ |refine Nr fun nb D0 E0 A0 I0 C0 B0=>?_
    |simp -dsimp -implicitDefEqProofs (disch:=first|exact Kd|fail) only[go_sem,↓reduceIte,seval, -He,Ye,Ie O1.rn,e1]
   refine Tri.upd (Oe (H':=(b7, .cells (zc d vn vl (.slice ay1 names.length cy1)) [] 27):: (kn++((b3, .cells C [] 27):: (b6, .cells zz [] 27):: (bx, .cells XC [] tyX):: (kl++(F++H))))) Ks (Ce ?_));refine Ch [2,3,6,7,8,9,19,20,21] ?_;refine Ah [1,1,0,1,0,0,1,1,0,0,1,0] Tryz.f96 Kk ?_;refine Tri.onlyN (zAH (row:=d.next[i]) O.ofl I2 Ko (i:=i) Ko ⟨b,c,rfl,e2,e3⟩ S8) fun G3 l3 H3 A1 K1 hM3=>?_;obtain⟨vn',kn',br,cr,spr,rfl,hcr,hkn',Kc,rfl⟩:=hM3;simp only[go_sem];refine Ch [2,3,6,7,8,19,20,21] ?_;rw[Kc];have Aa:=hF.snoc (b:=br) (c:=cr) (r:=d.next[i].map (Yd .i64)) (sp:=spr) (by rw[Be];exact hcr);rw[Be] at Aa
   have hMs:(zdu d.next).take (i+1)=(zdu d.next).take i++[d.next[i].map (Yd .i64)]:=by
    rw[Re Ko];simp only[zdu,Le]
   rw[←hMs] at Aa;obtain⟨F',hFd⟩: ∃F',F'=F++[(br,Res.cells (d.next[i].map (Yd .i64)) spr 3)]:=⟨_,rfl⟩;rw[←hFd] at Aa;refine Tri.upd (Oe (H':=(b7, .cells (zc d vn' vl (.slice ay1 names.length cy1)) [] 27):: (b3, .cells C [] 27):: (b6, .cells zz [] 27):: (bx, .cells XC [] tyX):: (kl++(kn'++(F'++H)))) (by rw[hFd];exact Ks) (Ce ?_));refine Tri.sepT fun S1=>?_;have hE:=S1;try simp only[zzs] at hE
   repeat(obtain⟨J0,hE⟩:=hE)
   have Va:(zbx d g).take (i+1)=(zbx d g).take i++[if 0<d.label[i] then g (zcU d d.label[i]) else 0]:=by
    rw[Re Ko];simp only[zbx,Le]
   refine Tri.runS tok zdt (.seq .run (.seq .run .cut)) Kk ?_;by_cases h0:0<d.label[i]
   ·rw[if_pos h0] at Va;obtain⟨n,hn⟩: ∃n:Nat,d.label[i]=(n:Int)+1:=⟨(d.label[i] - 1).toNat,by omega⟩;have Ed:n<d.names.length:=by omega
    rw[hn,zeR Ed] at Va;have hady:Adr ay:=O1.ry.adr (by rw[Be];omega);have L6:((n:Int)+1) - 1=(n:Nat):=by omega
    repeat' first
     |with_reducible first|refine Zd ?_ |refine Ae (fun _=>?_) fun _=>?_ |refine Nb fun nb A0 C0 B0=>?_ |refine Nr fun nb D0 E0 A0 I0 C0 B0=>?_
     |simp -dsimp -implicitDefEqProofs (disch:=first|exact Kd|fail) only[go_sem,↓reduceIte,seval, -He,Ye,N0,X0,S2,Ie O1.rl,Ie O1.ry,Le,hn,L6]
     |with_reducible refine Wg tok mixed zdt 8 [2,4,7,10] (.op 0 .plain (.op 1 .plain (.op 2 .held (.op 3 .plain (.op 4 .held (.op 5 .plain (.op 6 .plain (.op 7 .held (.op 8 .plain (.op 9 .plain (.op 10 .held (.op 11 .keeps (.op 12 .plain .nil))))))))))))) Kk [(b3, .cells C [] 27)] Ks ?_
    refine FnT.rd ((bx, .cells XC [] tyX):: (b7, .cells (zc d vn' vl (.slice ay1 names.length cy1)) [] 27):: (b3, .cells C [] 27):: (b6, .cells zz [] 27):: (kl++(kn'++(F'++H)))) (v:= .int .i64 (g d.names[n])) (fun R' hR'=>hBy d.names[n] _ _ R' N2 (Me _) hR') Ks Ks ?_
    repeat' first
     |with_reducible first|refine Zd ?_ |refine Ae (fun _=>?_) fun _=>?_ |refine Nb fun nb A0 C0 B0=>?_ |refine Nr fun nb D0 E0 A0 I0 C0 B0=>?_
     |simp -dsimp -implicitDefEqProofs (disch:=first|exact Kd|fail) only[go_sem,↓reduceIte,seval, -He,Ye,N0]
    refine Tri.upd (Oe (H':=(b7, .cells (zc d vn' vl (.slice ay1 names.length cy1)) [] 27):: (kl++((b3, .cells C [] 27):: (b6, .cells zz [] 27):: (bx, .cells XC [] tyX):: (kn'++(F'++H))))) Ks (Ce ?_));refine Ch [2,3,6,7,10,19,20,21] ?_;refine Ah [1,1,0,1,0,0,1,1,0,0,1,1,1,1] Tryz.f96 Kk ?_;refine Tri.onlyN (zy4 (labs:=(zbx d g).take i) (x:=g d.names[n]) O.ofl (i:=i) Ko (by rw[Ge];omega) Q2) fun G5 l5 H5 A2 P1 hM5=>?_;obtain⟨vl',kl',rfl,Ba,Ub,rfl⟩:=hM5;simp only[go_sem];refine Ch [2,3,6,7,19,20,21] ?_;rw[Ub];refine Yg tok zdt Kk ?_
    repeat' first
     |with_reducible first|refine Zd ?_ |refine Ae (fun _=>?_) fun _=>?_ |refine Nb fun nb A0 C0 B0=>?_ |refine Nr fun nb D0 E0 A0 I0 C0 B0=>?_
     |simp -dsimp -implicitDefEqProofs (disch:=first|exact Kd|fail) only[go_sem,↓reduceIte,seval, -He]
    rw[←Va] at Ba;refine Xf (H':=(b7, .cells (zc d vn' vl' (.slice ay1 names.length cy1)) [] 27):: (b3, .cells C [] 27):: (b6, .cells zz [] 27):: (bx, .cells XC [] tyX):: (kn'++(kl'++(F'++H)))) Ks ?_;exact⟨q - 1,by omega,i+1,vn',vl',_,kn',kl',F',by omega,rfl,hkn',Ba,Aa,rfl,rfl⟩
   ·rw[if_neg h0] at Va
    repeat' first
     |with_reducible first|refine Zd ?_ |refine Ae (fun _=>?_) fun _=>?_ |refine Nb fun nb A0 C0 B0=>?_ |refine Nr fun nb D0 E0 A0 I0 C0 B0=>?_
     |simp -dsimp -implicitDefEqProofs (disch:=first|exact Kd|fail) only[go_sem,↓reduceIte,seval, -He,Ye,N0,X0,Ie O1.rl,Le]
    refine Tri.upd (Oe (H':=(b7, .cells (zc d vn' vl (.slice ay1 names.length cy1)) [] 27):: (kl++((b3, .cells C [] 27):: (b6, .cells zz [] 27):: (bx, .cells XC [] tyX):: (kn'++(F'++H))))) Ks (Ce ?_));refine Ch [2,3,6,7,10,19,20,21] ?_;refine Ah [1,1,0,1,0,0,1,1,0,0,1,1,1,1] Tryz.f96 Kk ?_;refine Tri.onlyN (zy4 (labs:=(zbx d g).take i) (x:=0) O.ofl (i:=i) Ko (by rw[Ge];omega) Q2) fun G5 l5 H5 A2 P1 hM5=>?_;obtain⟨vl',kl',rfl,Ba,Ub,rfl⟩:=hM5;simp only[go_sem];refine Ch [2,3,6,7,19,20,21] ?_;rw[Ub];refine Yg tok zdt Kk ?_
    repeat' first
     |with_reducible first|refine Zd ?_ |refine Ae (fun _=>?_) fun _=>?_ |refine Nb fun nb A0 C0 B0=>?_ |refine Nr fun nb D0 E0 A0 I0 C0 B0=>?_
     |simp -dsimp -implicitDefEqProofs (disch:=first|exact Kd|fail) only[go_sem,↓reduceIte,seval, -He]
    rw[←Va] at Ba;refine Xf (H':=(b7, .cells (zc d vn' vl' (.slice ay1 names.length cy1)) [] 27):: (b3, .cells C [] 27):: (b6, .cells zz [] 27):: (bx, .cells XC [] tyX):: (kn'++(kl'++(F'++H)))) Ks ?_;exact⟨q - 1,by omega,i+1,vn',vl',_,kn',kl',F',by omega,rfl,hkn',Ba,Aa,rfl,rfl⟩
  ·obtain rfl:i=d.next.length:=by omega
   rcases S8 with ⟨_,_,h0,_,_⟩| ⟨bn,cn2,spn,rfl,rfl,hx,hxc⟩
   ·omega
   rcases Q2 with ⟨_,_,h0,_,_⟩| ⟨bl,cl2,spl,rfl,rfl,hy,hyc⟩
   ·omega
   rw[Pe Ko] at hF;rw[Pe Ko] at R0 hy hyc⊢;rw[Be,Gg] at hyc;rw[Gg] at hx hxc;have hE:=R0;try simp only[zzs] at hE
   repeat(obtain⟨J0,hE⟩:=hE)
   have S3:=zaC (d:=d) (vn:= .slice (some ⟨bn,0,none⟩) d.next.length cn2) (vl:= .slice (some ⟨bl,0,none⟩) d.next.length cl2) (vs:= .slice ay1 names.length cy1) rfl rfl rfl
   repeat' first
    |with_reducible first|refine Zd ?_ |refine Ae (fun _=>?_) fun _=>?_ |refine Nb fun nb A0 C0 B0=>?_ |refine Nr fun nb D0 E0 A0 I0 C0 B0=>?_
    |simp -dsimp -implicitDefEqProofs (disch:=first|exact Kd|fail) only[go_sem,↓reduceIte,seval, -He,Ye,Z0,X7,T4,S3,zj]
   unfold zo;refine Xf (H':=(bn, .cells rv spn 24):: (bl, .cells ((zbx d g).map (Yd .i64)) spl 3):: (F++((bx, .cells XC [] tyX)::H))) Ks ?_;rw[U2];exact fun _ hs=>hR _ _ bn cn2 spn rv bl cl2 spl F N2 hs J6 hF Ko Ko
def zgQ (d:DfaT) (names:List Tx) (g:Tx→Int):DfaT:=⟨d.of,d.width,d.next,zbx d g,names⟩
theorem zb9 (d:DfaT) (g:Tx→Int):(zbx d g).length=d.label.length:=by unfold zbx;rw[Be]
theorem zpX {d:DfaT} (P0:zr d) {names:List Tx} (h1:names.length≤2000000) (h2: ∀s∈names,s.length≤2000000) (g:Tx→Int):zr (zgQ d names g):=
 ⟨P0.1,P0.2.1,by show(zbx d g).length≤_;rw[zb9];exact P0.2.2.1,h1,h2⟩
theorem zwp {rows:List (List Int)} {G:zb} {bn cn n:Nat} {rv:List Value} (hn:rows.length=n) (hr:Row G (some ⟨bn,0,none⟩) rv) (T3:rv.length=n) (hc:n≤cn) (h: ∀i (hi:i< (zdu rows).length) (h1:i<rv.length),∃a c,rv[i]= .slice a (zdu rows)[i].length c∧Row G a (zdu rows)[i]∧(zdu rows)[i].length≤c):SlS G (.slice (some ⟨bn,0,none⟩) n cn) rows:=by
 refine⟨_,cn,rv,by rw[hn],hr,by omega,by omega,fun i hi h2=>?_⟩;have X4:(zdu rows).length=rows.length:=by unfold zdu;rw[Be]
 obtain⟨a,c,e1,e2,e3⟩:=h i Ko h2;have hg:(zdu rows)[i]'Ko=rows[i].map (Yd .i64):=by simp only[zdu,Le]
 rw[hg] at e1 e2 e3;rw[Be] at e1 e3;exact⟨a,c,e1,e2,e3⟩
theorem zx4 {d:DfaT} (P0:zr d) (K0:zg d) {names:List Tx} (C1:names.length≤2000000) {g:Tx→Int} {fid:FuncId} {bx:Nat} {XC:List Value} {tyX:TypeId} {G:zb} {H:za} {R:Value→zb→za→Prop} {v v1:Value} (hv:IsD G d v) (h1:Sl G str v1 names)
  (hBy: ∀ (s:Tx) (G1:zb) (H1:za) (R1:Value→zb→za→Prop),PLe G G1→s∈d.names→R1 (.int .i64 (g s)) G1 ((bx, .cells XC [] tyX)::H1)→FnT Tryz.prog fid [str s, .pointer (some ⟨bx,0,none⟩)] G1 ((bx, .cells XC [] tyX)::H1) R1)
  (hR: ∀G' v',PLe G G'→Sep G' (zm ((bx,Res.cells XC [] tyX)::H))→IsD G' (zgQ d names g) v'→R v' G' ((bx, .cells XC [] tyX)::H)):
  FnT Tryz.prog 96 [v,v1, .func (.func fid) #[] #[.pointer (some ⟨bx,0,none⟩)]] G ((bx, .cells XC [] tyX)::H) R:=by
 obtain⟨A6,hofb,_⟩:=id hv;refine Th (zy5 P0 K0 C1 hv h1 hBy fun G1 vs bn cn spn rv bl cl spl F S0 hs J6 hF hcn V2=>?_);have U2:=K0.2.2.1;have X4:(zdu d.next).length=d.next.length:=by unfold zdu;rw[Be]
 have T3:=hF.lenv;refine Upd.trans (Jf hs.1.1 fun G2 Q0 R0 V1=>?_);refine Upd.trans (Jf R0.1.1 fun G3 A1 K1 D2=>?_);refine hF.share K1 fun G4 Z1 S1 R4=>?_;refine hR G4 _ (S0.trans (Q0.trans (A1.trans Z1))) S1 ⟨A6,hofb,_,_,_,rfl,?_,?_,J6.mono (Q0.trans (A1.trans Z1))⟩
 ·exact zwp (rows:=d.next) Ko (V1.mono (A1.trans Z1)) Ko Ko R4
 ·exact⟨_,cl,by show Wf _ _ _=Wf _ (zbx d g).length _;rw[zb9],D2.mono Z1,by show(zbx d g).length≤_;rw[zb9];omega⟩
theorem zl3 {G:zb} {d:DfaT} {C:List Value} (h:IsD G d (.agg C.toArray)):C.all zax=true:=by
 obtain⟨_,_,vn,vl,vs,e,⟨an,cn,rs,rfl,_⟩,⟨al,cl,rfl,_⟩,⟨ay,cy,rfl,_⟩⟩:=h;have e2:=congrArg (fun v=>match v with|Value.agg a=>a.toList|_=>[]) e;simp only[Ye] at e2;rw[e2];exact zaC rfl rfl rfl
theorem zwq {C D:List Value} (h:C.length=260) (h2:D.length=260):zf C 0 D=D:=by
 unfold zf;rw[Se,Af,Gf Ko,Bf]
theorem zl4 {C:List Value} (h:C.length=260):zf zz 0 C=C:=zwq zj h
def zcX (l:List Tx):DfaT:=⟨Fe 256 0,1,[[0]],[0],l⟩
theorem zoO {l:List Tx}:zg (zcX l)↔zaR l:=by
 constructor
 ·exact fun h=>h.2.2.2.2.2.1
 ·intro h;refine⟨Qe 1,(by show 1≤65536;omega),rfl,(by show zd (Fe 256 (0 :Int))=Fe 256 0;decide+kernel),by show((zl (Fe 256 (0 :Int))).length:Int)=1;decide+kernel,h,fun s h1 h2=>?_⟩;have h3:s<1:=h1;obtain rfl:s=0:=by omega
  refine⟨rfl,Int.le_refl _,by show(0 :Int)≤(l.length:Nat);omega,fun t ht=>?_⟩;have:t∈[(0 :Int)]:=ht;rw[Vg] at this;subst this;exact⟨Int.le_refl _,(by show(0 :Int) <1;omega)⟩
theorem zsi {l:List Tx} (h1:l.length≤2000000) (h2: ∀s∈l,s.length≤2000000):zr (zcX l):=by
 refine⟨by show 1≤_;omega,fun r hr=>?_,by show 1≤_;omega,h1,h2⟩;have:r∈[[(0 :Int)]]:=hr;rw[Vg] at this;subst this;show 1≤_;omega
theorem zy6:zf zz 256 [Yd .i64 1]=zc (zcX []) (.slice none 0 0) (.slice none 0 0) (.slice none 0 0):=by
 have h0:zz=u8L (zcX []).of++[Yd .i64 0,Wf none 0 0,Wf none 0 0,Wf none 0 0]:=by
  unfold zcX u8L;rw[Ff]
 rw[h0];exact zc2 (d:=zcX []) We
theorem zoP:V.Callee Tryz.prog 15:=⟨_,_,Tryz.func15,rfl,by kernel_rfl⟩
theorem zui {l:List Tx} (hl:l.length≤2000000) (P8: ∀s∈l,s.length≤2000000) {G:zb} {H:za} {R:Value→zb→za→Prop} {v:Value} (hv:Sl G str v l)
  (hR: ∀G',PLe G G'→Sep G' (zm H)→R (.bool (zaz (zaR l))) G' H):FnT Tryz.prog 95 [v] G H R:=by
 have hd:(zcX []).of.length=256:=We;have U1: ∀x:Value,Fe 1 x=[x]:=fun _=>rfl;have Z0: ∀a b c:Value,(zc (zcX []) a b c).length=260:=fun a b c=>zN hd _ _ _;have X7: ∀a b c:Value,Hf 260 (zc (zcX []) a b c)=zc (zcX []) a b c:=fun a b c=>zbQ hd _ _ _;have U5: ∀a b c x:Value,zf (zc (zcX []) a b c) 257 [x]=zc (zcX []) x b c:=fun a b c x=>zbi hd _ _ _ _;have K4: ∀a b c x:Value,zf (zc (zcX []) a b c) 258 [x]=zc (zcX []) a x c:=fun a b c x=>zaH hd _ _ _ _;have Hd: ∀a b c x:Value,zf (zc (zcX []) a b c) 259 [x]=zc (zcX []) a b x:=fun a b c x=>zcG hd _ _ _ _;obtain⟨ay,cy,rfl,K8,hcy⟩:=hv;refine Zf ?_;refine Ee tok [0,2] Tryz.func95 rfl Kk Kk Kn fun M0=>?_;rw[Tryz.results95];have hE:=M0;try simp only[zzs] at hE
 repeat(obtain⟨J0,hE⟩:=hE)
 repeat' first
  |with_reducible first|refine Zd ?_ |refine Ae (fun _=>?_) fun _=>?_ |refine Nb fun nb A0 C0 B0=>?_ |refine Nr fun nb D0 E0 A0 I0 C0 B0=>?_
  |simp -dsimp -implicitDefEqProofs (disch:=first|exact Kd|fail) only[go_sem,↓reduceIte,seval, -He,Ye,U1,zj,zy6,Z0,X7,U5,K4,Hd]
 rename_i c1 y11 y12 y13 c2 y21 y22 y23;obtain⟨c3,e0⟩: ∃x,x=nb:=⟨_,rfl⟩;subst e0;refine FnT.pre zoP (Oe (H':=(c3, .cells [.int .i64 0] [] 3):: (c2, .cells [.slice (some ⟨c1,0,none⟩) 1 1] [] 24):: (c1, .cells [.int .i64 0] [] 3)::H) Ks ?_);refine Upd.trans (Jf Ka fun G1 N2 V0 r3=>?_);refine Upd.trans (Jf V0.1.1 fun G2 Q0 R0 r2=>?_);refine Jf R0.1.1 fun G3 A1 K1 r1=>?_;have k2:=A1;have k1:=Q0.trans k2;have k0:=N2.trans k1
 have hI:IsD G3 (zcX l) (.agg (zc (zcX []) (.slice (some ⟨c2,0,none⟩) 1 1) (.slice (some ⟨c3,0,none⟩) 1 1) (.slice ay l.length cy)).toArray):=by
  refine⟨hd,fun x hx=>?_,_,_,_,rfl,⟨some ⟨c2,0,none⟩,1,_,rfl,r2.mono k2,rfl,Qe 1,fun i h h2=>?_⟩,⟨some ⟨c3,0,none⟩,1,rfl,r3.mono k1,Qe 1⟩,⟨ay,cy,rfl,K8.mono k0,hcy⟩⟩
  ·have:x=0:=List.eq_of_mem_replicate hx;omega
  ·have h3:i<1:=h
   match i,h3 with
   |0,_=>exact⟨_,_,rfl,r1,Qe 1⟩
 have hb:zaz (zg (zcX l))=zaz (zaR l):=by
  by_cases h:zaR l
  ·rw[zA h,zA (zoO.2 h)]
  ·rw[zu h,zu fun h2=>h (zoO.1 h2)]
 refine zaJ (zsi hl P8) hI ?_;rw[hb]
 repeat' first
  |with_reducible first|refine Zd ?_ |refine Ae (fun _=>?_) fun _=>?_ |refine Nb fun nb A0 C0 B0=>?_ |refine Nr fun nb D0 E0 A0 I0 C0 B0=>?_
  |simp -dsimp -implicitDefEqProofs (disch:=first|exact Kd|fail) only[go_sem,↓reduceIte,seval, -He]
 unfold zo;exact Ce fun _ hs=>hR G3 k0 hs
def zgR (d:DfaT) (l:List Tx):DfaT:=zgQ d l fun s=>zw l s+1
noncomputable def zbs (d:DfaT) (l:List Tx):DfaT×Int:=
 haveI:=Mf
 if zg d then if zaR l then if ∀s∈zbJ d,s∈l then(zgR d l,0) else(zah,5) else(zah,1) else(zah,6)
theorem zia {d:DfaT} {l:List Tx} (h: ¬zg d):zbs d l=(zah,6):=by unfold zbs;rw[if_neg h]
theorem zlg {d:DfaT} {l:List Tx} (h:zg d) (h2: ¬zaR l):zbs d l=(zah,1):=by unfold zbs;rw[if_pos h,if_neg h2]
theorem zjR {d:DfaT} {l:List Tx} (h:zg d) (h2:zaR l) (h3: ¬ ∀s∈zbJ d,s∈l):zbs d l=(zah,5):=by unfold zbs;rw[if_pos h,if_pos h2,if_neg h3]
theorem ziZ {d:DfaT} {l:List Tx} (h:zg d) (h2:zaR l) (h3: ∀s∈zbJ d,s∈l):zbs d l=(zgR d l,0):=by unfold zbs;rw[if_pos h,if_pos h2,if_pos h3]
theorem zwr {l:List Tx} (hl:l.length≤2000000) {bx:Nat} {s:Tx} {G:zb} {H:za} {R:Value→zb→za→Prop} {v:Value} (hv:Sl G str v l) (hR:R (.int .i64 (zw l s+1)) G ((bx, .cells [v] [] 25)::H)):
  FnT Tryz.prog 97 [str s, .pointer (some ⟨bx,0,none⟩)] G ((bx, .cells [v] [] 25)::H) R:=by
 refine Th ?_
 have hb: -1≤zw l s∧zw l s≤2000000:=by
  cases hp:place l s with
  |none=>rw[zbp hp];omega
  |some n=>
   have:=(zaa hp).1;rw[zB hp];omega
 refine Ee tok [0,1,3] Tryz.func97 rfl Kk Kk Kn fun M0=>?_;rw[Tryz.results97];have hE:=M0;try simp only[zzs] at hE
 repeat(obtain⟨J0,hE⟩:=hE)
 repeat' first
  |with_reducible first|refine Zd ?_ |refine Ae (fun _=>?_) fun _=>?_ |refine Nb fun nb A0 C0 B0=>?_
  |simp -dsimp -implicitDefEqProofs (disch:=first|exact Kd|fail) only[go_sem,↓reduceIte,seval]
  |with_reducible refine zqg l s hl hv ?_
 all_goals refine De ?_ (Ce hR) ?_
 any_goals first|exact Ks|skip
 all_goals rfl
theorem zws {d:DfaT} (P0:zr d) {l:List Tx} (hl:l.length≤2000000) (P8: ∀s∈l,s.length≤2000000) {G:zb} {H:za} {R:Value→zb→za→Prop} {v w:Value} (hv:IsD G d v) (hw:Sl G str w l)
  (hR: ∀G' v',PLe G G'→Sep G' (zm H)→IsD G' (zbs d l).1 v'→R (.tuple #[v', .int .i64 (zbs d l).2]) G' H):FnT Tryz.prog 64 [v,w] G H R:=by
 obtain⟨C,an,al,ay,cn,cl,cs,rs,rfl,O⟩:=hv.opened;have N0:=O.len;have T0:=O.all;have I3:=hw;obtain⟨aw,cw,rfl,hrw,R9⟩:=hw;refine Zf ?_;by_cases K0:zg d
 ·have hb:=zA K0;by_cases hf:zaR l
  ·have F4:=zA hf;refine Ee tok zsf Tryz.func64 rfl Kk Kk Kn fun M0=>?_;rw[Tryz.results64];have hE:=M0;try simp only[zzs] at hE
   repeat(obtain⟨J0,hE⟩:=hE)
   repeat' first
    |with_reducible first|refine Zd ?_ |refine Ae (fun _=>?_) fun _=>?_ |refine Nb fun nb A0 C0 B0=>?_ |refine Nr fun nb D0 E0 A0 I0 C0 B0=>?_
    |simp -dsimp -implicitDefEqProofs (disch:=first|exact Kd|fail) only[go_sem,↓reduceIte,seval, -He,Ye,N0,T0,zj,zG,zI,zM,hb,F4]
    |with_reducible refine zaJ P0 O.is ?_
    | ((with_reducible refine zui hl P8 I3 fun G2 Q0 R0=>?_);(have hE:=R0;try simp only[zzs] at hE;repeat(obtain⟨J0,hE⟩:=hE)))
   rename_i b2 h20 h21 h22 b3 h30 h31 h32 q1 q2 q3 q4 q5 q6 q7 q8;obtain⟨b4,e0⟩: ∃x,x=nb:=⟨_,rfl⟩;subst e0;refine zuh P0 (O.is.mono Q0) fun G3 v3 A1 K1 T6=>?_;rw[zgi K0] at T6;obtain⟨u,hu⟩: ∃u,u=zbJ d:=⟨_,rfl⟩
   have T9:u.length≤64:=by
    have:=ziY d;have:=hf;have:=K0.2.2.2.2.2.1.1;rw[hu];omega
   have hcase:(∀s∈u,s∈l)→zbs d l=(zgR d l,0):=fun h=>ziZ K0 hf (by rw[←hu];exact h);have hcase2:(¬ ∀s∈u,s∈l)→zbs d l=(zah,5):=fun h=>zjR K0 hf (by rw[←hu];exact h);rw[←hu] at T6;clear hu;obtain⟨au,cu,rfl,hru,hcu⟩:=T6;have k3:=Q0.trans A1;have C8:=I3.mono k3;have hE:=K1;try simp only[zzs] at hE
   repeat(obtain⟨J0,hE⟩:=hE)
   repeat' first
    |with_reducible first|refine Zd ?_ |refine Ae (fun _=>?_) fun _=>?_ |refine Nb fun nb A0 C0 B0=>?_ |refine Nr fun nb D0 E0 A0 I0 C0 B0=>?_
    |simp -dsimp -implicitDefEqProofs (disch:=first|exact Kd|fail) only[go_sem,↓reduceIte,seval, -He,Ye,N0,T0]
   refine Je tok zsf Kk [2,3,4,5,19,20,21] (fun q G' fr H'=> ∃i:Nat,i+q=u.length∧(∀j (h:j<u.length),j<i→u[j]∈l)∧G'=G3∧H'=(b4, .cells zz [] 27):: (b3, .cells [.slice aw l.length cw] [] 25):: (b2, .cells C [] 27)::H∧fr=[(2, .pointer (some ⟨b2,0,none⟩)),(3, .pointer (some ⟨b3,0,none⟩)),(4, .pointer (some ⟨b4,0,none⟩)),(5, .int .i64 0),(19, .slice au u.length cu),(20, .int .i64 u.length),(21, .int .i64 (i:Nat))]) (u.length) ?_ ?_
   ·exact Ce ⟨0,by omega,fun j _ h=>by omega,rfl,rfl,rfl⟩
   ·rintro q G4 fr H' Z1 S1 ⟨i,Q5,R4,rfl,rfl,rfl⟩;have hE:=S1;try simp only[zzs] at hE
    repeat(obtain⟨J0,hE⟩:=hE)
    by_cases Y0:i<u.length
    ·have B3:Adr au:=hru.adr (by rw[Be];omega);by_cases hm:u[i]∈l
     ·have hdm:=decide_eq_true hm
      repeat' first
       |with_reducible first|refine Zd ?_ |refine Ae (fun _=>?_) fun _=>?_ |refine Nb fun nb A0 C0 B0=>?_ |refine Nr fun nb D0 E0 A0 I0 C0 B0=>?_
       |simp -dsimp -implicitDefEqProofs (disch:=first|exact Kd|fail) only[go_sem,↓reduceIte,seval, -He,Ie hru,Le,hdm]
       |with_reducible refine zhL l _ hl C8 ?_
      exact Ce ⟨q - 1,by omega,i+1,by omega,fun j h hj=>by
       by_cases e:j=i
       ·subst e;exact hm
       ·exact R4 j h Ko,rfl,rfl,rfl⟩
     ·have hdm:=decide_eq_false hm;rw[hcase2 fun h=>hm (h _ (Me Y0))] at hR
      repeat' first
       |with_reducible first|refine Zd ?_ |refine Ae (fun _=>?_) fun _=>?_ |refine Nb fun nb A0 C0 B0=>?_ |refine Nr fun nb D0 E0 A0 I0 C0 B0=>?_
       |simp -dsimp -implicitDefEqProofs (disch:=first|exact Kd|fail) only[go_sem,↓reduceIte,seval, -He,Ie hru,Le,hdm,zj,zG,zI,zM]
       |with_reducible refine zhL l _ hl C8 ?_
      unfold zo;refine Xf (H':=H) Ks ?_;exact fun _ hs=>hR G4 _ k3 hs (zak _)
    ·obtain rfl:i=u.length:=by omega
     rw[hcase fun s hs=>by
      obtain⟨j,hj,rfl⟩:=Ue hs;exact R4 j hj hj] at hR
     repeat' first
      |with_reducible first|refine Zd ?_ |refine Ae (fun _=>?_) fun _=>?_ |refine Nb fun nb A0 C0 B0=>?_ |refine Nr fun nb D0 E0 A0 I0 C0 B0=>?_
      |simp -dsimp -implicitDefEqProofs (disch:=first|exact Kd|fail) only[go_sem,↓reduceIte,seval, -He,Ye,N0,T0]
     refine Uh (H':=(b3, .cells [.slice aw l.length cw] [] 25):: (b4, .cells zz [] 27):: (b2, .cells C [] 27)::H) ?_ Ks;refine zx4 P0 K0 hl (O.is.mono k3) C8 (g:=fun s=>zw l s+1) (fun s G1 H1 R1 S0 hs hR1=>zwr hl (C8.mono S0) hR1) fun G5 v5 A2 P1 hI5=>?_;obtain⟨C5,an5,al5,ay5,cn5,cl5,cs5,rs5,rfl,O5⟩:=hI5.opened;have Db:=O5.len;have Qc:=zl3 O5.is;have Rc:=zl4 Db;have Sc:Hf 260 C5=C5:=Pe Ko;have hE:=P1;try simp only[zzs] at hE
     repeat(obtain⟨J0,hE⟩:=hE)
     repeat' first
      |with_reducible first|refine Zd ?_ |refine Ae (fun _=>?_) fun _=>?_ |refine Nb fun nb A0 C0 B0=>?_ |refine Nr fun nb D0 E0 A0 I0 C0 B0=>?_
      |simp -dsimp -implicitDefEqProofs (disch:=first|exact Kd|fail) only[go_sem,↓reduceIte,seval, -He,Ye,Db,Qc,Rc,Sc,zj]
     unfold zo;refine Xf (H':=H) Ks ?_;exact fun _ hs=>hR G5 _ (k3.trans A2) hs O5.is
  ·have F4:=zu hf;rw[zlg K0 hf] at hR;refine Ee tok zsf Tryz.func64 rfl Kk Kk Kn fun M0=>?_;rw[Tryz.results64];have hE:=M0;try simp only[zzs] at hE
   repeat(obtain⟨J0,hE⟩:=hE)
   repeat' first
    |with_reducible first|refine Zd ?_ |refine Ae (fun _=>?_) fun _=>?_ |refine Nb fun nb A0 C0 B0=>?_ |refine Nr fun nb D0 E0 A0 I0 C0 B0=>?_
    |simp -dsimp -implicitDefEqProofs (disch:=first|exact Kd|fail) only[go_sem,↓reduceIte,seval, -He,Ye,N0,T0,zj,zG,zI,zM,hb,F4]
    |with_reducible refine zaJ P0 O.is ?_
    | ((with_reducible refine zui hl P8 I3 fun G2 Q0 R0=>?_);(have hE:=R0;try simp only[zzs] at hE;repeat(obtain⟨J0,hE⟩:=hE)))
   unfold zo;refine Xf (H':=H) Ks ?_;exact fun _ hs=>hR G2 _ Q0 hs (zak _)
 ·have hb:=zu K0;rw[zia K0] at hR;refine Ee tok zsf Tryz.func64 rfl Kk Kk Kn fun M0=>?_;rw[Tryz.results64];have hE:=M0;try simp only[zzs] at hE
  repeat(obtain⟨J0,hE⟩:=hE)
  repeat' first
   |with_reducible first|refine Zd ?_ |refine Ae (fun _=>?_) fun _=>?_ |refine Nb fun nb A0 C0 B0=>?_ |refine Nr fun nb D0 E0 A0 I0 C0 B0=>?_
   |simp -dsimp -implicitDefEqProofs (disch:=first|exact Kd|fail) only[go_sem,↓reduceIte,seval, -He,Ye,N0,T0,zj,zG,zI,zM,hb]
   |with_reducible refine zaJ P0 O.is ?_
  unfold zo;refine Xf (H':=H) Ks ?_;exact fun _ hs=>hR G _ (PLe.refl _) hs (zak _)
theorem ze5 {d:DfaT} (P0:zr d):(zdG d).length≤2000000∧ ∀s∈zdG d,s.length≤2000000:=by
 have:=zug d;obtain⟨U3,M2,V3,A4,M4⟩:=P0;exact⟨by omega,fun s hs=>M4 s (zmO hs)⟩
noncomputable def zc8 (d:DfaT):DfaT×Int:=zbs d (zdG d)
theorem zx5 {d:DfaT} (P0:zr d) {G:zb} {H:za} {R:Value→zb→za→Prop} {v:Value} (hv:IsD G d v)
  (hR: ∀G' v',PLe G G'→Sep G' (zm H)→IsD G' (zc8 d).1 v'→R (.tuple #[v', .int .i64 (zc8 d).2]) G' H):FnT Tryz.prog 41 [v] G H R:=by
 obtain⟨C,an,al,ay,cn,cl,cs,rs,rfl,O⟩:=hv.opened;have N0:=O.len;have T0:=O.all;obtain⟨hu1,hu2⟩:=ze5 P0;refine Zf ?_;refine Ee tok kp5 Tryz.func41 rfl Kk Kk Kn fun M0=>?_;rw[Tryz.results41];have hE:=M0;try simp only[zzs] at hE
 repeat(obtain⟨J0,hE⟩:=hE)
 repeat' first
  |with_reducible first|refine Zd ?_ |refine Ae (fun _=>?_) fun _=>?_ |refine Nb fun nb A0 C0 B0=>?_
  |simp -dsimp -implicitDefEqProofs (disch:=first|exact Kd|fail) only[go_sem,↓reduceIte,seval, -He,Ye,N0,T0]
  |with_reducible refine Vf tok mixed kp5 1 [0,1] (.op 0 .held (.op 1 .held (.op 2 .keeps (.op 3 .keeps (.op 4 .plain (.op 5 .plain (.op 6 .plain (.op 7 .plain .nil)))))))) Kk [1] ?_
 rename_i b1 h10 h11 h12;obtain⟨b2,e0⟩: ∃x,x=nb:=⟨_,rfl⟩;subst e0;refine zuh P0 O.is fun G3 v3 A1 K1 T6=>?_;have hE:=K1;try simp only[zzs] at hE
 repeat(obtain⟨J0,hE⟩:=hE)
 repeat' first
  |with_reducible first|refine Zd ?_ |refine Ae (fun _=>?_) fun _=>?_ |refine Nb fun nb A0 C0 B0=>?_
  |simp -dsimp -implicitDefEqProofs (disch:=first|exact Kd|fail) only[go_sem,↓reduceIte,seval, -He,Ye,N0,T0]
 refine zws P0 hu1 hu2 (O.is.mono A1) T6 fun G5 v5 A2 P1 hI5=>?_;obtain⟨C5,an5,al5,ay5,cn5,cl5,cs5,rs5,rfl,O5⟩:=hI5.opened;have Db:=O5.len;have Qc:=zl3 O5.is;have Rc:=zl4 Db;have Sc:Hf 260 C5=C5:=Pe Ko;have hE:=P1;try simp only[zzs] at hE
 repeat(obtain⟨J0,hE⟩:=hE)
 repeat' first
  |with_reducible first|refine Zd ?_ |refine Ae (fun _=>?_) fun _=>?_ |refine Nb fun nb A0 C0 B0=>?_
  |simp -dsimp -implicitDefEqProofs (disch:=first|exact Kd|fail) only[go_sem,↓reduceIte,seval, -He,Ye,Db,Qc,Rc,Sc,zj]
 unfold zo;refine Xf (H':=H) Ks ?_;exact fun _ hs=>hR G5 _ (A1.trans A2) hs O5.is
def zAi (name:Tx) (s:Tx):Int:=if s=name then 1 else 0
def zy7 (d:DfaT) (name:Tx):DfaT:=zgQ d [name] (zAi name)
noncomputable def onlyR (d:DfaT) (name:Tx):DfaT×Int:=
 if zaz (zg d)=true then if zcD name=true then(zy7 d name,0) else(zah,1) else(zah,6)
theorem zmQ {l:List Tx} (hl:l.length≤2000000) (P8: ∀s∈l,s.length≤2000000) {G:zb} {H:za} {R:Value→zb→za→Prop} {v:Value} (hv:Sl G str v l)
  (hR:R (.bool (zaz (zaR l))) G H):FnT Tryz.prog 108 [v] G H R:=by
 obtain⟨a,c,rfl,hr,hc⟩:=hv;refine Ee tok zsg Tryz.func108 rfl Kk Kk Kn fun M0=>?_;rw[Tryz.results108];have hE:=M0;try simp only[zzs] at hE
 repeat(obtain⟨J0,hE⟩:=hE)
 repeat' first
  |with_reducible first|refine Zd ?_ |refine Ae (fun _=>?_) fun _=>?_ |refine Nb fun nb A0 C0 B0=>?_
  |simp -dsimp -implicitDefEqProofs (disch:=first|exact Kd|fail) only[go_sem,↓reduceIte,seval]
 refine Je tok zsg Kk [0,2,3] (fun q G' fr H'=> ∃i:Nat,i+q=l.length∧(∀j (h:j<l.length),j<i→zcD l[j]=true∧l[j]∉l.take j)∧G'=G∧H'=H∧fr=[(0, .slice a l.length c),(2, .bool false),(3, .int .i64 (i:Nat))]) (l.length) ?_ ?_
 ·exact Ce ⟨0,by omega,fun j _ h=>by omega,rfl,rfl,rfl⟩
 ·rintro q G1 fr H1 S0 hs ⟨i,Q5,R4,rfl,rfl,rfl⟩;by_cases Y0:i<l.length
  ·have B3:Adr a:=hr.adr (by rw[Be];omega);cases hn:zcD l[i] with
   |true=>
    repeat' first
     |with_reducible first|refine Zd ?_ |refine Ae (fun _=>?_) fun _=>?_ |refine Nb fun nb A0 C0 B0=>?_
     |simp -dsimp -implicitDefEqProofs (disch:=first|exact Kd|fail) only[go_sem,↓reduceIte,seval,Ie hr,Le,hn]
     |with_reducible refine zjp _ (P8 _ (Me Y0)) ?_
    refine Je tok zsg Kk [0,2,3,4] (fun q2 G' fr H'=> ∃j:Nat,j+q2=i∧(∀k (h:k<l.length),k<j→l[k]≠l[i])∧G'=G1∧H'=H1∧fr=[(0, .slice a l.length c),(2, .bool false),(3, .int .i64 (i:Nat)),(4, .int .i64 (j:Nat))]) (i) ?_ ?_
    ·exact Ce ⟨0,by omega,fun j _ h=>by omega,rfl,rfl,rfl⟩
    ·rintro q2 G2 fr H' Q0 R0 ⟨j,hjq,B1,rfl,rfl,rfl⟩;by_cases hji:j<i
     ·have U4:j<l.length:=by omega
      repeat' first
       |with_reducible first|refine Zd ?_ |refine Ae (fun _=>?_) fun _=>?_ |refine Nb fun nb A0 C0 B0=>?_
       |with_reducible refine Vf tok mixed zsg 9 [3,7] (.op 0 .plain (.op 1 .plain (.op 2 .plain (.op 3 .held (.op 4 .plain (.op 5 .plain (.op 6 .plain (.op 7 .held (.op 8 .plain .nil))))))))) Kk [0] ?_
       |simp -dsimp -implicitDefEqProofs (disch:=first|exact Kd|fail) only[go_sem,↓reduceIte,seval,Ie hr,Le]
      ·rename_i he;rw[zu (p:=zaR l) fun h=>(h.2 i Y0).2 (by rw[Sj];exact⟨j,by omega,he⟩)] at hR;all_goals refine De ?_ hR ?_
       any_goals first|exact Ks|skip
       rfl
      ·rename_i he
       exact Ce ⟨q2 - 1,by omega,j+1,by omega,fun k h hk=>by
        by_cases e:k=j
        ·subst e;exact he
        ·exact B1 k h Ko,rfl,rfl,rfl⟩
     ·obtain rfl:j=i:=by omega
      repeat' first
       |with_reducible first|refine Zd ?_ |refine Ae (fun _=>?_) fun _=>?_ |refine Nb fun nb A0 C0 B0=>?_
       |simp -dsimp -implicitDefEqProofs (disch:=first|exact Kd|fail) only[go_sem,↓reduceIte,seval]
      exact Ce ⟨q - 1,by omega,j+1,by omega,fun k h hk=>by
       by_cases e:k=j
       ·subst e;refine⟨hn,fun hm=>?_⟩;rw[Sj] at hm;obtain⟨x,hx,N5⟩:=hm;exact B1 x Ko Ko N5
       ·exact R4 k h Ko,rfl,rfl,rfl⟩
   |false=>
    rw[zu (p:=zaR l) fun h=>by have:=(h.2 i Y0).1;rw[hn] at this;cases this] at hR
    repeat' first
     |with_reducible first|refine Zd ?_ |refine Ae (fun _=>?_) fun _=>?_ |refine Nb fun nb A0 C0 B0=>?_
     |simp -dsimp -implicitDefEqProofs (disch:=first|exact Kd|fail) only[go_sem,↓reduceIte,seval,Ie hr,Le,hn]
     |with_reducible refine zjp _ (P8 _ (Me Y0)) ?_
    all_goals refine De ?_ hR ?_
    any_goals first|exact Ks|skip
    rfl
  ·obtain rfl:i=l.length:=by omega
   by_cases h64:l.length≤64
   ·rw[zA (p:=zaR l) ⟨h64,fun j h=>R4 j h h⟩] at hR
    repeat' first
     |with_reducible first|refine Zd ?_ |refine Ae (fun _=>?_) fun _=>?_ |refine Nb fun nb A0 C0 B0=>?_
     |simp -dsimp -implicitDefEqProofs (disch:=first|exact Kd|fail) only[go_sem,↓reduceIte,seval]
    all_goals refine De ?_ hR ?_
    any_goals first|exact Ks|skip
    rw[decide_eq_true Ko]
   ·rw[zu (p:=zaR l) fun h=>h64 h.1] at hR
    repeat' first
     |with_reducible first|refine Zd ?_ |refine Ae (fun _=>?_) fun _=>?_ |refine Nb fun nb A0 C0 B0=>?_
     |simp -dsimp -implicitDefEqProofs (disch:=first|exact Kd|fail) only[go_sem,↓reduceIte,seval]
    all_goals refine De ?_ hR ?_
    any_goals first|exact Ks|skip
    rw[decide_eq_false Ko]
theorem zwU {d:DfaT} (hd:d.of.length=256) {labs:List Int} {x:Int} {i:Nat} (hi:i≤70000) (hli:labs.length=i) {G:zb} {H:za} {v1 v2 v4 v5 v7 vn vl vs:Value} {b7:Nat} {kl:za} (Q2:zO [] 3 1 vl i (labs.map (Yd .i64)) kl):
  Tri Tryz.prog Tryz.f71.ntmps (piece [1,1,1,1,0,1,0,0,1,0,0,1,1] Tryz.f71) G [(1,v1),(2,v2),(4,v4),(5,v5),(6, .pointer (some ⟨b7,0,none⟩)),(7,v7),(8, .int .i64 x)] ((b7, .cells (zc d vn vl vs) [] 27):: (kl++H)) (onlyN fun G' fr' H'=>
   ∃vl' kl',G'=G∧zO [] 3 1 vl' (i+1) ((labs++[x]).map (Yd .i64)) kl'∧zy [1,2,4,5,6,7] fr'=[(1,v1),(2,v2),(4,v4),(5,v5),(6, .pointer (some ⟨b7,0,none⟩)),(7,v7)]∧H'=(b7, .cells (zc d vn vl' vs) [] 27):: (kl'++H)):=by
 have U1: ∀x:Value,Fe 1 x=[x]:=fun _=>rfl;have Z0: ∀a b c:Value,(zc d a b c).length=260:=fun a b c=>zN hd _ _ _;have P2: ∀a b c:Value,(zc d a b c)[258]? =some b:=fun a b c=>zbz hd _ _ _;have K4: ∀a b c x:Value,zf (zc d a b c) 258 [x]=zc d a x c:=fun a b c x=>zaH hd _ _ _ _;refine Tri.sepT fun M1=>?_;rcases Q2 with ⟨aa,rfl,O7,hx,rfl⟩| ⟨bl,cc,sp,rfl,rfl,hx,V2⟩
 ·have hE:=M1;try simp only[zzs] at hE
  repeat(obtain⟨J0,hE⟩:=hE)
  refine Xg (f:=Tryz.f71) rfl ?_;refine Yg tok zg6 Kk ?_
  repeat' first
   |with_reducible first|refine Zd ?_ |refine Ae (fun _=>?_) fun _=>?_ |refine Nb fun nb A0 C0 B0=>?_ |refine Nr fun nb D0 E0 A0 I0 C0 B0=>?_
   |simp -dsimp -implicitDefEqProofs (disch:=first|exact Kd|fail) only[go_sem,↓reduceIte,seval, -He,Z0,P2,K4,U1]
  refine Xf (H':=(b7, .cells (zc d vn (.slice (some ⟨nb,0,none⟩) 1 E0) vs) [] 27):: ([(nb, .cells [.int .i64 x] D0 3)]++H)) Ks ?_;exact⟨_,_,rfl, .inr ⟨nb,E0,D0,by rw[O7],by rw[Ke,hx];rfl,by rw[Ke,hx,O7];rfl,by rw[Ke,hx];simp at I0⊢;omega⟩,rfl,rfl⟩
 ·rw[Be,Gg] at hx V2;have hE:=M1;try simp only[zzs] at hE
  repeat(obtain⟨J0,hE⟩:=hE)
  refine Xg (f:=Tryz.f71) rfl ?_;refine Yg tok zg6 Kk ?_
  repeat' first
   |with_reducible first|refine Zd ?_ |refine Ae (fun _=>?_) fun _=>?_ |refine Nb fun nb A0 C0 B0=>?_ |refine Nr fun nb D0 E0 A0 I0 C0 B0=>?_
   |simp -dsimp -implicitDefEqProofs (disch:=first|exact Kd|fail) only[go_sem,↓reduceIte,seval, -He,Z0,P2,K4,U1,Be,hli]
  refine Xf (H':=(b7, .cells (zc d vn (.slice (some ⟨nb,0,none⟩) (i+1) E0) vs) [] 27):: ([(nb, .cells (labs.map (Yd .i64)++[.int .i64 x]) D0 3)]++H)) Ks ?_;exact⟨_,_,rfl, .inr ⟨nb,E0,D0,rfl,by rw[Ke];rfl,by simp [hli],by simp at I0⊢;omega⟩,rfl,rfl⟩
theorem zmR {d:DfaT} (K0:zg d) {x:Tx}:x∈zbJ d↔ ∃i,∃h:i<d.label.length,0<d.label[i]∧x=zcU d d.label[i]:=by
 rw[←zl2 K0,zh9 _ (Qe _)];constructor
 ·rintro⟨i,h,_,h1,h2⟩;exact⟨i,h,h1,h2⟩
 ·rintro⟨i,h,h1,h2⟩;exact⟨i,h,h,h1,h2⟩
theorem zuj {d:DfaT} (g:Tx→Int) {i:Nat} (h:i<d.label.length):(zbx d g).take (i+1)=(zbx d g).take i++[if 0<d.label[i] then g (zcU d d.label[i]) else 0]:=by
 rw[Re (by rw[zb9];exact h)];simp only[zbx,Le]
theorem zwt {d:DfaT} (P0:zr d) {l:List Tx} (hl:l.length≤2000000) (P8: ∀s∈l,s.length≤2000000) {G:zb} {H:za} {R:Value→zb→za→Prop} {v w:Value} (hv:IsD G d v) (hw:Sl G str w l)
  (hR: ∀G' v',PLe G G'→Sep G' (zm H)→IsD G' (zbs d l).1 v'→R (.tuple #[v', .int .i64 (zbs d l).2]) G' H):FnT Tryz.prog 71 [v,w] G H R:=by
 obtain⟨C,an,al,ay,cn,cl,cs,rs,rfl,O⟩:=hv.opened;obtain⟨U3,M2,V3,A4,M4⟩:=id P0;have N0:=O.len;have T0:=O.all;have D1:=O.w;have J1:=O.n;have X0:=O.l;have S2:=O.s;have E4:=O.of;have I3:=hw;obtain⟨aw,cw,rfl,hrw,R9⟩:=hw;have R5:(u8L d.of).length=256:=by rw[Be,O.ofl]
 have R3:=zdl O.ofl;have F4:=zc2 O.ofl;have D4:(u8L d.of++[Yd .i64 0,Wf none 0 0,Wf none 0 0,Wf none 0 0]).length=260:=by rw[Ve,R5];rfl
 have Z0: ∀a b c:Value,(zc d a b c).length=260:=fun a b c=>zN O.ofl _ _ _;have X7: ∀a b c:Value,Hf 260 (zc d a b c)=zc d a b c:=fun a b c=>zbQ O.ofl _ _ _;have U5: ∀a b c x:Value,zf (zc d a b c) 257 [x]=zc d x b c:=fun a b c x=>zbi O.ofl _ _ _ _;have Hd: ∀a b c x:Value,zf (zc d a b c) 259 [x]=zc d a b x:=fun a b c x=>zcG O.ofl _ _ _ _
 have T4: ∀a b c:Value,zf zz 0 (zc d a b c)=zc d a b c:=fun a b c=>by
  unfold zf;rw[Se,Af,Gf (by rw[zj,Z0];omega),Bf]
 have S3: ∀ (a a' a'':Option Addr) (n c n' c' n'' c'':Nat),(zc d (.slice a n c) (.slice a' n' c') (.slice a'' n'' c'')).all zax=true:=fun a a' a'' n c n' c' n'' c''=>zaC rfl rfl rfl;refine Zf ?_;by_cases K0:zg d
 ·have hb:=zA K0;obtain⟨Y2,K2,U2,N3,X3,Y3,Y1⟩:=id K0;by_cases hf:zaR l
  ·have R2:=zA hf;refine Ee tok zg6 Tryz.func71 rfl Kk Kk Kn fun M0=>?_;rw[Tryz.results71];have hE:=M0;try simp only[zzs] at hE
   repeat(obtain⟨J0,hE⟩:=hE)
   repeat' first
    |with_reducible first|refine Zd ?_ |refine Ae (fun _=>?_) fun _=>?_ |refine Nb fun nb A0 C0 B0=>?_ |refine Nr fun nb D0 E0 A0 I0 C0 B0=>?_
    |simp -dsimp -implicitDefEqProofs (disch:=first|exact Kd|fail) only[go_sem,↓reduceIte,seval, -He,Ye,N0,T0,zj,zG,zI,zM,hb,R2,D1,J1,E4,R5,R3,F4,D4,Z0,U5,Hd,T4,S3]
    | ((with_reducible refine za1 P0 O.is fun G2 Q0 R0=>?_);(have hE:=R0;try simp only[zzs] at hE;repeat(obtain⟨J0,hE⟩:=hE)))
    |with_reducible refine zmQ hl P8 (I3.mono Q0) ?_
   rename_i b2 z1 z2 z3 b4 z4 z5 z6 z7 z8 z9 z10;obtain⟨b6,e0⟩: ∃x,x=nb:=⟨_,rfl⟩;subst e0;obtain⟨g,hg⟩: ∃g:Tx→Int,g=fun s=>zw l s+1:=⟨_,rfl⟩;have hwn:zgR d l=zgQ d l g:=by rw[hg];rfl
   have hok1:(∀j (h:j<d.label.length),0<d.label[j]→zcU d d.label[j]∈l)→zbs d l=(zgR d l,0):=fun h=>ziZ K0 hf fun s hs=>by
    obtain⟨i,hi,h1,rfl⟩:=(zmR K0).1 hs;exact h i hi h1
   have Wa: ∀j (h:j<d.label.length),0<d.label[j]→zcU d d.label[j]∉l→zbs d l=(zah,5):=fun j h h1 h2=>zjR K0 hf fun h3=>h2 (h3 _ ((zmR K0).2 ⟨j,h,h1,rfl⟩));have O2:=OpenD.mono Q0 O;refine Tri.loopS tok zg6 (.seq .run (.seq (.block (.seq .run (.seq .run .cut))) .cut)) Kk [1,2,4,5,6,7] (fun q G' fr H'=> ∃ (i:Nat) (vl:Value) (kl:za),i+q=d.label.length∧(∀j (h:j<d.label.length),j<i→0<d.label[j]→zcU d d.label[j]∈l)∧G'=G2∧zO [] 3 1 vl i (((zbx d g).take i).map (Yd .i64)) kl∧H'=(b6, .cells (zc d (.slice an d.next.length cn) vl (.slice aw l.length cw)) [] 27):: (b2, .cells C [] 27):: (b4, .cells zz [] 27):: (kl++H)∧fr=[(1, .slice aw l.length cw),(2, .pointer (some ⟨b2,0,none⟩)),(4, .pointer (some ⟨b4,0,none⟩)),(5, .int .i64 0),(6, .pointer (some ⟨b6,0,none⟩)),(7, .int .i64 (i:Nat))]) (d.label.length) ?_ ?_
   ·exact Oe (H':=(b6, .cells (zc d (.slice an d.next.length cn) (.slice none 0 0) (.slice aw l.length cw)) [] 27):: (b2, .cells C [] 27):: (b4, .cells (Fe 256 (Yd .u8 0)++[Yd .i64 0,Wf none 0 0,Wf none 0 0,Wf none 0 0]) [] 27):: ([]++H)) Ks (Ce ⟨0,_,[],by omega,fun j _ h=>by omega,rfl, .inl ⟨none,rfl,rfl,rfl,rfl⟩,rfl,rfl⟩)
   ·rintro q G3 fr H3 A1 K1 ⟨i,vl,kl,Q5,R4,rfl,Q2,rfl,rfl⟩;have hE:=K1;try simp only[zzs] at hE
    repeat(obtain⟨J0,hE⟩:=hE)
    by_cases Y0:i<d.label.length
    ·have hadl:Adr al:=O2.rl.adr (by rw[Be];omega);obtain⟨_,w2,w3,_⟩:=Y1 i Ko Y0;have Va:=zuj g Y0;by_cases h0:0<d.label[i]
     ·rw[if_pos h0] at Va;obtain⟨n,hn⟩: ∃n:Nat,d.label[i]=(n:Int)+1:=⟨(d.label[i] - 1).toNat,by omega⟩;have Ed:n<d.names.length:=by omega
      have I4:=zeR Ed;have hmn:=Wa i Y0 h0;rw[hn,I4] at Va hmn;have hady:Adr ay:=O2.ry.adr (by rw[Be];omega);have L6:((n:Int)+1) - 1=(n:Nat):=by omega
      by_cases hm:d.names[n]∈l
      ·have F9:g d.names[n]=zw l d.names[n]+1:=by rw[hg]
       have hp:=zgP.2 hm
       have J3:zw l d.names[n]≤2000000:=by
        obtain⟨k,hk⟩:=zaf hm;have:=(zaa hk).1;rw[zB hk];omega
       rw[F9] at Va
       repeat' first
        |with_reducible first|refine Zd ?_ |refine Ae (fun _=>?_) fun _=>?_ |refine Nb fun nb A0 C0 B0=>?_ |refine Nr fun nb D0 E0 A0 I0 C0 B0=>?_
        |simp -dsimp -implicitDefEqProofs (disch:=first|exact Kd|fail) only[go_sem,↓reduceIte,seval, -He,Ye,N0,X0,S2,Ie O2.rl,Ie O2.ry,Le,hn,L6]
        |with_reducible refine Wg tok mixed zg6 11 [2,4,7,10] (.op 0 .plain (.op 1 .plain (.op 2 .held (.op 3 .plain (.op 4 .held (.op 5 .plain (.op 6 .plain (.op 7 .held (.op 8 .plain (.op 9 .plain (.op 10 .held (.op 11 .keeps (.op 12 .plain (.op 13 .plain .nil)))))))))))))) Kk [(b2, .cells C [] 27)] Ks ?_
        |with_reducible refine zgO l _ Ko (I3.mono Q0) ?_
       all_goals try(exfalso;omega)
       refine Tri.upd (Oe (H':=(b6, .cells (zc d (.slice an d.next.length cn) vl (.slice aw l.length cw)) [] 27):: (kl++((b2, .cells C [] 27):: (b4, .cells zz [] 27)::H))) Ks (Ce ?_));refine Ch [1,2,4,5,6,7,8] ?_;refine Ah [1,1,1,1,0,1,0,0,1,0,0,1,1] Tryz.f71 Kk ?_;refine Tri.onlyN (zwU (labs:=(zbx d g).take i) (x:=zw l d.names[n]+1) O.ofl (i:=i) Ko (by rw[Ge,zb9];omega) Q2) fun G5 l5 H5 A2 P1 hM5=>?_;obtain⟨vl',kl',rfl,Ba,Ub,rfl⟩:=hM5;simp only[go_sem];refine Ch [1,2,4,5,6,7] ?_;rw[Ub];refine Yg tok zg6 Kk ?_
       repeat' first
        |with_reducible first|refine Zd ?_ |refine Ae (fun _=>?_) fun _=>?_ |refine Nb fun nb A0 C0 B0=>?_ |refine Nr fun nb D0 E0 A0 I0 C0 B0=>?_
        |simp -dsimp -implicitDefEqProofs (disch:=first|exact Kd|fail) only[go_sem,↓reduceIte,seval, -He]
       rw[←Va] at Ba;refine Xf (H':=(b6, .cells (zc d (.slice an d.next.length cn) vl' (.slice aw l.length cw)) [] 27):: (b2, .cells C [] 27):: (b4, .cells zz [] 27):: (kl'++H)) Ks ?_;exact⟨q - 1,by omega,i+1,vl',kl',by omega,(fun j h hj h1=>if e:j=i then(by subst e;rw[hn,I4];exact hm) else R4 j h Ko h1),rfl,Ba,rfl,rfl⟩
      ·have hp: ¬0≤zw l d.names[n]:=fun h=>hm (zgP.1 h)
       have K6:zw l d.names[n]= -1:=by
        cases hk:place l d.names[n] with
        |none=>exact zbp hk
        |some k=>rw[zB hk] at hp;omega
       rw[hmn hm] at hR
       repeat' first
        |with_reducible first|refine Zd ?_ |refine Ae (fun _=>?_) fun _=>?_ |refine Nb fun nb A0 C0 B0=>?_ |refine Nr fun nb D0 E0 A0 I0 C0 B0=>?_
        |simp -dsimp -implicitDefEqProofs (disch:=first|exact Kd|fail) only[go_sem,↓reduceIte,seval, -He,Ye,N0,X0,S2,Ie O2.rl,Ie O2.ry,Le,hn,L6,K6,zj,zG,zI,zM]
        |with_reducible refine Wg tok mixed zg6 11 [2,4,7,10] (.op 0 .plain (.op 1 .plain (.op 2 .held (.op 3 .plain (.op 4 .held (.op 5 .plain (.op 6 .plain (.op 7 .held (.op 8 .plain (.op 9 .plain (.op 10 .held (.op 11 .keeps (.op 12 .plain (.op 13 .plain .nil)))))))))))))) Kk [(b2, .cells C [] 27)] Ks ?_
        |with_reducible refine zgO l _ Ko (I3.mono Q0) ?_
       unfold zo;refine Xf (H':=H) Ks ?_;exact fun _ hs=>hR G3 _ Q0 hs (zak _)
     ·rw[if_neg h0] at Va
      repeat' first
       |with_reducible first|refine Zd ?_ |refine Ae (fun _=>?_) fun _=>?_ |refine Nb fun nb A0 C0 B0=>?_ |refine Nr fun nb D0 E0 A0 I0 C0 B0=>?_
       |simp -dsimp -implicitDefEqProofs (disch:=first|exact Kd|fail) only[go_sem,↓reduceIte,seval, -He,Ye,N0,X0,Ie O2.rl,Le]
      refine Tri.upd (Oe (H':=(b6, .cells (zc d (.slice an d.next.length cn) vl (.slice aw l.length cw)) [] 27):: (kl++((b2, .cells C [] 27):: (b4, .cells zz [] 27)::H))) Ks (Ce ?_));refine Ch [1,2,4,5,6,7,8] ?_;refine Ah [1,1,1,1,0,1,0,0,1,0,0,1,1] Tryz.f71 Kk ?_;refine Tri.onlyN (zwU (labs:=(zbx d g).take i) (x:=0) O.ofl (i:=i) Ko (by rw[Ge,zb9];omega) Q2) fun G5 l5 H5 A2 P1 hM5=>?_;obtain⟨vl',kl',rfl,Ba,Ub,rfl⟩:=hM5;simp only[go_sem];refine Ch [1,2,4,5,6,7] ?_;rw[Ub];refine Yg tok zg6 Kk ?_
      repeat' first
       |with_reducible first|refine Zd ?_ |refine Ae (fun _=>?_) fun _=>?_ |refine Nb fun nb A0 C0 B0=>?_ |refine Nr fun nb D0 E0 A0 I0 C0 B0=>?_
       |simp -dsimp -implicitDefEqProofs (disch:=first|exact Kd|fail) only[go_sem,↓reduceIte,seval, -He]
      rw[←Va] at Ba;refine Xf (H':=(b6, .cells (zc d (.slice an d.next.length cn) vl' (.slice aw l.length cw)) [] 27):: (b2, .cells C [] 27):: (b4, .cells zz [] 27):: (kl'++H)) Ks ?_;exact⟨q - 1,by omega,i+1,vl',kl',by omega,(fun j h hj h1=>if e:j=i then absurd (by subst e;exact h1) h0 else R4 j h Ko h1),rfl,Ba,rfl,rfl⟩
    ·obtain rfl:i=d.label.length:=by omega
     rcases Q2 with ⟨_,_,h0,_,_⟩| ⟨bl,cl2,spl,rfl,rfl,hy,hyc⟩
     ·omega
     rw[Pe (by rw[zb9];exact Qe _)] at K1 hy hyc⊢;rw[Be,Gg,zb9] at hyc;rw[hok1 fun j h=>R4 j h h,hwn] at hR;have hE:=K1;try simp only[zzs] at hE
     repeat(obtain⟨J0,hE⟩:=hE)
     repeat' first
      |with_reducible first|refine Zd ?_ |refine Ae (fun _=>?_) fun _=>?_ |refine Nb fun nb A0 C0 B0=>?_ |refine Nr fun nb D0 E0 A0 I0 C0 B0=>?_
      |simp -dsimp -implicitDefEqProofs (disch:=first|exact Kd|fail) only[go_sem,↓reduceIte,seval, -He,Ye,N0,X0,Z0,X7,T4,S3,zj]
     unfold zo;refine Oe (H':=(bl, .cells ((zbx d g).map (Yd .i64)) spl 3)::H) Ks (Jf Ka fun G9 X5 P6 S6=>?_)
     exact fun _ hs=>hR G9 _ (Q0.trans X5) hs ⟨O.ofl,O.ofb,_,_,_,rfl,⟨an,cn,rs,rfl,O2.rn.mono X5,O2.rnl,O2.rnc,fun i h h2=>(by
      obtain⟨b,c,e1,e2,e3⟩:=O2.rs i h h2;exact⟨b,c,e1,e2.mono X5,e3⟩)⟩,⟨_,cl2,by show Wf _ _ _=Wf _ (zbx d g).length _;rw[zb9],S6,by show(zbx d g).length≤_;rw[zb9];omega⟩,I3.mono (Q0.trans X5)⟩
  ·have R2:=zu hf;rw[zlg K0 hf] at hR;refine Ee tok zg6 Tryz.func71 rfl Kk Kk Kn fun M0=>?_;rw[Tryz.results71];have hE:=M0;try simp only[zzs] at hE
   repeat(obtain⟨J0,hE⟩:=hE)
   repeat' first
    |with_reducible first|refine Zd ?_ |refine Ae (fun _=>?_) fun _=>?_ |refine Nb fun nb A0 C0 B0=>?_ |refine Nr fun nb D0 E0 A0 I0 C0 B0=>?_
    |simp -dsimp -implicitDefEqProofs (disch:=first|exact Kd|fail) only[go_sem,↓reduceIte,seval, -He,Ye,N0,T0,zj,zG,zI,zM,hb,R2]
    | ((with_reducible refine za1 P0 O.is fun G2 Q0 R0=>?_);(have hE:=R0;try simp only[zzs] at hE;repeat(obtain⟨J0,hE⟩:=hE)))
    |with_reducible refine zmQ hl P8 (I3.mono Q0) ?_
   unfold zo;refine Xf (H':=H) Ks ?_;exact fun _ hs=>hR G2 _ Q0 hs (zak _)
 ·have hb:=zu K0;rw[zia K0] at hR;refine Ee tok zg6 Tryz.func71 rfl Kk Kk Kn fun M0=>?_;rw[Tryz.results71];have hE:=M0;try simp only[zzs] at hE
  repeat(obtain⟨J0,hE⟩:=hE)
  repeat' first
   |with_reducible first|refine Zd ?_ |refine Ae (fun _=>?_) fun _=>?_ |refine Nb fun nb A0 C0 B0=>?_ |refine Nr fun nb D0 E0 A0 I0 C0 B0=>?_
   |simp -dsimp -implicitDefEqProofs (disch:=first|exact Kd|fail) only[go_sem,↓reduceIte,seval, -He,Ye,N0,T0,zj,zG,zI,zM,hb]
   | ((with_reducible refine za1 P0 O.is fun G2 Q0 R0=>?_);(have hE:=R0;try simp only[zzs] at hE;repeat(obtain⟨J0,hE⟩:=hE)))
  unfold zo;refine Xf (H':=H) Ks ?_;exact fun _ hs=>hR G2 _ Q0 hs (zak _)
theorem zuk {d:DfaT} (P0:zr d) {G:zb} {H:za} {R:Value→zb→za→Prop} {v:Value} (hv:IsD G d v)
  (hR: ∀G' v',PLe G G'→Sep G' (zm H)→IsD G' (zc8 d).1 v'→R (.tuple #[v', .int .i64 (zc8 d).2]) G' H):FnT Tryz.prog 44 [v] G H R:=by
 obtain⟨C,an,al,ay,cn,cl,cs,rs,rfl,O⟩:=hv.opened;have N0:=O.len;have T0:=O.all;obtain⟨hu1,hu2⟩:=ze5 P0;refine Zf ?_;refine Ee tok kp5 Tryz.func44 rfl Kk Kk Kn fun M0=>?_;rw[Tryz.results44];have hE:=M0;try simp only[zzs] at hE
 repeat(obtain⟨J0,hE⟩:=hE)
 repeat' first
  |with_reducible first|refine Zd ?_ |refine Ae (fun _=>?_) fun _=>?_ |refine Nb fun nb A0 C0 B0=>?_
  |simp -dsimp -implicitDefEqProofs (disch:=first|exact Kd|fail) only[go_sem,↓reduceIte,seval, -He,Ye,N0,T0]
  |with_reducible refine Vf tok mixed kp5 1 [0,1] (.op 0 .held (.op 1 .held (.op 2 .keeps (.op 3 .keeps (.op 4 .plain (.op 5 .plain (.op 6 .plain (.op 7 .plain .nil)))))))) Kk [1] ?_
 rename_i b1 h10 h11 h12;obtain⟨b2,e0⟩: ∃x,x=nb:=⟨_,rfl⟩;subst e0;refine zx3 P0 O.is fun G3 v3 A1 K1 T6=>?_;have hE:=K1;try simp only[zzs] at hE
 repeat(obtain⟨J0,hE⟩:=hE)
 repeat' first
  |with_reducible first|refine Zd ?_ |refine Ae (fun _=>?_) fun _=>?_ |refine Nb fun nb A0 C0 B0=>?_
  |simp -dsimp -implicitDefEqProofs (disch:=first|exact Kd|fail) only[go_sem,↓reduceIte,seval, -He,Ye,N0,T0]
 refine zwt P0 hu1 hu2 (O.is.mono A1) T6 fun G5 v5 A2 P1 hI5=>?_;obtain⟨C5,an5,al5,ay5,cn5,cl5,cs5,rs5,rfl,O5⟩:=hI5.opened;have Db:=O5.len;have Qc:=zl3 O5.is;have Rc:=zl4 Db;have Sc:Hf 260 C5=C5:=Pe Ko;have hE:=P1;try simp only[zzs] at hE
 repeat(obtain⟨J0,hE⟩:=hE)
 repeat' first
  |with_reducible first|refine Zd ?_ |refine Ae (fun _=>?_) fun _=>?_ |refine Nb fun nb A0 C0 B0=>?_
  |simp -dsimp -implicitDefEqProofs (disch:=first|exact Kd|fail) only[go_sem,↓reduceIte,seval, -He,Ye,Db,Qc,Rc,Sc,zj]
 unfold zo;refine Xf (H':=H) Ks ?_;exact fun _ hs=>hR G5 _ (A1.trans A2) hs O5.is
end Go.Proofs.YtomdbjfdbkejoaaGreatDoor
namespace Go.Proofs.YtomdbjfdbkejoaaGreatDoor
open Go Go.V Go.Proofs
end Go.Proofs.YtomdbjfdbkejoaaGreatDoor
namespace Go.Proofs.YtomdbjfdbkejoaaGreatDoor
open Go Go.V Go.Proofs
theorem zcA:zr zah:=by
 refine⟨Pg _,?_,Pg _,Pg _,?_⟩
 ·intro r hr;cases hr
 ·intro r hr;cases hr
theorem zoQ {d:DfaT} (P0:zr d) {l:List Tx} (h1:l.length≤2000000) (h2: ∀s∈l,s.length≤2000000):zr (zbs d l).1:=by
 unfold zbs;split
 ·split
  ·split
   ·exact zpX P0 h1 h2 _
   ·exact zcA
  ·exact zcA
 ·exact zcA
theorem zg7 {d:DfaT} (P0:zr d):zr (zc8 d).1:=zoQ P0 (ze5 P0).1 (ze5 P0).2
theorem zwu {l:List Tx} (h1:l.length≤64) (h2:l.Nodup) (h3: ∀s∈l,zcD s=true):zaR l:=by
 refine⟨h1,fun i hi=>⟨h3 _ (Me hi),fun hm=>?_⟩⟩;rw[Sj] at hm;obtain⟨j,hj,e⟩:=hm;have:=(List.getElem_inj h2).1 e;omega
theorem zsj {l:List Tx} (h:zaR l) {s:Tx} (hs:s∈l):zcD s=true:=by
 obtain⟨i,hi,rfl⟩:=Ue hs;exact(h.2 i hi).1
theorem zsk {d:DfaT} (K0:zg d) {s:Tx} (h:s∈zbJ d):s∈d.names:=zmO (by rw[zgi K0];exact h)
theorem zoR {d:DfaT} (K0:zg d):zcY (zbJ d):=by
 rw[←zl2 K0];exact zdT d _ (Qe _)
theorem zjS {d:DfaT} (K0:zg d):zaR (zbJ d):=by
 have h6:=K0.2.2.2.2.2.1;have:=ziY d;exact zwu (by have:=h6.1;omega) (zoR K0).nodup fun s hs=>zsj h6 (zsk K0 hs)
def other:Tx:=[111,116,104,101,114]
theorem zmS {d:DfaT} (K0:zg d) {i:Nat} (hi:i<d.label.length) (h0:0<d.label[i]):zcU d d.label[i]∈d.names:=by
 obtain⟨Y2,K2,U2,N3,X3,Y3,Y1⟩:=K0;obtain⟨_,w2,w3,_⟩:=Y1 i Ko hi;obtain⟨n,hn⟩: ∃n:Nat,d.label[i]=(n:Int)+1:=⟨(d.label[i] - 1).toNat,by omega⟩;have Ed:n<d.names.length:=by omega
 rw[hn,zeR Ed];exact Me Ed
theorem zpY {d:DfaT} (K0:zg d) {l:List Tx} (hl:zaR l) {g:Tx→Int} (hg: ∀s∈d.names,0≤g s∧g s≤l.length):zg (zgQ d l g):=by
 obtain⟨Y2,K2,U2,N3,X3,Y3,Y1⟩:=id K0;have R6:(zgQ d l g).label.length=d.label.length:=zb9 d g;refine⟨by rw[R6];exact Y2,by rw[R6];exact K2,by rw[R6];exact U2,N3,X3,hl,fun s h1 h2=>?_⟩;have h1:s<d.next.length:=h1;have h2':s<d.label.length:=by rw[R6] at h2;exact h2
 obtain⟨w1,w2,w3,w4⟩:=Y1 s h1 h2'
 have L5:(zgQ d l g).label[s]'h2=if 0<d.label[s] then g (zcU d d.label[s]) else 0:=by
  show(zbx d g)[s]'_=_;simp only[zbx,Le]
 refine⟨w1,?_,?_,fun t ht=>?_⟩
 ·rw[L5];split
  ·rename_i h0;exact(hg _ (zmS K0 h2' h0)).1
  ·exact Int.le_refl 0
 ·rw[L5];show _≤((l.length:Nat):Int);split
  ·rename_i h0;exact(hg _ (zmS K0 h2' h0)).2
  ·omega
 ·have:=w4 t ht;rw[R6];exact this
theorem zpZ (l:List Tx) (s:Tx):0≤zw l s+1∧zw l s+1≤l.length:=by
 cases hp:place l s with
 |none=>rw[zbp hp];omega
 |some n=>
  have:=(zaa hp).1;rw[zB hp];omega
theorem zp0 {d:DfaT} (K0:zg d) {l:List Tx} (hl:zaR l):zg (zgR d l):=zpY K0 hl fun s _=>zpZ l s
theorem zew {d:DfaT} (K0:zg d):zc8 d=(zgR d (zbJ d),0):=by
 unfold zc8;rw[zgi K0,ziZ K0 (zjS K0) fun s h=>h]
theorem zAj {i:Nat} (hi:i<256):zay .and .u8 (i:Int) 63=((i % 64 :Nat):Int):=by
 have h:=zjX (k:= .u8) (x:=(i:Int)) (y:=63) rfl Ko (by show(i:Int) <256;omega) (by decide) (by decide);rw[h,Yf,show(63 :Int).toNat=2 ^ 6 - 1 from rfl,Nat.and_two_pow_sub_one_eq_mod]
theorem zdN (f g:Nat→Nat):zf (zE 4 f) 0 (zE 4 g)=zE 4 g:=by
 unfold zf;rw[Se,Af,Gf (by rw[zag,zag];omega),Bf]
def zd6 (i:Nat):Nat→Nat:=upd (fun _=>0) (i / 64) (2 ^ (i % 64))
def zwv (f g:Nat→Nat):Nat→Nat:=fun k=>f k|||g k
theorem zqC (i k:Nat):zd6 i k<18446744073709551616:=by
 have:=zkV (show i % 64<64 by omega);simp only[zd6,upd];split
 ·exact this
 ·decide
theorem zww (i x:Nat):mem (zd6 i) x=decide (x=i):=by
 have:=zqj (fun _=>0) i x;rw[zj3,Bool.false_or,Nat.zero_or] at this;exact this
theorem zwx (f g:Nat→Nat) (x:Nat):mem (zwv f g) x=(mem f x||mem g x):=by
 unfold mem zwv;rw[Nat.testBit_or]
theorem zAk {i:Nat} (hi:i<256) {b:Nat} {e:TypeId} {G:zb} {H:za} {R:Value→zb→za→Prop} (hg:G b=none) (hf:zq H b=some (.cells [.int .u8 (i:Nat)] [] e))
  (hR:R (.agg (zE 4 (zd6 i)).toArray) G H):FnT Tryz.prog 119 [.slice (some ⟨b,0,none⟩) 1 1] G H R:=by
 have hq:i / 64<4:=by omega
 have hjj:i % 64<64:=by omega
 have hor:zay .or .u64 ((0 :Nat):Int) ((2 ^ (i % 64):Nat):Int)=((2 ^ (i % 64):Nat):Int):=by
  have:=zlI (w:=0) (by decide) (zkV hjj);rw[Nat.zero_or] at this;exact this
 have M3:zf (zE 4 (fun _=>0)) (i / 64) [.int .u64 ((2 ^ (i % 64):Nat):Int)]=zE 4 (zd6 i):=zhN hq _;have S5:=zag 4 (fun _=>0);have hl5:=zag 4 (zd6 i);have h63:=zAj hi;refine Zf ?_;refine Ee tok zlB Tryz.func119 rfl Kk Kk Kn fun M0=>?_;rw[Tryz.results119];have hE:=M0;try simp only[zzs] at hE
 repeat(obtain⟨J0,hE⟩:=hE)
 repeat' first
  |with_reducible first|refine Zd ?_ |refine Ae (fun _=>?_) fun _=>?_ |refine Nb fun nb A0 C0 B0=>?_
  |simp -dsimp -implicitDefEqProofs (disch:=first|exact Kd|fail) only[go_sem,↓reduceIte,Vi,Wi,Xi,Yi,Zi,Aj,Bj,Cj,Dj,He,Ej,Fj,Gj,Hj,Ij,Jj,Kj,Lj,Mj,Nj,Oj,Pj,Qj,reduceCtorEq, -He,hf]
 rename_i b1 R3 T8 B8;have hn1:=zU.neFind B8 hf;have Q4:=zU.neFind B0.2 hf;rw[zwS];refine Je tok zlB Kk [2,3,6,7,8] (fun q G' fr H'=> ∃ (j:Nat),j+q=1∧G'=G∧H'=(nb, .cells (zE 4 (if j=0 then fun _=>0 else zd6 i)) [] 101):: (b1, .cells (zE 4 (fun _=>0)) [] 101)::H∧fr=[(2, .pointer (some ⟨b1,0,none⟩)),(3, .pointer (some ⟨nb,0,none⟩)),(6, .slice (some ⟨b,0,none⟩) 1 1),(7, .int .i64 1),(8, .int .i64 (j:Nat))]) (1) ?_ ?_
 ·exact Ce ⟨0,rfl,rfl,rfl,rfl⟩
 ·rintro q G1 fr H' S0 V0 ⟨j,hj,rfl,rfl,rfl⟩;have hE:=V0;try simp only[zzs] at hE
  repeat(obtain⟨J0,hE⟩:=hE)
  by_cases h0:j=0
  ·subst h0
   repeat' first
    |with_reducible first|refine Zd ?_ |refine Ae (fun _=>?_) fun _=>?_ |refine Nb fun nb A0 C0 B0=>?_
    |simp -dsimp -implicitDefEqProofs (disch:=first|exact Kd|fail) only[go_sem,↓reduceIte,Vi,Wi,Xi,Yi,Zi,Aj,Bj,Cj,Dj,He,Ej,Fj,Gj,Hj,Ij,Jj,Kj,Lj,Mj,Nj,Oj,Pj,Qj,reduceCtorEq, -He,hf,S5,hq,zgX,zrK,zqk hjj,h63,hor,zdZ,M3,Yf]
   exact Ce ⟨0,by omega,1,by omega,rfl,rfl,rfl⟩
  ·obtain rfl:j=1:=by omega
   repeat' first
    |with_reducible first|refine Zd ?_ |refine Ae (fun _=>?_) fun _=>?_ |refine Nb fun nb A0 C0 B0=>?_
    |simp -dsimp -implicitDefEqProofs (disch:=first|exact Kd|fail) only[go_sem,↓reduceIte,Vi,Wi,Xi,Yi,Zi,Aj,Bj,Cj,Dj,He,Ej,Fj,Gj,Hj,Ij,Jj,Kj,Lj,Mj,Nj,Oj,Pj,Qj,reduceCtorEq, -He,hf,S5,hl5,zaZ,za0,zdN,Ye]
   all_goals refine De ?_ (fun _ _=>hR) ?_
   any_goals first|exact Ks|skip
   rfl
def zdv (l:List (Nat→Nat)):Nat→Nat:=fun k=>l.foldl (fun a f=>a|||f k) 0
def zeS (l:List (Nat→Nat)) (j p:Nat):Nat→Nat:=fun k=>if k<p then zdv (l.take (j+1)) k else zdv (l.take j) k
theorem zl5 {l:List (Nat→Nat)} (hl: ∀f∈l,∀k,f k<18446744073709551616) (k:Nat):zdv l k<18446744073709551616:=by
 unfold zdv
 suffices h: ∀ (l:List (Nat→Nat)) (a:Nat),(∀f∈l,f k<18446744073709551616)→a<18446744073709551616→l.foldl (fun a f=>a|||f k) a<18446744073709551616 from h l 0 (fun f hf=>hl f hf k) (by decide)
 intro l;induction l with
 |nil=>exact fun a _ h=>h
 |cons f l ih=>exact fun a h1 h2=>ih _ (fun g hg=>h1 g (List.mem_cons_of_mem _ hg)) (Nat.or_lt_two_pow (n:=64) h2 (h1 f (List.mem_cons_self ..)))
theorem zul (l:List (Nat→Nat)) (f:Nat→Nat) (k:Nat):zdv (l++[f]) k=zdv l k|||f k:=by unfold zdv;rw[List.foldl_append];rfl
theorem zwy {l:List (Nat→Nat)} (X1:l.length≤1000) (hl: ∀f∈l,∀k,f k<18446744073709551616) {b:Nat} {sp:List Value} {cap:Nat} {e:TypeId} {G:zb} {H:za} {R:Value→zb→za→Prop} (hg:G b=none) (hf:zq H b=some (.cells (l.flatMap zae) sp e))
  (hR:R (.agg (zE 4 (zdv l)).toArray) G H):FnT Tryz.prog 118 [.slice (some ⟨b,0,none⟩) l.length cap] G H R:=by
 have B9:=zbm (enc:=zae) (m:=4) zaN l;refine Zf ?_;refine Ee tok zwi Tryz.func118 rfl Kk Kk Kn fun M0=>?_;rw[Tryz.results118];have hE:=M0;try simp only[zzs] at hE
 repeat(obtain⟨J0,hE⟩:=hE)
 repeat' first
  |with_reducible first|refine Zd ?_ |refine Ae (fun _=>?_) fun _=>?_ |refine Nb fun nb A0 C0 B0=>?_
  |simp -dsimp -implicitDefEqProofs (disch:=first|exact Kd|fail) only[go_sem,↓reduceIte,Vi,Wi,Xi,Yi,Zi,Aj,Bj,Cj,Dj,He,Ej,Fj,Gj,Hj,Ij,Jj,Kj,Lj,Mj,Nj,Oj,Pj,Qj,reduceCtorEq, -He,hf]
 rename_i b1 R3 T8 B8;have hn1:=zU.neFind B8 hf;revert nb;intro b3 hb3 hb31 hb32;have Q4:=zU.neFind hb32.2 hf;rw[zwS];refine Je tok zwi Kk [2,3,8,9,10] (fun q G' fr H'=> ∃ (j:Nat),j+q=l.length∧G'=G∧H'=(b3, .cells (zE 4 (zdv (l.take j))) [] 101):: (b1, .cells (zE 4 (fun _=>0)) [] 101)::H∧fr=[(2, .pointer (some ⟨b1,0,none⟩)),(3, .pointer (some ⟨b3,0,none⟩)),(8, .slice (some ⟨b,0,none⟩) l.length cap),(9, .int .i64 l.length),(10, .int .i64 (j:Nat))]) (l.length) ?_ ?_
 ·exact Ce ⟨0,by omega,rfl,rfl,rfl⟩
 ·rintro q G1 fr H' S0 V0 ⟨j,hj,rfl,rfl,rfl⟩;have hE:=V0;try simp only[zzs] at hE
  repeat(obtain⟨J0,hE⟩:=hE)
  by_cases U4:j<l.length
  ·have E6:=zgV (enc:=zae) (m:=4) zaN l j U4;have hjf:=hl _ (Me U4);have B2:=Re U4;have hmul:(j+1) * 4≤l.length * 4:=Gh _ U4
   have hget':Hf 4 (List.drop (j * 4) (l.flatMap zae++sp))=zE 4 l[j]:=by
    rw[List.drop_append_of_le_length Ko,Tf (by rw[Of];omega)];exact E6
   have hu1:=zl5 (l:=l.take j) fun f Na=>hl f (Li Na);have S5:=zag 4
   repeat' first
    |with_reducible first|refine Zd ?_ |refine Ae (fun _=>?_) fun _=>?_ |refine Nb fun nb A0 C0 B0=>?_
    |simp -dsimp -implicitDefEqProofs (disch:=first|exact Kd|fail) only[go_sem,↓reduceIte,Vi,Wi,Xi,Yi,Zi,Aj,Bj,Cj,Dj,He,Ej,Fj,Gj,Hj,Ij,Jj,Kj,Lj,Mj,Nj,Oj,Pj,Qj,reduceCtorEq, -He,hf,B9,hget',S5,za0,zbF,zaZ,Ye]
   revert nb;intro nc hnc hnc1 hnc2;refine Je tok zwi Kk [2,3,8,9,10,14,15] (fun q2 G' fr H'=> ∃ (p:Nat),p+q2=4∧G'=G1∧H'=(nc, .cells (zE 4 l[j]) [] 101):: (b3, .cells (zE 4 (zeS l j p)) [] 101):: (b1, .cells (zE 4 (fun _=>0)) [] 101)::H∧fr=[(2, .pointer (some ⟨b1,0,none⟩)),(3, .pointer (some ⟨b3,0,none⟩)),(8, .slice (some ⟨b,0,none⟩) l.length cap),(9, .int .i64 l.length),(10, .int .i64 (j:Nat)),(14, .agg (zE 4 l[j]).toArray),(15, .int .i64 (p:Nat))]) (4) ?_ ?_
   ·exact Ce ⟨0,by omega,rfl,by rw[show zeS l j 0=zdv (l.take j) from funext fun k=>if_neg Ko],rfl⟩
   ·rintro q2 G2 fr H' Q0 R0 ⟨p,hp,rfl,rfl,rfl⟩;have hE:=R0;try simp only[zzs] at hE
    repeat(obtain⟨J0,hE⟩:=hE)
    by_cases hp4:p<4
    ·have T9: ∀k,zeS l j p k<18446744073709551616:=fun k=>by
      unfold zeS;split
      ·exact zl5 (l:=l.take (j+1)) (fun f Na=>hl f (Li Na)) k
      ·exact hu1 k
     have hor:=zlI (T9 p) (hjf p);have Pc:(zE 4 l[j])[p]? =some (.int .u64 (l[j] p)):=by rw[Xe (by rw[S5];exact hp4),zdZ]
     have Vd:(zE 4 (zeS l j p))[p]? =some (.int .u64 (zeS l j p p:Nat)):=by rw[Xe (by rw[S5];exact hp4),zdZ]
     have M3:zf (zE 4 (zeS l j p)) p [.int .u64 ((zeS l j p p|||l[j] p:Nat):Int)]=zE 4 (zeS l j (p+1)):=by
      rw[zhN hp4];congr 1;funext k;unfold upd;by_cases e:k=p
      ·subst e;rw[if_pos rfl];unfold zeS;rw[if_neg (Nat.lt_irrefl _),if_pos (Nat.lt_succ_self _),B2,zul]
      ·rw[if_neg e];unfold zeS;by_cases h:k<p
       ·rw[if_pos h,if_pos Ko]
       ·rw[if_neg h,if_neg Ko]
     repeat' first
      |with_reducible first|refine Zd ?_ |refine Ae (fun _=>?_) fun _=>?_ |refine Nb fun nb A0 C0 B0=>?_
      |simp -dsimp -implicitDefEqProofs (disch:=first|exact Kd|fail) only[go_sem,↓reduceIte,Vi,Wi,Xi,Yi,Zi,Aj,Bj,Cj,Dj,He,Ej,Fj,Gj,Hj,Ij,Jj,Kj,Lj,Mj,Nj,Oj,Pj,Qj,reduceCtorEq, -He,hf,S5,hor,Pc,Vd,M3,zdZ,za0,zbF,zaZ,Ye,zhq]
     exact Ce ⟨q2 - 1,by omega,p+1,by omega,rfl,rfl,rfl⟩
    ·obtain rfl:p=4:=by omega
     rw[show zE 4 (zeS l j 4)=zE 4 (zdv (l.take (j+1))) from List.map_congr_left fun k hk=>by rw[List.mem_range] at hk;unfold zeS;rw[if_pos hk]]
     repeat' first
      |with_reducible first|refine Zd ?_ |refine Ae (fun _=>?_) fun _=>?_ |refine Nb fun nb A0 C0 B0=>?_
      |simp -dsimp -implicitDefEqProofs (disch:=first|exact Kd|fail) only[go_sem,↓reduceIte,Vi,Wi,Xi,Yi,Zi,Aj,Bj,Cj,Dj,He,Ej,Fj,Gj,Hj,Ij,Jj,Kj,Lj,Mj,Nj,Oj,Pj,Qj,reduceCtorEq, -He]
     refine Oe (H':=(b3, .cells (zE 4 (zdv (l.take (j+1)))) [] 101):: (b1, .cells (zE 4 (fun _=>0)) [] 101)::H) Ks (Ce ⟨q - 1,by omega,j+1,by omega,rfl,rfl,rfl⟩)
  ·obtain rfl:j=l.length:=by omega
   repeat' first
    |with_reducible first|refine Zd ?_ |refine Ae (fun _=>?_) fun _=>?_ |refine Nb fun nb A0 C0 B0=>?_
    |simp -dsimp -implicitDefEqProofs (disch:=first|exact Kd|fail) only[go_sem,↓reduceIte,Vi,Wi,Xi,Yi,Zi,Aj,Bj,Cj,Dj,He,Ej,Fj,Gj,Hj,Ij,Jj,Kj,Lj,Mj,Nj,Oj,Pj,Qj,reduceCtorEq, -He,hf,zaZ,za0,zag,zdN,Ye,Te]
   all_goals refine De ?_ (fun _ _=>hR) ?_
   any_goals first|exact Ks|skip
   rfl
theorem zx6 (w:Nat):0<w→ ∃t,w.testBit t=true∧(∀j,j<t→w.testBit j=false)∧(∀j,(w&&& (w - 1)).testBit j=(w.testBit j&&decide (j≠t)))∧ ∀N,w<2 ^ N→w&&& (2 ^ N - w)=2 ^ t:=by
 induction w using Nat.strongRecOn with
 |_ w ih=>
  intro hw;by_cases ho:w % 2=1
  ·refine⟨0,by rw[Ti];simpa using ho,fun j hj=>absurd hj (Nat.not_lt_zero _),fun j=>?_,fun N hN=>?_⟩
   ·cases j with
    |zero=>rw[Ui,Ti,Ti];simp;omega
    |succ j=>rw[Ui,Si,Si,show(w - 1) / 2=w / 2 by omega];simp
   ·cases N with
    |zero=>omega
    |succ M=>
     have hp:2 ^ (M+1)=2 * 2 ^ M:=by rw[Rj];omega
     apply Nat.eq_of_testBit_eq;intro j;cases j with
     |zero=>rw[Ui,Ti,Ti];simp;omega
     |succ j=>
      rw[Ui,Si,Si,show(2 ^ (M+1) - w) / 2=2 ^ M - (w / 2+1) by omega,Nat.testBit_two_pow_sub_succ Ko];have:(2 ^ 0 :Nat).testBit (j+1)=false:=by rw[Si];simp
      rw[this];cases (w / 2).testBit j <;> simp
  ·obtain⟨t,h1,h2,h3,h4⟩:=ih (w / 2) Ko Ko;refine⟨t+1,by rw[Si];exact h1,fun j hj=>?_,fun j=>?_,fun N hN=>?_⟩
   ·cases j with
    |zero=>rw[Ti];simpa using ho
    |succ j=>rw[Si];exact h2 j Ko
   ·cases j with
    |zero=>rw[Ui,Ti];simp [ho]
    |succ j=>
     have:=h3 j;rw[Ui] at this⊢;rw[Si,Si,show(w - 1) / 2=w / 2 - 1 by omega,this];congr 1;rw[decide_eq_decide];omega
   ·cases N with
    |zero=>omega
    |succ M=>
     have hp:2 ^ (M+1)=2 * 2 ^ M:=by rw[Rj];omega
     apply Nat.eq_of_testBit_eq;intro j;cases j with
     |zero=>
      rw[Ui,Ti,Ti];have:2 ^ (t+1) % 2=0:=by rw[Rj];omega
      simp [ho,this]
     |succ j=>
      have:=h4 M Ko;rw[Ui,Si,Si,show(2 ^ (M+1) - w) / 2=2 ^ M - w / 2 by omega,←Ui,this,Si,show 2 ^ (t+1) / 2=2 ^ t by rw[Rj];omega]
def zy8:List Nat:=[0,1,56,2,57,49,28,3,61,58,42,50,38,29,17,4,62,47,59,36,45,43,51,22,53,39,33,30,24,18,12,5,63,55,48,27,60,41,37,16,46,35,44,21,52,32,23,11,54,26,40,15,34,20,31,10,25,14,19,9,13,8,7,6]
theorem zy9: ∀t:Fin 64,zy8[(2 ^ t.val * 285870213051353865 % 18446744073709551616) / 288230376151711744]? =some t.val:=by decide+kernel
theorem zza {w t:Nat} (h:w<18446744073709551616) (ht:w.testBit t=true):t<64:=by
 rcases Eg t 64 with h1|h1
 ·exact h1
 ·rw[Nat.testBit_lt_two_pow (Nat.lt_of_lt_of_le (show w<2 ^ 64 from h) (Nat.pow_le_pow_right (by decide) h1))] at ht;cases ht
def zsl:List Value:=zy8.map fun x=>Yd .u8 (x:Nat)
def zcK (G:zb):Prop:=zbP G 0 0 zsl
theorem zcK.mono {G G':zb} (h:zcK G) (S0:PLe G G'):zcK G':=by
 obtain⟨c,e,fr,h1,h2,h3⟩:=h;exact⟨c,e,fr,S0 _ _ h1,h2,h3⟩
theorem zAI (w t:Nat) (hw:w<18446744073709551616) (h0:0<w) (ht:t<64) (hb:w&&& (2 ^ 64 - w)=2 ^ t) {G:zb} {H:za} {R:Value→zb→za→Prop} (hg:zcK G)
  (hR:R (.int .i64 t) G H):FnT Tryz.prog 143 [.int .u64 w] G H R:=by
 obtain⟨q,hq⟩: ∃q,q=2 ^ t * 285870213051353865 % 18446744073709551616 / 288230376151711744:=⟨_,rfl⟩;have Ca:=zy9 ⟨t,ht⟩;simp only[] at Ca;rw[←hq] at Ca;obtain⟨hq64,hqv⟩:=List.getElem?_eq_some_iff.1 Ca;have hq2:q<64:=hq64
 have hneg:IntKind.u64.wrap (0 - (w:Int))=((18446744073709551616 - w:Nat):Int):=by
  simp only[IntKind.wrap,IntKind.bits,IntKind.signed];simp;omega
 have F4:w&&& (18446744073709551616 - w)=2 ^ t:=hb
 have hx:IntKind.u64.wrap (((2 ^ t:Nat):Int) * 285870213051353865) / 288230376151711744=(q:Int):=by
  rw[hq];generalize 2 ^ t=z;simp only[IntKind.wrap,IntKind.bits,IntKind.signed];simp
 have hvl:zsl.length=64:=rfl
 have E6:zsl[q]'(by rw[hvl];exact hq2)= .int .u8 (t:Nat):=by
  unfold zsl;rw[Le,hqv]
 have I3:(w:Int)≠0:=by omega
 refine Ee tok [0,2,4] Tryz.func143 rfl Kk Kk Kn fun M0=>?_;rw[Tryz.results143];have hE:=M0;try simp only[zzs] at hE
 repeat(obtain⟨J0,hE⟩:=hE)
 repeat' first
  |with_reducible first|refine Zd ?_ |refine Ae (fun _=>?_) fun _=>?_ |refine Nb fun nb A0 C0 B0=>?_ |refine Nr fun nb D0 E0 A0 I0 C0 B0=>?_
  |simp -dsimp -implicitDefEqProofs (disch:=first|exact Kd|fail) only[go_sem,↓reduceIte,seval,hneg,F4,hx,zbP.obj0 hg,E6,hvl]
 all_goals refine De ?_ hR ?_
 any_goals first|exact Ks|skip
 rfl
def elems (n:Nat) (ws:Nat→Nat):List Nat:=(Hg n).filter (mem ws)
theorem zlh {ws:Nat→Nat} {a:Nat}: ∀ {b:Nat},a≤b→(∀i,a≤i→i<b→mem ws i=false)→elems b ws=elems a ws
 |b,M8,h=>by
  unfold elems;obtain⟨d,rfl⟩:=Nat.exists_eq_add_of_le M8;clear M8;induction d with
  |zero=>rfl
  |succ d ih=>
   rw[show a+(d+1)=(a+d)+1 by omega,Sf,List.filter_append,ih fun i h1 h2=>h i h1 Ko];simp [h (a+d) Ko Ko]
theorem zum {ws:Nat→Nat} {a:Nat} (h:mem ws a=true):elems (a+1) ws=elems a ws++[a]:=by
 unfold elems;rw[Sf,List.filter_append];simp [h]
theorem zwz (lr bx:Nat) {ws:Nat→Nat} (hw: ∀k,ws k<18446744073709551616) {G:zb} {HC:za} {R:Value→zb→za→Prop} (hg:zcK G)
  (J Jx:List Nat→zb→za→Prop)
  (hY: ∀x G1 H1,PLe G G1→Sep G1 (zm ((bx,Res.cells (zE 4 ws) [] 101)::H1))→J (elems x ws) G1 H1→x<256→mem ws x=true→zbZ Tryz.prog lr [.int .u8 (x:Nat)] G1 ((bx, .cells (zE 4 ws) [] 101)::H1) fun v G2 H2=> ∃H3,H2=(bx, .cells (zE 4 ws) [] 101)::H3∧((v= .bool true∧J (elems x ws++[x]) G2 H3)∨(v= .bool false∧Jx (elems x ws++[x]) G2 H3)))
  (h0:J [] G HC)
  (hR: ∀G' H',PLe G G'→Sep G' (zm ((bx,Res.cells (zE 4 ws) [] 101)::H'))→(J (elems 256 ws) G' H'∨ ∃pre,Jx pre G' H')→R (.tuple #[]) G' ((bx, .cells (zE 4 ws) [] 101)::H')):
  FnT Tryz.prog 142 [.func (.yield lr) #[] #[], .pointer (some ⟨bx,0,none⟩)] G ((bx, .cells (zE 4 ws) [] 101)::HC) R:=by
 have hl:=zag 4 ws;refine Ee tok zwj Tryz.func142 rfl Kk Kk Kn fun M0=>?_;rw[Tryz.results142];have hE:=M0;try simp only[zzs] at hE
 repeat(obtain⟨J0,hE⟩:=hE)
 repeat' first
  |with_reducible first|refine Zd ?_ |refine Ae (fun _=>?_) fun _=>?_ |refine Nb fun nb A0 C0 B0=>?_ |refine Nr fun nb D0 E0 A0 I0 C0 B0=>?_
  |simp -dsimp -implicitDefEqProofs (disch:=first|exact Kd|fail) only[go_sem,↓reduceIte,seval,zaZ,Ye,hl]
 refine Je tok zwj Kk [0,1,5,6] (fun q G' fr H'=> ∃ (k:Nat) (H1:za),k+q=4∧PLe G G'∧J (elems (k * 64) ws) G' H1∧H'=(bx, .cells (zE 4 ws) [] 101)::H1∧fr=[(0, .func (.yield lr) #[] #[]),(1, .pointer (some ⟨bx,0,none⟩)),(5, .agg (zE 4 ws).toArray),(6, .int .i64 k)]) (4) ?_ ?_
 ·exact Ce ⟨0,HC,by omega,PLe.refl _,h0,rfl,rfl⟩
 ·rintro q G1 fr H' S0 hs ⟨k,H1,hk,N2,hJ,rfl,rfl⟩;have hE:=hs;try simp only[zzs] at hE
  repeat(obtain⟨J0,hE⟩:=hE)
  by_cases S8:k<4
  ·have hwk:=hw k;have Pc:(zE 4 ws)[k]? =some (.int .u64 (ws k)):=by rw[Xe (by rw[hl];exact S8),zdZ]
   repeat' first
    |with_reducible first|refine Zd ?_ |refine Ae (fun _=>?_) fun _=>?_ |refine Nb fun nb A0 C0 B0=>?_ |refine Nr fun nb D0 E0 A0 I0 C0 B0=>?_
    |simp -dsimp -implicitDefEqProofs (disch:=first|exact Kd|fail) only[go_sem,↓reduceIte,seval,hl,Pc,zhq,Ye]
   refine Je tok zwj Kk [0,1,3,4,5,6] (fun q2 G' fr H'=> ∃ (p w:Nat) (H2:za),p+q2=64∧w<18446744073709551616∧(∀j,w.testBit j=((ws k).testBit j&&decide (p≤j)))∧PLe G G'∧J (elems (k * 64+p) ws) G' H2∧H'=(bx, .cells (zE 4 ws) [] 101)::H2∧fr=[(0, .func (.yield lr) #[] #[]),(1, .pointer (some ⟨bx,0,none⟩)),(3, .int .i64 k),(4, .int .u64 w),(5, .agg (zE 4 ws).toArray),(6, .int .i64 k)]) (64) ?_ ?_
   ·exact Ce ⟨0,ws k,H1,by omega,hwk,fun j=>by simp,N2,hJ,rfl,rfl⟩
   ·rintro q2 G2 fr H' Q0 R0 ⟨p,w,H2,hp,P4,hwb,A1,hJ2,rfl,rfl⟩;have P2:=hg.mono A1;by_cases I3:w=0
    ·subst I3
     have hnone: ∀i,k * 64+p≤i→i< (k+1) * 64→mem ws i=false:=fun i h1 h2=>by
      have hb:=hwb (i - k * 64);rw[Nat.zero_testBit,decide_eq_true Ko,Bool.and_true] at hb;rw[show i=k * 64+(i - k * 64) by omega,zn7 _ _ _ Ko];exact hb.symm
     have he:=zlh (b:=(k+1) * 64) Ko hnone;rw[←he] at hJ2
     repeat' first
      |with_reducible first|refine Zd ?_ |refine Ae (fun _=>?_) fun _=>?_ |refine Nb fun nb A0 C0 B0=>?_ |refine Nr fun nb D0 E0 A0 I0 C0 B0=>?_
      |simp -dsimp -implicitDefEqProofs (disch:=first|exact Kd|fail) only[go_sem,↓reduceIte,seval]
     exact Ce ⟨q - 1,by omega,k+1,H2,by omega,A1,hJ2,rfl,rfl⟩
    ·obtain⟨t,ht1,X7,ht3,ht4⟩:=zx6 w Ko;have ht64:=zza P4 ht1;have Oa:=hwb t;rw[ht1] at Oa;simp only[Bool.true_eq,Bool.and_eq_true,decide_eq_true_eq] at Oa;have Z5:mem ws (k * 64+t)=true:=by rw[zn7 _ _ _ ht64];exact Oa.1
     have J2:k * 64+t<256:=by omega
     have hskip:elems (k * 64+t) ws=elems (k * 64+p) ws:=zlh Ko fun i h1 h2=>by
      have hb:=hwb (i - k * 64);rw[X7 _ Ko,decide_eq_true Ko,Bool.and_true] at hb;rw[show i=k * 64+(i - k * 64) by omega,zn7 _ _ _ Ko];exact hb.symm
     have Mb:=zum Z5;have hcast:((k:Int) * 64+t)=((k * 64+t:Nat):Int):=by simp
     have E5:((w:Int) - 1).toNat=w - 1:=by omega
     have X6:w&&& (w - 1) <18446744073709551616:=Nat.lt_of_le_of_lt Nat.and_le_left P4;have hw0':(w:Int)≠0:=by omega
     repeat' first
      |with_reducible first|refine Zd ?_ |refine Ae (fun _=>?_) fun _=>?_ |refine Nb fun nb A0 C0 B0=>?_ |refine Nr fun nb D0 E0 A0 I0 C0 B0=>?_
      |simp -dsimp -implicitDefEqProofs (disch:=first|exact Kd|fail) only[go_sem,↓reduceIte,seval,E5]
      |with_reducible refine zAI w t P4 Ko ht64 (ht4 64 P4) P2 ?_
     rw[hcast];rw[←hskip] at hJ2;refine zbZ.mono (hY (k * 64+t) G2 H2 A1 R0 hJ2 J2 Z5) ?_;rintro v G3 H3' Z1 S1 ⟨H3,rfl,⟨rfl,hJ3⟩| ⟨rfl,hJ3⟩⟩
     ·rw[←Mb] at hJ3
      repeat' first
       |with_reducible first|refine Zd ?_ |refine Ae (fun _=>?_) fun _=>?_ |refine Nb fun nb A0 C0 B0=>?_ |refine Nr fun nb D0 E0 A0 I0 C0 B0=>?_
       |simp -dsimp -implicitDefEqProofs (disch:=first|exact Kd|fail) only[go_sem,↓reduceIte,seval,E5]
      exact Ce ⟨64 - (t+1),by omega,t+1,w&&& (w - 1),H3,by omega,X6,fun j=>by
       rw[ht3];rcases Sh j t with h|h|h
       ·rw[X7 j h,decide_eq_false (show ¬t+1≤j by omega)];simp
       ·subst h;rw[decide_eq_false (show ¬j+1≤j by omega)];simp
       ·rw[hwb,decide_eq_true (show p≤j by omega),decide_eq_true (show j≠t by omega),decide_eq_true (show t+1≤j by omega)];simp,A1.trans Z1,hJ3,rfl,rfl⟩
     ·repeat' first
       |with_reducible first|refine Zd ?_ |refine Ae (fun _=>?_) fun _=>?_ |refine Nb fun nb A0 C0 B0=>?_ |refine Nr fun nb D0 E0 A0 I0 C0 B0=>?_
       |simp -dsimp -implicitDefEqProofs (disch:=first|exact Kd|fail) only[go_sem,↓reduceIte,seval]
      all_goals refine De ?_ (hR G3 H3 (A1.trans Z1) S1 (.inr ⟨_,hJ3⟩)) ?_
      any_goals first|exact Ks|skip
      rfl
  ·obtain rfl:k=4:=by omega
   repeat' first
    |with_reducible first|refine Zd ?_ |refine Ae (fun _=>?_) fun _=>?_ |refine Nb fun nb A0 C0 B0=>?_ |refine Nr fun nb D0 E0 A0 I0 C0 B0=>?_
    |simp -dsimp -implicitDefEqProofs (disch:=first|exact Kd|fail) only[go_sem,↓reduceIte,seval]
   all_goals refine De ?_ (hR G1 H1 N2 hs (.inl hJ)) ?_
   any_goals first|exact Ks|skip
   rfl
theorem zsm:V.Callee Tryz.prog 142:=⟨_,_,Tryz.func142,rfl,by kernel_rfl⟩
theorem zx7 {ws:Nat→Nat} {G:zb} {H:za} {R:Value→zb→za→Prop} (hR: ∀bx,Sep G (bx::zm H)→R (.func (.func 142) #[] #[.pointer (some ⟨bx,0,none⟩)]) G ((bx, .cells (zE 4 ws) [] 101)::H)):FnT Tryz.prog 120 [.agg (zE 4 ws).toArray] G H R:=by
 have hl:=zag 4 ws;refine Ee tok [0,1,2] Tryz.func120 rfl Kk Kk Kn fun M0=>?_;rw[Tryz.results120];have hE:=M0;try simp only[zzs] at hE
 repeat(obtain⟨J0,hE⟩:=hE)
 repeat' first
  |with_reducible first|refine Zd ?_ |refine Ae (fun _=>?_) fun _=>?_ |refine Nb fun nb A0 C0 B0=>?_
  |simp -dsimp -implicitDefEqProofs (disch:=first|exact Kd|fail) only[go_sem,↓reduceIte,seval,hl,zaZ,za0,zbF,zdN,Ye]
 exact Upd.fin (hR nb A0) rfl
theorem zoS {ws:Nat→Nat} (hw: ∀k,ws k<18446744073709551616) {x:Nat} (hx:x<256) (hm:mem ws x=true) (hmin: ∀y,y<x→mem ws y=false) {G:zb} {H:za} {R:Value→zb→za→Prop} (hg:zcK G)
  (hR:R (.int .i64 (x:Nat)) G H):FnT Tryz.prog 80 [.agg (zE 4 ws).toArray] G H R:=by
 have hl:=zag 4 ws;refine Ee tok zy1 Tryz.func80 rfl Kk Kk Kn fun M0=>?_;rw[Tryz.results80];have hE:=M0;try simp only[zzs] at hE
 repeat(obtain⟨J0,hE⟩:=hE)
 repeat' first
  |with_reducible first|refine Zd ?_ |refine Ae (fun _=>?_) fun _=>?_ |refine Nb fun nb A0 C0 B0=>?_ |refine Nr fun nb D0 E0 A0 I0 C0 B0=>?_
  |simp -dsimp -implicitDefEqProofs (disch:=first|exact Kd|fail) only[go_sem,↓reduceIte,seval,hl,zaZ,za0,zbF,zdN,Ye]
 rename_i b1 R3 T8 B8;revert nb;intro b2 F4 J8 A8;refine zx7 fun bx hbx=>?_
 repeat' first
  |with_reducible first|refine Zd ?_ |refine Ae (fun _=>?_) fun _=>?_ |refine Nb fun nb A0 C0 B0=>?_ |refine Nr fun nb D0 E0 A0 I0 C0 B0=>?_
  |simp -dsimp -implicitDefEqProofs (disch:=first|exact Kd|fail) only[go_sem,↓reduceIte,seval]
 refine Tri.rangeF2 tok zy1 rfl zsm Kk fun lr Rr Rb hlr yl=>?_;have hE:=hlr;try simp only[zzs] at hE
 repeat(obtain⟨J0,hE⟩:=hE)
 refine Uh (H':=(bx, .cells (zE 4 ws) [] 101):: (lr,Rr .normal):: (b2, .cells [.int .i64 0] [] 3):: (b1, .cells (zE 4 ws) [] 101)::H) ?_ Ks;refine zwz lr bx hw hg (fun pre G' H'=>G'=G∧pre=[]∧H'=(lr,Rr .normal):: (b2, .cells [.int .i64 0] [] 3):: (b1, .cells (zE 4 ws) [] 101)::H) (fun pre G' H'=>G'=G∧H'=(lr,Rr .ret):: (b2, .cells [.int .i64 (x:Nat)] [] 3):: (b1, .cells (zE 4 ws) [] 101)::H) ?_ ⟨rfl,rfl,rfl⟩ ?_
 ·rintro y _ _ N2 V0 ⟨rfl,Fd,rfl⟩ hy U3;have hE:=V0;try simp only[zzs] at hE
  repeat(obtain⟨J0,hE⟩:=hE)
  obtain rfl:y=x:=by
   rcases Sh y x with h|h|h
   ·rw[hmin y h] at U3;cases U3
   ·exact h
   ·have T1:x∈elems y ws:=List.mem_filter.2 ⟨List.mem_range.2 h,hm⟩;rw[Fd] at T1;cases T1
  refine yl rfl ?_ ?_
  ·simp -dsimp -implicitDefEqProofs (disch:=first|exact Kd|fail) only[go_sem,↓reduceIte,seval]
  ·repeat' first
    |with_reducible first|refine Zd ?_ |refine Ae (fun _=>?_) fun _=>?_ |refine Nb fun nb A0 C0 B0=>?_ |refine Nr fun nb D0 E0 A0 I0 C0 B0=>?_
    |simp -dsimp -implicitDefEqProofs (disch:=first|exact Kd|fail) only[go_sem,↓reduceIte,seval]
   exact⟨_,rfl, .inr rfl⟩
 ·rintro _ _ N2 V0 (⟨rfl,Fd,rfl⟩| ⟨_,rfl,rfl⟩)
  ·have T1:x∈elems 256 ws:=List.mem_filter.2 ⟨List.mem_range.2 hx,hm⟩;rw[Fd] at T1;cases T1
  ·have hE:=V0;try simp only[zzs] at hE
   repeat(obtain⟨J0,hE⟩:=hE)
   refine⟨.ret,?_,?_⟩
   ·simp -dsimp -implicitDefEqProofs (disch:=first|exact Kd|fail) only[go_sem,↓reduceIte,seval]
   ·repeat' first
     |with_reducible first|refine Zd ?_ |refine Ae (fun _=>?_) fun _=>?_ |refine Nb fun nb A0 C0 B0=>?_ |refine Nr fun nb D0 E0 A0 I0 C0 B0=>?_
     |simp -dsimp -implicitDefEqProofs (disch:=first|exact Kd|fail) only[go_sem,↓reduceIte,seval]
    all_goals refine De ?_ hR ?_
    any_goals first|exact Ks|skip
    rfl
theorem zp1 (W:List (Nat→Nat)) {k:Nat} (hk:k<W.length) (ws:Nat→Nat):zf (W.flatMap zae) (k * 4) (zE 4 ws)=(W.set k ws).flatMap zae:=by
 have hd:=zfY (enc:=zae) (m:=4) zaN W (k+1);have hl:=zag 4 ws
 have ht: ∀ (V:List (Nat→Nat)) (i:Nat),(V.flatMap zae).take (i * 4)=(V.take i).flatMap zae:=by
  intro V;induction V with
  |nil=>intro i;simp
  |cons v V ih=>
   intro i;cases i with
   |zero=>simp
   |succ i=>
    rw[Nh,List.take_succ_cons,Nh,show(i+1) * 4=(zae v).length+i * 4 by rw[zaN];omega,List.take_length_add_append,ih]
 unfold zf;rw[ht,hl,show k * 4+4=(k+1) * 4 by omega,hd,List.set_eq_take_append_cons_drop,if_pos hk,Ig,Nh];simp [zae]
def zex (l:List Int) (c:Nat) (W:List (Nat→Nat)):Prop:=
 W.length=(zl l).length∧(∀ws∈W,∀k,ws k<18446744073709551616)∧ ∀i d (hi:i<W.length),mem W[i] d=decide (d<c∧nD l d=i)
theorem zex.all {l:List Int} (hl:l.length=256) {W:List (Nat→Nat)} (h:zex l 256 W):zeq l 256 W:=by
 obtain⟨h1,h2,h3⟩:=h;have J2:l.take 256=l:=Pe Ko;unfold zeq;simp only[J2];refine⟨h1,h2,fun i d hi hd h4=>?_⟩;rw[h3 i d hi];refine decide_eq_decide.2 ?_;rw[zmn hd h4];exact⟨fun h=>h.2,fun h=>⟨by omega,h⟩⟩
theorem zex.zero (l:List Int):zex l 0 (Fe (zl l).length fun _=>0):=by
 refine⟨We,fun ws X6 k=>?_,fun i d hi=>?_⟩
 ·rw[(List.mem_replicate.1 X6).2];exact Nat.zero_lt_succ _
 ·rw[List.getElem_replicate,zj3,decide_eq_false Ko]
theorem zex.succ {l:List Int} (hl:l.length=256) {c:Nat} (hc:c<256) {W:List (Nat→Nat)} (h:zex l c W) {n:Nat} (hn:nD l c=n) (C1:n<W.length):zex l (c+1) (W.set n (zdv [W[n],zd6 c])):=by
 obtain⟨h1,h2,h3⟩:=h
 have hb: ∀f∈[W[n],zd6 c],∀k,f k<18446744073709551616:=fun f hf k=>by
  rcases List.mem_cons.1 hf with h|h
  ·rw[h];exact h2 _ (Me C1) k
  ·rw[List.mem_singleton.1 h];exact zqC c k
 refine⟨by rw[List.length_set];exact h1,fun ws X6 k=>?_,fun i d hi=>?_⟩
 ·rcases List.mem_or_eq_of_mem_set X6 with h|h
  ·exact h2 _ h k
  ·rw[h];exact zl5 hb k
 ·rw[List.length_set] at hi;rw[List.getElem_set];by_cases e:n=i
  ·subst e;rw[if_pos rfl];have hu:zdv [W[n],zd6 c]=zwv W[n] (zd6 c):=by funext k;show 0|||_|||_=_;rw[Nat.zero_or];rfl
   rw[hu,zwx,zww,h3 n d C1,Bool.eq_iff_iff];simp only[Bool.or_eq_true,decide_eq_true_eq];constructor
   ·rintro(⟨q1,q2⟩|q)
    ·exact⟨by omega,q2⟩
    ·subst q;exact⟨by omega,hn⟩
   ·rintro⟨q1,q2⟩;by_cases e:d=c
    ·exact .inr e
    ·exact .inl ⟨by omega,q2⟩
  ·rw[if_neg e,h3 i d hi];refine decide_eq_decide.2 ⟨fun q=>⟨by omega,q.2⟩,fun q=>⟨?_,q.2⟩⟩;rcases Eg d c with q1|q1
   ·exact q1
   ·obtain rfl:d=c:=by omega
    rw[hn] at q;omega
theorem zun (n:Nat):rep n [Yd .u64 0,Yd .u64 0,Yd .u64 0,Yd .u64 0]=(Fe n (fun _:Nat=>0)).flatMap zae:=by
 induction n with
 |zero=>rfl
 |succ n ih=>
  rw[List.replicate_succ,Nh,←ih];rfl
theorem zx8 {l:List Int} (hl:l.length=256) {G:zb} {H:za} {R:Value→zb→za→Prop}
  (hR: ∀G' v' W,PLe G G'→Sep G' (zm H)→SlM G' zae v' W→zeq l 256 W→R v' G' H):FnT Tryz.prog 79 [zb4 l] G H R:=by
 have F6:(u8L l).length=256:=by rw[Be,hl]
 have B2:Hf 256 (u8L l)=u8L l:=Pe Ko;have C1:(zd l).length=256:=by rw[zt,hl]
 have hu9:(u8L (zd l)).length=256:=by rw[Be,C1]
 have htk9:Hf 256 (u8L (zd l))=u8L (zd l):=Pe Ko;have Wa: ∀l:List Int,(u8L l).all zax=true:=fun l=>by rw[Mg];exact List.all_eq_true.2 fun _ _=>rfl
 have hov: ∀f:Nat→Int,zf (u8F f) 0 (u8L (zd l))=u8L (zd l):=fun f=>by rw[←zeG hl,zaA]
 have L3:=zZ l;refine Zf ?_;refine Ee tok zwk Tryz.func79 rfl Kk Kk Kn fun M0=>?_;rw[Tryz.results79];have hE:=M0;try simp only[zzs] at hE
 repeat(obtain⟨J0,hE⟩:=hE)
 repeat' first
  |with_reducible first|refine Zd ?_ |refine Ae (fun _=>?_) fun _=>?_ |refine Nb fun nb A0 C0 B0=>?_ |refine Nr fun nb D0 E0 A0 I0 C0 B0=>?_
  |simp -dsimp -implicitDefEqProofs (disch:=first|exact Kd|fail) only[go_sem,↓reduceIte,seval, -He,Ye,za5,zR,F6,B2]
  |with_reducible refine zlE hl ?_
 rename_i b1 R3 T8 B8 b3 hb3 hb31 hb32;revert nb;intro b5 hb5 hb51 hb52;rw[hov,zun,Nat.sub_self,show rep 0 [Yd .u64 0,Yd .u64 0,Yd .u64 0,Yd .u64 0]=[] from rfl];refine Je tok zwk Kk [2,3,5,15] (fun q G' fr H'=> ∃ (c:Nat) (W:List (Nat→Nat)),c+q=256∧G'=G∧zex l c W∧H'=(b5, .cells (W.flatMap zae) [] 101):: (b3, .cells (u8L (zd l)) [] 22):: (b1, .cells (u8L l) [] 22)::H∧fr=[(2, .slice none 0 0),(3, .pointer (some ⟨b3,0,none⟩)),(5, .slice (some ⟨b5,0,none⟩) (zl l).length (zl l).length),(15, .int .i64 (c:Nat))]) (256) ?_ ?_
 ·exact Ce ⟨0,_,by omega,rfl,zex.zero l,rfl,rfl⟩
 ·rintro q G1 fr H' S0 hs ⟨c,W,hc,rfl,hW,rfl,rfl⟩;have hE:=hs;try simp only[zzs] at hE
  repeat(obtain⟨J0,hE⟩:=hE)
  obtain⟨hW1,U8,hW3⟩:=id hW;have B9:=zbm (enc:=zae) (m:=4) zaN W;by_cases V2:c<256
  ·obtain⟨q1,q2⟩:=za9 (Me (l:=zd l) (n:=c) Ko);obtain⟨n,hn⟩:=Dg q1;have hnW:n<W.length:=by omega
   have I6:nD l c=n:=by unfold nD;rw[List.getD_eq_getElem?_getD,Xe Ko,←hn];rfl
   have E6:=zte (l:=zd l) (i:=c) Ko [];rw[Bf,hn] at E6;have Pc:=zgV (enc:=zae) (m:=4) zaN W n hnW;have Vd:Hf 4 (List.drop (n * 4) (W.flatMap zae))=zE 4 W[n]:=Pc;have hmul:(n+1) * 4≤W.length * 4:=Gh _ hnW;have Ea:IntKind.u8.wrap (c:Int)=(c:Int):=zea V2;have hS:=hW.succ hl V2 I6 hnW;have U1: ∀v:Value,Fe 1 v=[v]:=fun _=>rfl;have N6: ∀v:Value,Fe 8 v=[v,v,v,v,v,v,v,v]:=fun _=>rfl;have S5:=zag 4;obtain⟨Z,hZ⟩: ∃Z,Z=rep 2 [Yd .u64 0,Yd .u64 0,Yd .u64 0,Yd .u64 0]:=⟨_,rfl⟩;have hZl:Z.length=8:=by rw[hZ];rfl
   have hspl1: ∀f,zf Z 0 (zE 4 f)=zE 4 f++Z.drop 4:=fun f=>by unfold zf;rw[Se,Af,S5]
   have hspl2: ∀f g,zf (zE 4 f++Z.drop 4) 4 (zE 4 g)=[f,g].flatMap zae:=fun f g=>by
    unfold zf;rw[Tf (by rw[S5];omega),Pe (by rw[S5];omega),Gf (by rw[Ve,S5,S5,Of,hZl];omega)];simp [zae]
   have hspll: ∀f,(zE 4 f++Z.drop 4).length=8:=fun f=>by rw[Ve,S5,Of,hZl]
   repeat' first
    |with_reducible first|refine Zd ?_ |refine Ae (fun _=>?_) fun _=>?_ |refine Nb fun nb A0 C0 B0=>?_ |refine Nr fun nb D0 E0 A0 I0 C0 B0=>?_
    |simp -dsimp -implicitDefEqProofs (disch:=first|exact Kd|fail) only[go_sem,↓reduceIte,seval, -He,U1,Ye,hu9,E6,B9,Vd,S5,Ea,za0,Yf]
    |with_reducible refine Wg tok mixed zwk 7 [5] (.op 0 .plain (.op 1 .plain (.op 2 .plain (.op 3 .plain (.op 4 .plain (.op 5 .held (.op 6 .plain (.op 7 .plain (.op 8 .keeps (.op 9 .keeps (.op 10 .plain (.op 11 .keeps (.op 12 .plain (.op 13 .plain .nil)))))))))))))) Kk [(b5, .cells (W.flatMap zae) [] 101)] Ks ?_
   refine zAk (e:=5) V2 C0 (by simp [zq]) ?_
   repeat' first
    |with_reducible first|refine Zd ?_ |refine Ae (fun _=>?_) fun _=>?_ |refine Nb fun nb A0 C0 B0=>?_ |refine Nr fun nb D0 E0 A0 I0 C0 B0=>?_
    |simp -dsimp -implicitDefEqProofs (disch:=first|exact Kd|fail) only[go_sem,↓reduceIte,seval, -He,U1,N6,Ye,hu9,E6,B9,Vd,S5,Ea,za0,Yf,←hZ,hZl,hspl1,hspll,hspl2]
   refine zwy (l:=[W[n],zd6 c]) (e:=101) (sp:=[]) (by simp) (fun f hf=>?_) Ka (by simp [zq]) ?_
   ·rcases List.mem_cons.1 hf with h|h
    ·rw[h];exact U8 _ (Me hnW)
    ·rw[List.mem_singleton.1 h];exact zqC c
   have hfl2:=zbm (enc:=zae) (m:=4) zaN (W.set n (zdv [W[n],zd6 c]));have hspf:=zp1 W hnW (zdv [W[n],zd6 c])
   repeat' first
    |with_reducible first|refine Zd ?_ |refine Ae (fun _=>?_) fun _=>?_ |refine Nb fun nb A0 C0 B0=>?_ |refine Nr fun nb D0 E0 A0 I0 C0 B0=>?_
    |simp -dsimp -implicitDefEqProofs (disch:=first|exact Kd|fail) only[go_sem,↓reduceIte,seval, -He,Ye,B9,S5,za0,hspf]
   exact Oe (H':=(b5, .cells ((W.set n (zdv [W[n],zd6 c])).flatMap zae) [] 101):: (b3, .cells (u8L (zd l)) [] 22):: (b1, .cells (u8L l) [] 22)::H) Ks (Ce ⟨q - 1,by omega,c+1,_,by omega,rfl,hS,rfl,rfl⟩)
  ·obtain rfl:c=256:=by omega
   repeat' first
    |with_reducible first|refine Zd ?_ |refine Ae (fun _=>?_) fun _=>?_ |refine Nb fun nb A0 C0 B0=>?_ |refine Nr fun nb D0 E0 A0 I0 C0 B0=>?_
    |simp -dsimp -implicitDefEqProofs (disch:=first|exact Kd|fail) only[go_sem,↓reduceIte,seval, -He]
   unfold zo;refine Oe (H':=(b5, .cells (W.flatMap zae) [] 101)::H) Ks (Jf Ka fun G2 Q0 R0 V1=>?_);exact fun _ hs=>hR G2 _ W Q0 hs ⟨some ⟨b5,0,none⟩,_,by rw[hW1],V1,by omega⟩ (hW.all hl)
def zan (l:List Int):List Int:=(zl l).map (zw l)
theorem zey (l:List Int):(zan l).length=(zl l).length:=by simp [zan]
theorem zoT {l:List Int} (hl:l.length=256) {W:List (Nat→Nat)} (hW:zeq l 256 W) {i:Nat} (hi:i<W.length): ∃ (x:Nat) (h:i< (zan l).length),(zan l)[i]=(x:Nat)∧x<256∧mem W[i] x=true∧ ∀y,y<x→mem W[i] y=false:=by
 obtain⟨h1,h2,h3⟩:=hW;have J2:l.take 256=l:=Pe Ko;simp only[J2] at h1 h3;have hit:i< (zl l).length:=by omega
 have T1:(zl l)[i]∈l:=(zK l).1 (Me hit);obtain⟨x,hx⟩:=zaf T1;obtain⟨J7,N5⟩:=zaa hx;rw[Xe J7,Option.some.injEq] at N5;refine⟨x,by rw[zey];exact hit,by simp only[zan,Le];exact zB hx,by omega,?_,fun y hy=>?_⟩
 ·rw[h3 i x hi J7 hit];exact decide_eq_true N5
 ·rw[h3 i y hi Ko hit];refine decide_eq_false fun e=>?_;unfold place at hx;rw[Cf] at hx;obtain⟨h5,h6,h7⟩:=hx;have:=h7 y hy;simp only[e,decide_true,not_true_eq_false] at this
theorem zmT {l:List Int} {i:Nat} (h:i<l.length):(l.take (i+1)).map (Yd .u8)=(l.take i).map (Yd .u8)++[Yd .u8 l[i]]:=by
 rw[Re h,Ke];rfl
theorem zuo {l:List Int} (hl:l.length=256) {G:zb} {H:za} {R:Value→zb→za→Prop} (hg:zcK G)
  (hR: ∀G' v',PLe G G'→Sep G' (zm H)→Sl G' (Yd .u8) v' (zan l)→R v' G' H):FnT Tryz.prog 48 [zb4 l] G H R:=by
 have F6:(u8L l).length=256:=by rw[Be,hl]
 have B2:Hf 256 (u8L l)=u8L l:=Pe Ko;have Wa: ∀l:List Int,(u8L l).all zax=true:=fun l=>by rw[Mg];exact List.all_eq_true.2 fun _ _=>rfl
 have R6:=zey l;have L3:=zZ l;refine Zf ?_;refine Ee tok zy2 Tryz.func48 rfl Kk Kk Kn fun M0=>?_;rw[Tryz.results48];have hE:=M0;try simp only[zzs] at hE
 repeat(obtain⟨J0,hE⟩:=hE)
 repeat' first
  |with_reducible first|refine Zd ?_ |refine Ae (fun _=>?_) fun _=>?_ |refine Nb fun nb A0 C0 B0=>?_ |refine Nr fun nb D0 E0 A0 I0 C0 B0=>?_
  |simp -dsimp -implicitDefEqProofs (disch:=first|exact Kd|fail) only[go_sem,↓reduceIte,seval, -He,Ye,za5,zR,F6,B2]
 revert nb;intro b1 R3 T8 B8;refine zx8 hl fun G2 v2 W Q0 R0 D3 hW=>?_;obtain⟨a,cap,rfl,U0,D5⟩:=D3
 have hWl:W.length=(zl l).length:=by
  have:=hW.1
  rwa [Pe Ko] at this
 have P2:=hg.mono Q0;have hE:=R0;try simp only[zzs] at hE
 repeat(obtain⟨J0,hE⟩:=hE)
 repeat' first
  |with_reducible first|refine Zd ?_ |refine Ae (fun _=>?_) fun _=>?_ |refine Nb fun nb A0 C0 B0=>?_ |refine Nr fun nb D0 E0 A0 I0 C0 B0=>?_
  |simp -dsimp -implicitDefEqProofs (disch:=first|exact Kd|fail) only[go_sem,↓reduceIte,seval, -He,Ye]
 refine Je tok zy2 Kk [2,3,7,8,9] (fun q G' fr H'=> ∃ (i:Nat) (v:Value) (kb:za),i+q=W.length∧G'=G2∧zO [] 5 1 v i ((zan l).take i |>.map (Yd .u8)) kb∧H'=(b1, .cells (u8L l) [] 22):: (kb++H)∧fr=[(2, .slice none 0 0),(3,v),(7, .slice a W.length cap),(8, .int .i64 W.length),(9, .int .i64 i)]) (W.length) ?_ ?_
 ·exact Ce ⟨0,_,[],by omega,rfl, .inl ⟨none,rfl,rfl,rfl,rfl⟩,rfl,rfl⟩
 ·rintro q G1 fr H' S0 hs ⟨i,v,kb,hi,rfl,hv,rfl,rfl⟩;by_cases Y0:i<W.length
  ·have B3:Adr a:=U0.adr (by rw[zbm zaN];omega);obtain⟨x,J7,N5,hx3,hx4,hx5⟩:=zoT hl hW Y0;have I1:=zmT J7;rw[N5] at I1;have hx8:IntKind.u8.wrap (x:Int)=(x:Int):=zea hx3;have X6:=hW.2.1 _ (Me Y0);have S5:=zag 4;have U1: ∀v:Value,Fe 1 v=[v]:=fun _=>rfl;have O8:zae=zE 4:=rfl;have J2:((zan l).take i).length=i:=by rw[Ge];omega
   rcases hv with ⟨a0,rfl,hn,hx,rfl⟩| ⟨b2,c2,sp,rfl,rfl,hx,hc⟩
   ·have hE:=hs;try simp only[zzs] at hE
    repeat(obtain⟨J0,hE⟩:=hE)
    repeat' first
     |with_reducible first|refine Zd ?_ |refine Ae (fun _=>?_) fun _=>?_ |refine Nb fun nb A0 C0 B0=>?_ |refine Nr fun nb D0 E0 A0 I0 C0 B0=>?_
     |simp -dsimp -implicitDefEqProofs (disch:=first|exact Kd|fail) only[go_sem,↓reduceIte,seval, -He,U1,Ye,Row.objsM U0 zaN (by decide) Y0,O8,S5,za0,zbF,zaZ,hx8]
     |with_reducible refine zoS X6 hx3 hx4 hx5 P2 ?_
    have T2:((zan l).take (i+1)).map (Yd .u8)=[Yd .u8 (x:Nat)]:=by rw[I1,hx];rfl
    rw[←T2];have Ra:((zan l).take (i+1)).length=i+1:=by rw[Ge];omega
    exact Oe (H':=(b1, .cells (u8L l) [] 22):: ([(nb, .cells (((zan l).take (i+1)).map (Yd .u8)) D0 5)]++H)) Ks (Ce ⟨q - 1,by omega,i+1, .slice (some ⟨nb,0,none⟩) (i+1) E0,[_],by omega,rfl, .inr ⟨nb,E0,D0,rfl,rfl,by rw[Be,Ra,Gg],by rw[T2];simp at I0⊢;omega⟩,rfl,by obtain rfl:i=0:=hn;rfl⟩)
   ·have hE:=hs;try simp only[zzs] at hE
    repeat(obtain⟨J0,hE⟩:=hE)
    repeat' first
     |with_reducible first|refine Zd ?_ |refine Ae (fun _=>?_) fun _=>?_ |refine Nb fun nb A0 C0 B0=>?_ |refine Nr fun nb D0 E0 A0 I0 C0 B0=>?_
     |simp -dsimp -implicitDefEqProofs (disch:=first|exact Kd|fail) only[go_sem,↓reduceIte,seval, -He,U1,Ye,Row.objsM U0 zaN (by decide) Y0,O8,S5,za0,zbF,zaZ,hx8,Be]
     |with_reducible refine zoS X6 hx3 hx4 hx5 P2 ?_
    have Ra:((zan l).take (i+1)).length=i+1:=by rw[Ge];omega
    rw[←I1];exact Oe (H':=(b1, .cells (u8L l) [] 22):: ([(nb, .cells (((zan l).take (i+1)).map (Yd .u8)) D0 5)]++H)) Ks (Ce ⟨q - 1,by omega,i+1, .slice (some ⟨nb,0,none⟩) (i+1) E0,[_],by omega,rfl, .inr ⟨nb,E0,D0,rfl,rfl,by rw[Be,Ra,Gg],by rw[Be,Ra];simp [J2] at I0⊢;omega⟩,rfl,rfl⟩)
  ·obtain rfl:i=W.length:=by omega
   have R4:(zan l).take W.length=zan l:=Pe Ko;rw[R4] at hv
   repeat' first
    |with_reducible first|refine Zd ?_ |refine Ae (fun _=>?_) fun _=>?_ |refine Nb fun nb A0 C0 B0=>?_ |refine Nr fun nb D0 E0 A0 I0 C0 B0=>?_
    |simp -dsimp -implicitDefEqProofs (disch:=first|exact Kd|fail) only[go_sem,↓reduceIte,seval]
   unfold zo;refine Oe (H':=kb++H) Ks ?_;rcases hv with ⟨a0,rfl,hn,hx,rfl⟩| ⟨b2,c2,sp,rfl,rfl,hx,hc⟩
   ·have A9:zan l=[]:=Df Ko;rw[A9] at hR;refine Ce ?_;exact fun S0 hs=>hR _ _ Q0 hs ⟨a0,0,rfl,Row.nil _ _,Qe _⟩
   ·have hE:=hs;try simp only[zzs] at hE
    repeat(obtain⟨J0,hE⟩:=hE)
    refine Jf Ka fun G3 A1 K1 D2=>?_;exact fun S0 hs=>hR _ _ (Q0.trans A1) hs ⟨some ⟨b2,0,none⟩,c2,by rw[R6,←hWl],D2,by rw[Be] at hx hc;omega⟩
theorem zwA {ws:Nat→Nat} (hw: ∀k,ws k<18446744073709551616) {x:Nat} (hx:x<256) (hm:mem ws x=true) (hmin: ∀y,y<x→mem ws y=false) {G:zb} {H:za} {R:Value→zb→za→Prop}
  (hR:R (.int .i64 (x:Nat)) G H):FnT Tryz.prog 117 [.agg (zE 4 ws).toArray] G H R:=by
 have hl:=zag 4 ws;refine Ee tok zy3 Tryz.func117 rfl Kk Kk Kn fun M0=>?_;rw[Tryz.results117];have hE:=M0;try simp only[zzs] at hE
 repeat(obtain⟨J0,hE⟩:=hE)
 repeat' first
  |with_reducible first|refine Zd ?_ |refine Ae (fun _=>?_) fun _=>?_ |refine Nb fun nb A0 C0 B0=>?_
  |simp -dsimp -implicitDefEqProofs (disch:=first|exact Kd|fail) only[go_sem,↓reduceIte,seval,hl,zaZ,za0,zbF,zdN,Ye]
 refine Je tok zy3 Kk [1,3] (fun q G' fr H'=> ∃ (y:Nat),y+q=x+1∧y≤x∧G'=G∧H'=(nb, .cells (zE 4 ws) [] 101)::H∧fr=[(1, .pointer (some ⟨nb,0,none⟩)),(3, .int .i64 (y:Nat))]) ((x+1)) ?_ ?_
 ·exact Ce ⟨0,by omega,by omega,rfl,rfl,rfl⟩
 ·rintro q G1 fr H' S0 V0 ⟨y,hy,hyx,rfl,rfl,rfl⟩;have hE:=V0;try simp only[zzs] at hE
  repeat(obtain⟨J0,hE⟩:=hE)
  by_cases e:y=x
  ·subst e
   repeat' first
    |with_reducible first|refine Zd ?_ |refine Ae (fun _=>?_) fun _=>?_ |refine Nb fun nb A0 C0 B0=>?_
    |simp -dsimp -implicitDefEqProofs (disch:=first|exact Kd|fail) only[go_sem,↓reduceIte,seval,hl,zaZ,hm,Ye]
    |with_reducible refine zkW ws hw y Ko ?_
   all_goals refine De ?_ hR ?_
   any_goals first|exact Ks|skip
   rfl
  ·have B1:=hmin y Ko
   repeat' first
    |with_reducible first|refine Zd ?_ |refine Ae (fun _=>?_) fun _=>?_ |refine Nb fun nb A0 C0 B0=>?_
    |simp -dsimp -implicitDefEqProofs (disch:=first|exact Kd|fail) only[go_sem,↓reduceIte,seval,hl,zaZ,B1,Ye]
    |with_reducible refine zkW ws hw y Ko ?_
   exact Ce ⟨q - 1,by omega,y+1,by omega,by omega,rfl,rfl,rfl⟩
theorem zsn {l:List Int} (hl:l.length=256) (D9: ∀x∈l,0≤x∧x≤255) {G:zb} {H:za} {R:Value→zb→za→Prop}
  (hR: ∀G' v',PLe G G'→Sep G' (zm H)→Sl G' (Yd .u8) v' (zan l)→R v' G' H):FnT Tryz.prog 78 [zb4 l] G H R:=by
 have F6:(u8L l).length=256:=by rw[Be,hl]
 have B2:Hf 256 (u8L l)=u8L l:=Pe Ko;have R6:=zey l;have L3:=zZ l;refine Zf ?_;refine Ee tok zlW Tryz.func78 rfl Kk Kk Kn fun M0=>?_;rw[Tryz.results78];have hE:=M0;try simp only[zzs] at hE
 repeat(obtain⟨J0,hE⟩:=hE)
 repeat' first
  |with_reducible first|refine Zd ?_ |refine Ae (fun _=>?_) fun _=>?_ |refine Nb fun nb A0 C0 B0=>?_ |refine Nr fun nb D0 E0 A0 I0 C0 B0=>?_
  |simp -dsimp -implicitDefEqProofs (disch:=first|exact Kd|fail) only[go_sem,↓reduceIte,seval, -He,Ye,za5,zR,F6,B2]
 rename_i b1 R3 T8 B8;revert nb;intro b0 hb0 hb01 hb02;refine ztn hl D9 fun G2 v2 W Q0 R0 D3 hW=>?_;obtain⟨a,cap,rfl,U0,D5⟩:=D3
 have hWl:W.length=(zl l).length:=by
  have:=hW.1
  rwa [Pe Ko] at this
 have hE:=R0;try simp only[zzs] at hE
 repeat(obtain⟨J0,hE⟩:=hE)
 repeat' first
  |with_reducible first|refine Zd ?_ |refine Ae (fun _=>?_) fun _=>?_ |refine Nb fun nb A0 C0 B0=>?_ |refine Nr fun nb D0 E0 A0 I0 C0 B0=>?_
  |simp -dsimp -implicitDefEqProofs (disch:=first|exact Kd|fail) only[go_sem,↓reduceIte,seval, -He,Ye]
 refine Je tok zlW Kk [2,3,4,5] (fun q G' fr H'=> ∃ (i b2 c2:Nat) (sp:List Value),i+q=W.length∧G'=G2∧i+sp.length=c2∧H'=(b2, .cells ((zan l).take i |>.map (Yd .u8)) sp 5):: (b1, .cells (u8L l) [] 22)::H∧fr=[(2, .slice none 0 0),(3, .slice (some ⟨b2,0,none⟩) i c2),(4, .slice a W.length cap),(5, .int .i64 i)]) (W.length) ?_ ?_
 ·exact Ce ⟨0,b0,0,[],by omega,rfl,rfl,rfl,rfl⟩
 ·rintro q G1 fr H' S0 hs ⟨i,b2,c2,sp,hi,rfl,Ja,rfl,rfl⟩;have hE:=hs;try simp only[zzs] at hE
  repeat(obtain⟨J0,hE⟩:=hE)
  have J2:i≤W.length→((zan l).take i).length=i:=fun h=>by rw[Ge];omega
  by_cases Y0:i<W.length
  ·have B3:Adr a:=U0.adr (by rw[zbm zaN];omega);obtain⟨x,J7,N5,hx3,hx4,hx5⟩:=zoT hl hW Y0;have I1:=zmT J7;rw[N5] at I1;have hx8:IntKind.u8.wrap (x:Int)=(x:Int):=zea hx3;have X6:=hW.2.1 _ (Me Y0);have S5:=zag 4;have U1: ∀v:Value,Fe 1 v=[v]:=fun _=>rfl;have O8:zae=zE 4:=rfl;have Ib:=J2 Ko;have Ra:((zan l).take (i+1)).length=i+1:=by rw[Ge];omega
   repeat' first
    |with_reducible first|refine Zd ?_ |refine Ae (fun _=>?_) fun _=>?_ |refine Nb fun nb A0 C0 B0=>?_ |refine Nr fun nb D0 E0 A0 I0 C0 B0=>?_
    |simp -dsimp -implicitDefEqProofs (disch:=first|exact Kd|fail) only[go_sem,↓reduceIte,seval, -He,U1,Ye,Row.objsM U0 zaN (by decide) Y0,O8,S5,za0,zbF,zaZ,hx8,Be,Ib]
    |with_reducible refine zwA X6 hx3 hx4 hx5 ?_
   rw[←I1];exact Oe (H':=(nb, .cells (((zan l).take (i+1)).map (Yd .u8)) D0 5):: (b1, .cells (u8L l) [] 22)::H) Ks (Ce ⟨q - 1,by omega,i+1,nb,E0,D0,by omega,rfl,by omega,rfl,rfl⟩)
  ·obtain rfl:i=W.length:=by omega
   have R4:(zan l).take W.length=zan l:=Pe Ko;rw[R4]
   repeat' first
    |with_reducible first|refine Zd ?_ |refine Ae (fun _=>?_) fun _=>?_ |refine Nb fun nb A0 C0 B0=>?_ |refine Nr fun nb D0 E0 A0 I0 C0 B0=>?_
    |simp -dsimp -implicitDefEqProofs (disch:=first|exact Kd|fail) only[go_sem,↓reduceIte,seval]
   unfold zo;refine Oe (H':=(b2, .cells ((zan l).map (Yd .u8)) sp 5)::H) Ks (Jf Ka fun G3 A1 K1 D2=>?_);exact fun S0 hs=>hR _ _ (Q0.trans A1) hs ⟨some ⟨b2,0,none⟩,c2,by rw[R6,←hWl],D2,by omega⟩
theorem hes:zfa T 9 str:=zrz (T:=T) (t:=9) rfl
theorem zzb {l:List (List UInt8)} (X1:l.length≤2000000) {fid:FuncId} {XC:List Value} {tyX:TypeId} {b1:Nat} {G:zb} {H:za} {R:Value→zb→za→Prop}
  (Hb: ∀i (hi:i<l.length) (H1:za) (R1:Value→zb→za→Prop),G b1=none→zq H1 b1=some (.cells XC [] tyX)→R1 (str l[i]) G H1→FnT Tryz.prog fid [.int .i64 (i:Nat), .pointer (some ⟨b1,0,none⟩)] G H1 R1)
  (hR: ∀G' v,PLe G G'→Sep G' (zm H)→Sl G' (Yd .i64) v (zd l)→R v G' H):FnT Tryz.prog 137 [.int .i64 l.length, .func (.func fid) #[] #[.pointer (some ⟨b1,0,none⟩)]] G ((b1, .cells XC [] tyX)::H) R:=by
 refine Zf ?_;refine Ee tok kp0 Tryz.func137 rfl Kk Kk Kn fun M0=>?_;rw[Tryz.results137];have hE:=M0;try simp only[zzs] at hE
 repeat(obtain⟨J0,hE⟩:=hE)
 repeat' first
  |with_reducible first|refine Zd ?_ |refine Ae (fun _=>?_) fun _=>?_ |refine zaF.mk (fun _ _=>?_) fun _=>?_ |refine Nb fun nb A0 C0 B0=>?_ |refine Nr fun nb D0 E0 A0 I0 C0 B0=>?_
  |simp -dsimp -implicitDefEqProofs (disch:=first|exact Kd|fail) only[go_sem,↓reduceIte,seval]
 revert nb;intro bm hbm hbm1 hbm2;refine Je tok kp0 Kk [0,1,4,5,6,12,13] (fun q G' fr H'=> ∃ (i:Nat) (v:Value) (kb:za),i+q=l.length∧G'=G∧zO [] 3 1 v i ((zd (l.take i)).map (Yd .i64)) kb∧H'=(bm, .map ((zb3 0 (zl (l.take i))).map fun p=>(str p.1,Yd .i64 p.2))):: (b1, .cells XC [] tyX):: (kb++H)∧fr=[(0, .int .i64 l.length),(1, .func (.func fid) #[] #[.pointer (some ⟨b1,0,none⟩)]),(4, .slice none 0 0),(5, .map (some bm)),(6,v),(12, .int .i64 l.length),(13, .int .i64 i)]) (l.length) ?_ ?_
 ·exact Ce ⟨0,_,[],by omega,rfl, .inl ⟨none,rfl,rfl,rfl,rfl⟩,rfl,rfl⟩
 ·rintro q G1 fr H' S0 hs ⟨i,v,kb,hi,rfl,hv,rfl,rfl⟩;have C1:(zd (l.take i)).length=i:=by rw[zt,Ge];omega
  have L3:=zZ (l.take i);rw[Ge] at L3;by_cases Y0:i<l.length
  ·have B2:=Re Y0;rcases hp:place (zl (l.take i)) l[i] with _|n
   ·have I4:=zcw hp;have hpe:=zfb (zdB hp);rw[←B2] at I4;rcases hv with ⟨a0,rfl,hn,hx,rfl⟩| ⟨b2,c2,sp,rfl,rfl,hx,hc⟩
    ·have hE:=hs;try simp only[zzs] at hE
     repeat(obtain⟨J0,hE⟩:=hE)
     repeat' first
      |with_reducible first|refine Zd ?_ |refine Ae (fun _=>?_) fun _=>?_ |refine zaF.mk (fun _ _=>?_) fun _=>?_ |refine Nb fun nb A0 C0 B0=>?_ |refine Nr fun nb D0 E0 A0 I0 C0 B0=>?_
      |simp -dsimp -implicitDefEqProofs (disch:=first|exact Kd|fail) only[go_sem,↓reduceIte,seval,zck hes (Yd .i64),zcl hes,zcm,Ze,zcO hes (Yd .i64),zdi,hp,hpe,Be,zcQ]
      |with_reducible refine Hb i Y0 _ _ Ka ?_ ?_
     have T2:(zd (l.take (i+1))).map (Yd .i64)=[Yd .i64 (zl (l.take i)).length]:=by rw[I4.2,Ke,hx];rfl
     rw[←I4.1,←T2];refine Oe (H':=(bm, .map ((zb3 0 (zl (l.take (i+1)))).map fun p=>(str p.1,Yd .i64 p.2))):: (b1, .cells XC [] tyX):: ([(nb, .cells ((zd (l.take (i+1))).map (Yd .i64)) D0 3)]++H)) Ks (Ce ⟨q - 1,by omega,i+1, .slice (some ⟨nb,0,none⟩) (i+1) E0,[_],by omega,rfl, .inr ⟨nb,E0,D0,rfl,rfl,by rw[T2];simp [hn],by rw[T2];simp at I0⊢;omega⟩,rfl,by obtain rfl:i=0:=hn;rfl⟩)
    ·have hE:=hs;try simp only[zzs] at hE
     repeat(obtain⟨J0,hE⟩:=hE)
     repeat' first
      |with_reducible first|refine Zd ?_ |refine Ae (fun _=>?_) fun _=>?_ |refine zaF.mk (fun _ _=>?_) fun _=>?_ |refine Nb fun nb A0 C0 B0=>?_ |refine Nr fun nb D0 E0 A0 I0 C0 B0=>?_
      |simp -dsimp -implicitDefEqProofs (disch:=first|exact Kd|fail) only[go_sem,↓reduceIte,seval,zck hes (Yd .i64),zcl hes,zcm,Ze,zcO hes (Yd .i64),zdi,hp,hpe,Be,zcQ]
      |with_reducible refine Hb i Y0 _ _ Ka ?_ ?_
     have T2:(zd (l.take (i+1))).map (Yd .i64)=(zd (l.take i)).map (Yd .i64)++[Yd .i64 (zl (l.take i)).length]:=by rw[I4.2,Ke];rfl
     rw[←I4.1,←T2];refine Oe (H':=(bm, .map ((zb3 0 (zl (l.take (i+1)))).map fun p=>(str p.1,Yd .i64 p.2))):: (b1, .cells XC [] tyX):: ([(nb, .cells ((zd (l.take (i+1))).map (Yd .i64)) D0 3)]++H)) Ks (Ce ⟨q - 1,by omega,i+1, .slice (some ⟨nb,0,none⟩) (i+1) E0,[_],by omega,rfl, .inr ⟨nb,E0,D0,rfl,rfl,by rw[T2];simp [C1],by rw[T2];simp [C1] at I0⊢;omega⟩,rfl,rfl⟩)
   ·have I4:=zcS hp;rw[←B2] at I4;have Z8:i≠0:=fun e=>by subst e;rw[Se,zhJ,zmi] at hp;cases hp
    rcases hv with ⟨a0,rfl,hn,hx,rfl⟩| ⟨b2,c2,sp,rfl,rfl,hx,hc⟩
    ·exact absurd hn Z8
    ·have hE:=hs;try simp only[zzs] at hE
     repeat(obtain⟨J0,hE⟩:=hE)
     repeat' first
      |with_reducible first|refine Zd ?_ |refine Ae (fun _=>?_) fun _=>?_ |refine zaF.mk (fun _ _=>?_) fun _=>?_ |refine Nb fun nb A0 C0 B0=>?_ |refine Nr fun nb D0 E0 A0 I0 C0 B0=>?_
      |simp -dsimp -implicitDefEqProofs (disch:=first|exact Kd|fail) only[go_sem,↓reduceIte,seval,zck hes (Yd .i64),zcl hes,zcm,Ze,zcO hes (Yd .i64),zdi,hp,Be,zcQ]
      |with_reducible refine Hb i Y0 _ _ Ka ?_ ?_
     have T2:(zd (l.take (i+1))).map (Yd .i64)=(zd (l.take i)).map (Yd .i64)++[Yd .i64 n]:=by rw[I4.2,Ke];rfl
     rw[←I4.1,←T2];refine Oe (H':=(bm, .map ((zb3 0 (zl (l.take (i+1)))).map fun p=>(str p.1,Yd .i64 p.2))):: (b1, .cells XC [] tyX):: ([(nb, .cells ((zd (l.take (i+1))).map (Yd .i64)) D0 3)]++H)) Ks (Ce ⟨q - 1,by omega,i+1, .slice (some ⟨nb,0,none⟩) (i+1) E0,[_],by omega,rfl, .inr ⟨nb,E0,D0,rfl,rfl,by rw[T2];simp [C1],by rw[T2];simp [C1] at I0⊢;omega⟩,rfl,rfl⟩)
  ·obtain rfl:i=l.length:=by omega
   rw[Te] at hv⊢
   repeat' first
    |with_reducible first|refine Zd ?_ |refine Ae (fun _=>?_) fun _=>?_ |refine zaF.mk (fun _ _=>?_) fun _=>?_ |refine Nb fun nb A0 C0 B0=>?_ |refine Nr fun nb D0 E0 A0 I0 C0 B0=>?_
    |simp -dsimp -implicitDefEqProofs (disch:=first|exact Kd|fail) only[go_sem,↓reduceIte,seval]
   unfold zo;refine Oe (H':=kb++H) Ks ?_;rcases hv with ⟨a0,rfl,hn,hx,rfl⟩| ⟨b2,c2,sp,rfl,rfl,hx,hc⟩
   ·have A9:l=[]:=Df hn;subst A9;refine Ce ?_;exact fun S0 hs=>hR _ _ (PLe.refl _) hs ⟨a0,0,rfl,Row.nil _ _,Qe _⟩
   ·have hE:=hs;try simp only[zzs] at hE
    repeat(obtain⟨J0,hE⟩:=hE)
    refine Jf Ka fun G2 Q0 R0 V1=>?_;exact fun S0 hs=>hR _ _ Q0 hs ⟨some ⟨b2,0,none⟩,c2,by rw[zt],V1,by rw[zt];rw[Be,zt] at hx hc;omega⟩
def b3 (n:Nat):List UInt8:=[UInt8.ofNat n,UInt8.ofNat (n / 256),UInt8.ofNat (n / 65536)]
def zdw (d:DfaT) (k s:Nat):List UInt8:=(d.next.take s).flatMap fun r=>b3 (atL r k).toNat
def zeT (d:DfaT) (k:Nat):List UInt8:=zdw d k d.next.length
theorem zef (d:DfaT) (k:Nat) {s:Nat} (h:s<d.next.length):zdw d k (s+1)=zdw d k s++b3 (atL d.next[s] k).toNat:=by
 unfold zdw;rw[Re h,Ig];simp
theorem zib (d:DfaT) (k:Nat): ∀s,s≤d.next.length→(zdw d k s).length=3 * s
 |0,_=>by simp [zdw]
 |s+1,h=>by rw[zef d k Ko,Ve,zib d k s Ko];simp [b3];omega
theorem zzc {n m:Nat} (hn:n<16777216) (hm:m<16777216) (h:b3 n=b3 m):n=m:=by
 unfold b3 at h;simp only[List.cons.injEq,and_true] at h;obtain⟨h1,h2,h3⟩:=h;have g1:=congrArg UInt8.toNat h1;have g2:=congrArg UInt8.toNat h2;have g3:=congrArg UInt8.toNat h3;simp only[Sg] at g1 g2 g3;omega
theorem zoU {d:DfaT} {k k':Nat} (hs: ∀s (h:s<d.next.length),(atL d.next[s] k).toNat<16777216∧(atL d.next[s] k').toNat<16777216): ∀n,n≤d.next.length→(zdw d k n=zdw d k' n↔ ∀s (h:s<d.next.length),s<n→(atL d.next[s] k).toNat=(atL d.next[s] k').toNat)
 |0,_=>⟨fun _ s _ h=>by omega,fun _=>rfl⟩
 |n+1,hn=>by
  have ih:=zoU hs n Ko;rw[zef d k Ko,zef d k' Ko];constructor
  ·intro h;have hl:(zdw d k n).length=(zdw d k' n).length:=by rw[zib d k n Ko,zib d k' n Ko]
   obtain⟨h1,h2⟩:=List.append_inj h hl;intro s V0 I1;by_cases e:s=n
   ·subst e;exact zzc (hs s V0).1 (hs s V0).2 h2
   ·exact ih.1 h1 s V0 Ko
  ·intro h;rw[ih.2 fun s h1 h2=>h s h1 Ko,h n Ko Ko]
theorem zoV (n:Nat):IntKind.u8.wrap (n:Int)=((UInt8.ofNat n).toNat:Int):=by
 rw[Sg];simp only[IntKind.wrap,IntKind.bits,IntKind.signed];simp
theorem zAl {d:DfaT} (P0:zr d) (K0:zg d) {C:List Value} {an al ay:Option Addr} {cn cl cs:Nat} {rs:List Value} {G:zb} (O:OpenD G d C an al ay cn cl cs rs) {b1:Nat} {k:Nat} (hk:(k:Int) <d.width)
  {H:za} {R:Value→zb→za→Prop} (hg:G b1=none) (hf:zq H b1=some (.cells C [] 27)) (hR:R (str (zeT d k)) G H):FnT Tryz.prog 138 [.int .i64 (k:Nat), .pointer (some ⟨b1,0,none⟩)] G H R:=by
 obtain⟨Y2,K2,U2,N3,X3,Y3,Y1⟩:=id K0;have N0:=O.len;have J1:=O.n;have La:=O.rnl;refine Zf ?_;refine Ee tok zwl Tryz.func138 rfl Kk Kk Kn fun M0=>?_;rw[Tryz.results138];have hE:=M0;try simp only[zzs] at hE
 repeat(obtain⟨J0,hE⟩:=hE)
 repeat' first
  |with_reducible first|refine Zd ?_ |refine Ae (fun _=>?_) fun _=>?_ |refine Nb fun nb A0 C0 B0=>?_ |refine Nr fun nb D0 E0 A0 I0 C0 B0=>?_
  |simp -dsimp -implicitDefEqProofs (disch:=first|exact Kd|fail) only[go_sem,↓reduceIte,seval, -He,hf,N0,J1,Wh]
 have P3:=zU.neFind B0 hf
 repeat' first
  |with_reducible first|refine Zd ?_ |refine Ae (fun _=>?_) fun _=>?_ |refine Nb fun nb A0 C0 B0=>?_ |refine Nr fun nb D0 E0 A0 I0 C0 B0=>?_
  |simp -dsimp -implicitDefEqProofs (disch:=first|exact Kd|fail) only[go_sem,↓reduceIte,seval, -He,hf,N0,J1,Wh]
 refine Je tok zwl Kk [0,1,3,4,13,14,15] (fun q G' fr H'=> ∃ (s br c:Nat) (sp:List Value),s+q=d.next.length∧3 * s+sp.length=c∧G'=G∧H'=(br, .cells ((zdw d k s).map zp) sp 5)::H∧fr=[(0, .int .i64 (k:Nat)),(1, .pointer (some ⟨b1,0,none⟩)),(3, .string ⟨#[]⟩),(4, .slice (some ⟨br,0,none⟩) (3 * s) c),(13, .slice an d.next.length cn),(14, .int .i64 (d.next.length:Nat)),(15, .int .i64 (s:Nat))]) (d.next.length) ?_ ?_
 ·refine Ce ?_;exact⟨0,nb,_,_,by omega,by rw[We];omega,rfl,rfl,rfl⟩
 ·rintro q G1 fr H' S0 V0 ⟨s,br,c,sp,hsq,hc,rfl,rfl,rfl⟩;have hE:=V0;try simp only[zzs] at hE
  repeat(obtain⟨J0,hE⟩:=hE)
  have V2:=zib d k s Ko;have X4:((zdw d k s).map zp).length=3 * s:=by rw[Be,V2]
  by_cases I1:s<d.next.length
  ·have B3:Adr an:=O.rn.adr Ko;obtain⟨b,cc,e1,e2,e3⟩:=O.rs s I1 Ko;obtain⟨E5,F7,C8,D6⟩:=Y1 s I1 Ko;have I2:=P0.2.1 _ (Me I1);have D7:k< (d.next[s]).length:=by omega
   have V6:Adr b:=e2.adr (by rw[Be];omega);have hx:=D6 _ (Me D7);obtain⟨t,ht⟩:=Dg hx.1;have hat:(atL d.next[s] k).toNat=t:=by rw[zL (by simpa using D7)];simp only[Yf,ht]
   have E8:=zef d k I1;rw[hat] at E8;have w0:=zoV t;have w1:IntKind.u8.wrap ((t:Int) / 256)=((UInt8.ofNat (t / 256)).toNat:Int):=by rw[←zoV];rfl
   have w2:IntKind.u8.wrap ((t:Int) / 65536)=((UInt8.ofNat (t / 65536)).toNat:Int):=by rw[←zoV];rfl
   have M2:(zdw d k s).map zp++[.int .u8 ((UInt8.ofNat t).toNat:Int), .int .u8 ((UInt8.ofNat (t / 256)).toNat:Int), .int .u8 ((UInt8.ofNat (t / 65536)).toNat:Int)]=(zdw d k (s+1)).map zp:=by rw[E8,Ke];rfl
   have D2: ∀x:Value,Fe 3 x=[x,x,x]:=fun _=>rfl
   repeat' first
    |with_reducible first|refine Zd ?_ |refine Ae (fun _=>?_) fun _=>?_ |refine Nb fun nb A0 C0 B0=>?_ |refine Nr fun nb D0 E0 A0 I0 C0 B0=>?_
    |simp -dsimp -implicitDefEqProofs (disch:=first|exact Kd|fail) only[go_sem,↓reduceIte,seval, -He,Ie O.rn,e1,Ie e2,Le,ht,w0,w1,w2,D2]
    |with_reducible refine Vf tok mixed zwl 5 [4,9,15] (.op 0 .plain (.op 1 .plain (.op 2 .plain (.op 3 .plain (.op 4 .held (.op 5 .plain (.op 6 .plain (.op 7 .plain (.op 8 .plain (.op 9 .held (.op 10 .plain (.op 11 .plain (.op 12 .plain (.op 13 .plain (.op 14 .plain (.op 15 .held (.op 16 .plain (.op 17 .plain (.op 18 .keeps (.op 19 .keeps (.op 20 .plain .nil))))))))))))))))))))) Kk [6] ?_
   rw[M2];refine Oe (H':=(nb, .cells ((zdw d k (s+1)).map zp) D0 5)::H) Ks (Ce ⟨q - 1,by omega,s+1,nb,E0,D0,by omega,by omega,rfl,rfl,rfl⟩)
  ·obtain rfl:s=d.next.length:=by omega
   repeat' first
    |with_reducible first|refine Zd ?_ |refine Ae (fun _=>?_) fun _=>?_ |refine Nb fun nb A0 C0 B0=>?_ |refine Nr fun nb D0 E0 A0 I0 C0 B0=>?_
    |simp -dsimp -implicitDefEqProofs (disch:=first|exact Kd|fail) only[go_sem,↓reduceIte,seval, -He]
   unfold zo;refine Oe (H':=H) Ks (Ce fun S0 hs=>hR)
def zaT (d:DfaT):List (List UInt8):=(Hg d.width.toNat).map (zeT d)
theorem zwB (d:DfaT):(zaT d).length=d.width.toNat:=by simp [zaT]
theorem zhm {d:DfaT} {k:Nat} (h:k< (zaT d).length):(zaT d)[k]=zeT d k:=by simp [zaT]
theorem zdx {d:DfaT} (K0:zg d):d.width=((zaT d).length:Nat):=by
 obtain⟨Y2,K2,U2,N3,X3,Y3,Y1⟩:=K0;rw[zwB];omega
theorem zgj {d:DfaT} (K0:zg d) (hl:d.of.length=256):(zaT d).length≤256:=by
 have:=zdx K0;obtain⟨Y2,K2,U2,N3,X3,Y3,Y1⟩:=K0;have:=zZ d.of;omega
def clL (d:DfaT):List Int:=d.of.map fun o=>atL (zd (zaT d)) o
theorem zbD {d:DfaT} (hl:d.of.length=256):(clL d).length=256:=by unfold clL;rw[Be,hl]
theorem zoW {d:DfaT} (K0:zg d) {i:Nat} (hi:i<d.of.length): ∃ (h:(d.of[i]).toNat< (zd (zaT d)).length) (h2:i< (clL d).length),(clL d)[i]=(zd (zaT d))[(d.of[i]).toNat]∧0≤(clL d)[i]∧(clL d)[i] < (zaT d).length:=by
 obtain⟨h1,h2⟩:=zd2 K0 (Me hi);have hw:=zdx K0;have h3:(d.of[i]).toNat< (zd (zaT d)).length:=by rw[zt];omega
 have h4:i< (clL d).length:=by unfold clL;rw[Be];exact hi
 have e:(clL d)[i]=(zd (zaT d))[(d.of[i]).toNat]:=by simp only[clL,Le];rw[zL h3]
 obtain⟨b1,b2⟩:=za9 (Me h3);have:=zZ (zaT d);exact⟨h3,h4,e,by rw[e];exact b1,by rw[e];omega⟩
def clU (d:DfaT) (c k:Nat):Int:=if k<c then atL (clL d) k else 0
theorem zwC (d:DfaT):u8F (fun _=>0)=u8F (clU d 0):=zcp fun k _=>by unfold clU;rw[if_neg Ko]
theorem zwD {d:DfaT} {c:Nat} {x:Int} (h:x=atL (clL d) c):u8F (upd (clU d c) c x)=u8F (clU d (c+1)):=zcp fun k _=>by
 by_cases e:k=c
 ·subst e;simp only[clU,upd];rw[if_pos (show k<k+1 by omega),h];simp
 ·simp only[clU,upd];rw[if_neg e];by_cases hk:k<c
  ·rw[if_pos hk,if_pos Ko]
  ·rw[if_neg hk,if_neg Ko]
theorem zx9 {d:DfaT} (hl:d.of.length=256):u8F (clU d 256)=u8L (clL d):=by
 apply Tg (by rw[zR,Be,zbD hl]);intro k h1 h2;rw[zR] at h1;have h3:k< (clL d).length:=by rw[zbD hl];exact h1
 rw[ziK,Le];unfold clU;rw[if_pos h1,zL (by simpa using h3)];simp
theorem zzd {d:DfaT} (P0:zr d) (K0:zg d) {C:List Value} {an al ay:Option Addr} {cn cl cs:Nat} {rs:List Value} {G:zb} (O:OpenD G d C an al ay cn cl cs rs)
  {H:za} {R:Value→zb→za→Prop} (hR: ∀G' v,PLe G G'→Sep G' (zm H)→Sl G' (Yd .i64) v (zd (zaT d))→R v G' H):FnT Tryz.prog 107 [.agg C.toArray] G H R:=by
 have N0:=O.len;have D1:=O.w;have T0:=O.all;have hw:=zdx K0;have S0:=zgj K0 O.ofl;rw[hw] at D1;refine Zf ?_;refine Ee tok [0,1,2] Tryz.func107 rfl Kk Kk Kn fun M0=>?_;rw[Tryz.results107];have hE:=M0;try simp only[zzs] at hE
 repeat(obtain⟨J0,hE⟩:=hE)
 repeat' first
  |with_reducible first|refine Zd ?_ |refine Ae (fun _=>?_) fun _=>?_ |refine Nb fun nb A0 C0 B0=>?_
  |simp -dsimp -implicitDefEqProofs (disch:=first|exact Kd|fail) only[go_sem,↓reduceIte,seval, -He,Ye,N0,D1,T0]
  |with_reducible refine zzb (l:=zaT d) Ko (fun i hi H1 R1 hg hf hR1=>?_) fun G2 v2 Q0 R0 V5=>?_
 ·refine zAl P0 K0 O Ko hg hf ?_;rw[←zhm hi];exact hR1
 ·unfold zo;refine Xf (H':=H) Ks ?_;exact fun S0 hs=>hR G2 v2 Q0 R0 V5
theorem zup {d:DfaT} (P0:zr d) {G:zb} {H:za} {R:Value→zb→za→Prop} {v:Value} (hv:IsD G d v)
  (hR: ∀G',PLe G G'→Sep G' (zm H)→R (if zaz (zg d)=true then .tuple #[zb4 (zd (clL d)), .int .i64 (zl (clL d)).length] else .tuple #[zb4 (Fe 256 0), .int .i64 0]) G' H):FnT Tryz.prog 68 [v] G H R:=by
 obtain⟨C,an,al,ay,cn,cl,cs,rs,rfl,O⟩:=hv.opened;have N0:=O.len;have T0:=O.all;have E4:=O.of;refine Zf ?_;by_cases K0:zg d
 ·have hb:=zA K0;rw[if_pos hb] at hR;have V2:=zbD O.ofl;have F6:(u8L (clL d)).length=256:=by rw[Be,V2]
  have B2:Hf 256 (u8L (clL d))=u8L (clL d):=Pe Ko;refine Ee tok zwm Tryz.func68 rfl Kk Kk Kn fun M0=>?_;rw[Tryz.results68];have hE:=M0;try simp only[zzs] at hE
  repeat(obtain⟨J0,hE⟩:=hE)
  repeat' first
   |with_reducible first|refine Zd ?_ |refine Ae (fun _=>?_) fun _=>?_ |refine Nb fun nb A0 C0 B0=>?_ |refine Nr fun nb D0 E0 A0 I0 C0 B0=>?_
   |simp -dsimp -implicitDefEqProofs (disch:=first|exact Kd|fail) only[go_sem,↓reduceIte,seval, -He,Ye,N0,T0,E4,hb,za5,zR,zbb,zaA,za6]
   |with_reducible refine zaJ P0 O.is ?_
  rename_i b1 R3 T8 B8 b2 F4 J8 A8;refine zzd P0 K0 O fun G2 v2 Q0 R0 V5=>?_;obtain⟨a2,c2,rfl,V1,J4⟩:=V5;have hE:=R0;try simp only[zzs] at hE
  repeat(obtain⟨J0,hE⟩:=hE)
  repeat' first
   |with_reducible first|refine Zd ?_ |refine Ae (fun _=>?_) fun _=>?_ |refine Nb fun nb A0 C0 B0=>?_ |refine Nr fun nb D0 E0 A0 I0 C0 B0=>?_
   |simp -dsimp -implicitDefEqProofs (disch:=first|exact Kd|fail) only[go_sem,↓reduceIte,seval, -He,Ye,N0,T0,E4,hb,za5,zR,zbb,zaA,za6]
  have C1:=zt (zaT d);have hnu8:(u8L (zd (clL d))).length=256:=by rw[Be,zt,V2]
  have Wa:(u8L (zd (clL d))).all zax=true:=by rw[Mg];exact List.all_eq_true.2 fun _ _=>rfl
  have E9:zf (u8F fun _=>0) 0 (u8L (zd (clL d)))=u8L (zd (clL d)):=by rw[←zeG V2,zaA]
  have L8:Hf 256 (u8L (zd (clL d)))=u8L (zd (clL d)):=Pe Ko;have B3:Adr a2:=V1.adr (by rw[Be,C1];have:=zdx K0;have:=zd2 K0 (Me (l:=d.of) (n:=0) (by rw[O.ofl];omega));omega);have R5:=O.ofl;have hu8o:(u8L d.of).length=256:=by rw[Be,R5]
  have hw8:=zgj K0 O.ofl;refine Je tok zwm Kk [1,2,3,4,5,15,16] (fun q G' fr H'=> ∃ (c:Nat),c+q=256∧G'=G2∧H'=(nb, .cells (u8F (clU d c)) [] 22):: (b2, .cells (u8F fun _=>0) [] 22):: (b1, .cells C [] 27)::H∧fr=[(1, .pointer (some ⟨b1,0,none⟩)),(2, .pointer (some ⟨b2,0,none⟩)),(3, .int .i64 0),(4, .pointer (some ⟨nb,0,none⟩)),(5, .slice a2 (zd (zaT d)).length c2),(15,zb4 d.of),(16, .int .i64 (c:Nat))]) (256) ?_ ?_
  ·exact Ce ⟨0,by omega,rfl,by rw[zwC],rfl⟩
  ·rintro q G1 fr H' S0 V0 ⟨c,hc,rfl,rfl,rfl⟩;have hE:=V0;try simp only[zzs] at hE
   repeat(obtain⟨J0,hE⟩:=hE)
   by_cases J4:c<256
   ·obtain⟨h3,h4,e,e1,e2⟩:=zoW K0 (i:=c) Ko;obtain⟨q1,q2⟩:=O.ofb _ (Me (l:=d.of) (n:=c) Ko)
    have hw:IntKind.u8.wrap ((zd (zaT d))[(d.of[c]).toNat])=(clL d)[c]:=by
     rw[e];obtain⟨t,ht⟩:=Dg (e▸e1);rw[ht];exact zea Ko
    have M3:zf (u8F (clU d c)) c [.int .u8 (clL d)[c]]=u8F (clU d (c+1)):=by
     rw[zhO J4];exact zwD (by rw[zL (by simpa using h4)];simp)
    have E6:(u8L d.of)[c]? =some (.int .u8 d.of[c]):=by rw[Lg,Xe Ko];rfl
    repeat' first
     |with_reducible first|refine Zd ?_ |refine Ae (fun _=>?_) fun _=>?_ |refine Nb fun nb A0 C0 B0=>?_ |refine Nr fun nb D0 E0 A0 I0 C0 B0=>?_
     |simp -dsimp -implicitDefEqProofs (disch:=first|exact Kd|fail) only[go_sem,↓reduceIte,seval, -He,Ye,N0,T0,E4,hb,zR,zbb,zaA,za6,hu8o,Le,R5,Ie V1,hw,M3,E6,zhq]
    exact Ce ⟨q - 1,by omega,c+1,by omega,rfl,rfl,rfl⟩
   ·obtain rfl:c=256:=by omega
    rw[zx9 R5]
    repeat' first
     |with_reducible first|refine Zd ?_ |refine Ae (fun _=>?_) fun _=>?_ |refine Nb fun nb A0 C0 B0=>?_ |refine Nr fun nb D0 E0 A0 I0 C0 B0=>?_
     |simp -dsimp -implicitDefEqProofs (disch:=first|exact Kd|fail) only[go_sem,↓reduceIte,seval, -He,Ye,N0,T0,E4,hb,zR,zbb,zaA,za6,F6,B2,hnu8,Wa,E9,L8]
     |with_reducible refine zlE V2 ?_
    unfold zo;refine Xf (H':=H) Ks ?_;exact fun _ hs=>hR G1 Q0 hs
 ·have hb:=zu K0;rw[hb,if_neg (by simp)] at hR;have h8:(Fe 256 (Yd .u8 0))=u8L (Fe 256 0):=by rw[u8L,Ff]
  refine Ee tok zwm Tryz.func68 rfl Kk Kk Kn fun M0=>?_;rw[Tryz.results68];have hE:=M0;try simp only[zzs] at hE
  repeat(obtain⟨J0,hE⟩:=hE)
  repeat' first
   |with_reducible first|refine Zd ?_ |refine Ae (fun _=>?_) fun _=>?_ |refine Nb fun nb A0 C0 B0=>?_ |refine Nr fun nb D0 E0 A0 I0 C0 B0=>?_
   |simp -dsimp -implicitDefEqProofs (disch:=first|exact Kd|fail) only[go_sem,↓reduceIte,seval, -He,Ye,N0,T0,E4,hb,za5,zR,zbb,zaA,za6]
   |with_reducible refine zaJ P0 O.is ?_
  unfold zo;refine Xf (H':=H) Ks ?_;rw[←za5,h8];exact fun _ hs=>hR G (PLe.refl _) hs
section
variable {α β:Type} [DecidableEq α] [DecidableEq β]
theorem zuq {l:List α} {m:List β} (h:zd l=zd m):(zl m).length≤(zl l).length:=by
 rcases Eg (zl l).length (zl m).length with J2|hge
 ·obtain⟨c,hc,e⟩:=Ue ((zK m).1 (Me J2));have hp:=zdh (zcR m) J2;have hx:(zd m)[c]'(by rw[zt];exact hc)=((zl l).length:Nat):=by rw[zbK hc,e,zB hp]
  have V2:c< (zd m).length:=by rw[zt];exact hc
  have Z5:(zd m)[c]∈zd l:=by rw[h];exact Me V2
  have:=za9 Z5;omega
 ·exact hge
theorem zkr {l:List α} {m:List β} (h:zd l=zd m):(zl l).length=(zl m).length:=Nat.le_antisymm (zuq h.symm) (zuq h)
end
def mgL (d:DfaT):List Int:=(zaT d).map (zw (zaT d))
theorem zjt (d:DfaT):(mgL d).length=(zaT d).length:=by simp [mgL]
theorem zur {d:DfaT} {k:Nat} (h:k< (mgL d).length): ∃ (x:Nat) (h2:k< (zaT d).length) (h3:x< (zaT d).length),(mgL d)[k]=(x:Nat)∧x≤k∧(zaT d)[x]=(zaT d)[k]∧ ∀y (h4:y<x),(zaT d)[y]≠(zaT d)[k]:=by
 have h2:k< (zaT d).length:=by rw[zjt] at h;exact h
 obtain⟨x,hx⟩:=zaf (Me h2);obtain⟨J7,N5⟩:=zaa hx;rw[Xe J7,Option.some.injEq] at N5;have J0:=hx;unfold place at J0;rw[Cf] at J0;obtain⟨h5,h6,h7⟩:=J0
 have P3: ∀y (h4:y<x),(zaT d)[y]≠(zaT d)[k]:=fun y h4 e=>by
  have:=h7 y h4;simp only[e,decide_true,not_true_eq_false] at this
 refine⟨x,h2,J7,by simp only[mgL,Le];exact zB hx,?_,N5,P3⟩;rcases Eg k x with h8|h8
 ·exact absurd rfl (P3 k h8)
 ·exact h8
def clR (d:DfaT):List Int:=d.of.map fun o=>atL (mgL d) o
theorem zl6 {d:DfaT} (hl:d.of.length=256):(clR d).length=256:=by unfold clR;rw[Be,hl]
theorem zli {d:DfaT} (K0:zg d) {i:Nat} (hi:i<d.of.length): ∃ (h:(d.of[i]).toNat< (mgL d).length) (h2:i< (clR d).length),(clR d)[i]=(mgL d)[(d.of[i]).toNat]∧0≤(clR d)[i]∧(clR d)[i] < (zaT d).length:=by
 obtain⟨h1,h2⟩:=zd2 K0 (Me hi);have hw:=zdx K0;have h3:(d.of[i]).toNat< (mgL d).length:=by rw[zjt];omega
 have h4:i< (clR d).length:=by unfold clR;rw[Be];exact hi
 have e:(clR d)[i]=(mgL d)[(d.of[i]).toNat]:=by simp only[clR,Le];rw[zL h3]
 obtain⟨x,q1,q2,q3,q4,q5,q6⟩:=zur h3;exact⟨h3,h4,e,by rw[e,q3];omega,by rw[e,q3];omega⟩
theorem zoX {d:DfaT} (K0:zg d):zd (clR d)=zd (clL d):=by
 have X1:(clR d).length=(clL d).length:=by unfold clR clL;rw[Be,Be]
 refine zdj X1 fun i j hi hj=>?_;have Da:i<d.of.length:=by unfold clR at hi;rwa [Be] at hi
 have hj2:j<d.of.length:=by unfold clR at hj;rwa [Be] at hj
 obtain⟨a1,a2,a3,_⟩:=zli K0 Da;obtain⟨b1,b2,b3,_⟩:=zli K0 hj2;obtain⟨c1,c2,c3,_⟩:=zoW K0 Da;obtain⟨e1,e2,e3,_⟩:=zoW K0 hj2;have g1:(d.of[i]).toNat< (zaT d).length:=by rw[zt] at c1;exact c1
 have g2:(d.of[j]).toNat< (zaT d).length:=by rw[zt] at e1;exact e1
 rw[a3,b3,c3,e3,zdY g1 g2];simp only[mgL,Le];exact⟨fun h=>zgA (Me g1) (Me g2) h,fun h=>by rw[h]⟩
def clV (d:DfaT) (c k:Nat):Int:=if k<c then atL (clR d) k else 0
theorem zwE (d:DfaT):u8F (fun _=>0)=u8F (clV d 0):=zcp fun k _=>by unfold clV;rw[if_neg Ko]
theorem zwF {d:DfaT} {c:Nat} {x:Int} (h:x=atL (clR d) c):u8F (upd (clV d c) c x)=u8F (clV d (c+1)):=zcp fun k _=>by
 by_cases e:k=c
 ·subst e;simp only[clV,upd];rw[if_pos (show k<k+1 by omega),h];simp
 ·simp only[clV,upd];rw[if_neg e];by_cases hk:k<c
  ·rw[if_pos hk,if_pos Ko]
  ·rw[if_neg hk,if_neg Ko]
theorem zya {d:DfaT} (hl:d.of.length=256):u8F (clV d 256)=u8L (clR d):=by
 apply Tg (by rw[zR,Be,zl6 hl]);intro k h1 h2;rw[zR] at h1;have h3:k< (clR d).length:=by rw[zl6 hl];exact h1
 rw[ziK,Le];unfold clV;rw[if_pos h1,zL (by simpa using h3)];simp
theorem zqD {d:DfaT} (P0:zr d) (K0:zg d) {C:List Value} {an al ay:Option Addr} {cn cl cs:Nat} {rs:List Value} {G:zb} (O:OpenD G d C an al ay cn cl cs rs) {j k:Nat} (hj:(j:Int) <d.width) (hk:(k:Int) <d.width)
  {H:za} {R:Value→zb→za→Prop} (hR:R (.bool (decide (zeT d j=zeT d k))) G H):FnT Tryz.prog 141 [.agg C.toArray, .int .i64 (j:Nat), .int .i64 (k:Nat)] G H R:=by
 obtain⟨Y2,K2,U2,N3,X3,Y3,Y1⟩:=id K0;have N0:=O.len;have J1:=O.n;have T0:=O.all;have La:=O.rnl
 have hbnd: ∀s (h:s<d.next.length),(atL d.next[s] j).toNat<16777216∧(atL d.next[s] k).toNat<16777216:=fun s h=>by
  obtain⟨E5,F7,C8,D6⟩:=Y1 s h Ko;have e1:((j:Int)).toNat< (d.next[s]).length:=by omega
  have e2:((k:Int)).toNat< (d.next[s]).length:=by omega
  rw[zL e1,zL e2];have x1:=D6 _ (Me e1);have x2:=D6 _ (Me e2);omega
 have hiff:=zoU hbnd;refine Ee tok zsh Tryz.func141 rfl Kk Kk Kn fun M0=>?_;rw[Tryz.results141];have hE:=M0;try simp only[zzs] at hE
 repeat(obtain⟨J0,hE⟩:=hE)
 repeat' first
  |with_reducible first|refine Zd ?_ |refine Ae (fun _=>?_) fun _=>?_ |refine Nb fun nb A0 C0 B0=>?_
  |simp -dsimp -implicitDefEqProofs (disch:=first|exact Kd|fail) only[go_sem,↓reduceIte,seval, -He,Ye,N0,T0]
 refine Je tok zsh Kk [1,2,3,7] (fun q G' fr H'=> ∃ (s:Nat),s+q=d.next.length∧zdw d j s=zdw d k s∧G'=G∧H'=(nb, .cells C [] 27)::H∧fr=[(1, .int .i64 (j:Nat)),(2, .int .i64 (k:Nat)),(3, .pointer (some ⟨nb,0,none⟩)),(7, .int .i64 (s:Nat))]) (d.next.length) ?_ ?_
 ·exact Ce ⟨0,by omega,rfl,rfl,rfl,rfl⟩
 ·rintro q G1 fr H' S0 V0 ⟨s,hsq,Fd,rfl,rfl,rfl⟩;have hE:=V0;try simp only[zzs] at hE
  repeat(obtain⟨J0,hE⟩:=hE)
  by_cases I1:s<d.next.length
  ·have B3:Adr an:=O.rn.adr Ko;obtain⟨b,cc,e1,e2,e3⟩:=O.rs s I1 Ko;obtain⟨E5,F7,C8,D6⟩:=Y1 s I1 Ko;have hjr:j< (d.next[s]).length:=by omega
   have D7:k< (d.next[s]).length:=by omega
   have V6:Adr b:=e2.adr (by rw[Be];omega);have haj:(atL d.next[s] j).toNat=((d.next[s])[j]).toNat:=by rw[zL (by simpa using hjr)];simp only[Yf]
   have hak:(atL d.next[s] k).toNat=((d.next[s])[k]).toNat:=by rw[zL (by simpa using D7)];simp only[Yf]
   have x1:=D6 _ (Me hjr);have x2:=D6 _ (Me D7);by_cases he:(d.next[s])[j]=(d.next[s])[k]
   ·repeat' first
     |with_reducible first|refine Zd ?_ |refine Ae (fun _=>?_) fun _=>?_ |refine Nb fun nb A0 C0 B0=>?_
     |with_reducible refine Tri.drawM tok mixed zsh 4 [1,4,7,9,12,15] (.op 0 .plain (.op 1 .held (.op 2 .plain (.op 3 .plain (.op 4 .held (.op 5 .plain (.op 6 .plain (.op 7 .held (.op 8 .plain (.op 9 .held (.op 10 .plain (.op 11 .plain (.op 12 .held (.op 13 .plain (.op 14 .plain (.op 15 .held (.op 16 .plain .nil))))))))))))))))) Kk _ (List.Sublist.refl _) ?_
     |simp -dsimp -implicitDefEqProofs (disch:=first|exact Kd|fail) only[go_sem,↓reduceIte,seval, -He,N0,J1,Ie O.rn,e1,Ie e2,Le,he]
    exact Ce ⟨q - 1,by omega,s+1,by omega,by rw[zef d j I1,zef d k I1,Fd,haj,hak,he],rfl,rfl,rfl⟩
   ·have P3: ¬zeT d j=zeT d k:=fun h=>by
     have:=(hiff d.next.length (Qe _)).1 h s I1 I1;rw[haj,hak] at this;omega
    rw[decide_eq_false P3] at hR
    repeat' first
     |with_reducible first|refine Zd ?_ |refine Ae (fun _=>?_) fun _=>?_ |refine Nb fun nb A0 C0 B0=>?_
     |with_reducible refine Tri.drawM tok mixed zsh 4 [1,4,7,9,12,15] (.op 0 .plain (.op 1 .held (.op 2 .plain (.op 3 .plain (.op 4 .held (.op 5 .plain (.op 6 .plain (.op 7 .held (.op 8 .plain (.op 9 .held (.op 10 .plain (.op 11 .plain (.op 12 .held (.op 13 .plain (.op 14 .plain (.op 15 .held (.op 16 .plain .nil))))))))))))))))) Kk _ (List.Sublist.refl _) ?_
     |simp -dsimp -implicitDefEqProofs (disch:=first|exact Kd|fail) only[go_sem,↓reduceIte,seval, -He,N0,J1,Ie O.rn,e1,Ie e2,Le,he]
    all_goals refine De ?_ hR ?_
    any_goals first|exact Ks|skip
    rfl
  ·obtain rfl:s=d.next.length:=by omega
   have hy:zeT d j=zeT d k:=Fd;rw[decide_eq_true hy] at hR
   repeat' first
    |with_reducible first|refine Zd ?_ |refine Ae (fun _=>?_) fun _=>?_ |refine Nb fun nb A0 C0 B0=>?_
    |simp -dsimp -implicitDefEqProofs (disch:=first|exact Kd|fail) only[go_sem,↓reduceIte,seval, -He,N0,J1]
   all_goals refine De ?_ hR ?_
   any_goals first|exact Ks|skip
   rfl
theorem zwG {d:DfaT} (P0:zr d) (K0:zg d) {C:List Value} {an al ay:Option Addr} {cn cl cs:Nat} {rs:List Value} {G:zb} (O:OpenD G d C an al ay cn cl cs rs)
  {H:za} {R:Value→zb→za→Prop} (hR: ∀G' v,PLe G G'→Sep G' (zm H)→Sl G' (Yd .i64) v (mgL d)→R v G' H):FnT Tryz.prog 116 [.agg C.toArray] G H R:=by
 have N0:=O.len;have D1:=O.w;have T0:=O.all;have hw:=zdx K0;have P4:=zgj K0 O.ofl;have X4:=zjt d;have hw':=hw;rw[hw] at D1;refine Zf ?_;refine Ee tok zwn Tryz.func116 rfl Kk Kk Kn fun M0=>?_;rw[Tryz.results116];have hE:=M0;try simp only[zzs] at hE
 repeat(obtain⟨J0,hE⟩:=hE)
 repeat' first
  |with_reducible first|refine Zd ?_ |refine Ae (fun _=>?_) fun _=>?_ |refine Nb fun nb A0 C0 B0=>?_ |refine Nr fun nb D0 E0 A0 I0 C0 B0=>?_
  |simp -dsimp -implicitDefEqProofs (disch:=first|exact Kd|fail) only[go_sem,↓reduceIte,seval, -He,Ye,N0,T0,D1]
 rename_i b1 R3 T8 B8;revert nb;intro b0 hb0 hb01 hb02;refine Je tok zwn Kk [1,2,3,4] (fun q G' fr H'=> ∃ (k b3 c3:Nat) (sp:List Value),k+q=(zaT d).length∧G'=G∧k+sp.length=c3∧H'=(b3, .cells (((mgL d).take k).map (Yd .i64)) sp 3):: (b1, .cells C [] 27)::H∧fr=[(1, .pointer (some ⟨b1,0,none⟩)),(2, .slice none 0 0),(3, .slice (some ⟨b3,0,none⟩) k c3),(4, .int .i64 (k:Nat))]) ((zaT d).length) ?_ ?_
 ·exact Ce ⟨0,b0,0,[],by omega,rfl,rfl,rfl,rfl⟩
 ·rintro q G1 fr H' S0 V0 ⟨k,b3,c3,sp,hkq,rfl,Ja,rfl,rfl⟩;have hE:=V0;try simp only[zzs] at hE
  repeat(obtain⟨J0,hE⟩:=hE)
  have J2:k≤(zaT d).length→((mgL d).take k).length=k:=fun h=>by rw[Ge];omega
  by_cases S8:k< (zaT d).length
  ·have Ib:=J2 Ko;obtain⟨x,q1,q2,q3,q4,q5,q6⟩:=zur (d:=d) (k:=k) Ko;have hkw:(k:Int) <d.width:=by omega
   repeat' first
    |with_reducible first|refine Zd ?_ |refine Ae (fun _=>?_) fun _=>?_ |refine Nb fun nb A0 C0 B0=>?_ |refine Nr fun nb D0 E0 A0 I0 C0 B0=>?_
    |simp -dsimp -implicitDefEqProofs (disch:=first|exact Kd|fail) only[go_sem,↓reduceIte,seval, -He,N0,D1]
   refine Je tok zwn Kk [1,2,3,4,5] (fun q2 G' fr H'=> ∃ (j:Nat),j+q2=x+1∧j≤x∧G'=G1∧H'=(b3, .cells (((mgL d).take k).map (Yd .i64)) sp 3):: (b1, .cells C [] 27)::H∧fr=[(1, .pointer (some ⟨b1,0,none⟩)),(2, .slice none 0 0),(3, .slice (some ⟨b3,0,none⟩) k c3),(4, .int .i64 (k:Nat)),(5, .int .i64 (j:Nat))]) ((x+1)) ?_ ?_
   ·exact Ce ⟨0,by omega,by omega,rfl,rfl,rfl⟩
   ·rintro q2 G2 fr H' Q0 R0 ⟨j,hjq,hjx,rfl,rfl,rfl⟩;have hE:=R0;try simp only[zzs] at hE
    repeat(obtain⟨J0,hE⟩:=hE)
    have hjw:(j:Int) <d.width:=by omega
    have hjc:j< (zaT d).length:=by omega
    by_cases e:j=x
    ·subst e;have Ad:decide (zeT d j=zeT d k)=true:=decide_eq_true (by rw[←zhm hjc,←zhm S8];exact q5)
     have Pa:((mgL d).take (k+1)).map (Yd .i64)=((mgL d).take k).map (Yd .i64)++[Yd .i64 (j:Nat)]:=by
      rw[Re Ko,Ke,q3];rfl
     have U1: ∀v:Value,Fe 1 v=[v]:=fun _=>rfl
     repeat' first
      |with_reducible first|refine Zd ?_ |refine Ae (fun _=>?_) fun _=>?_ |refine Nb fun nb A0 C0 B0=>?_ |refine Nr fun nb D0 E0 A0 I0 C0 B0=>?_
      |simp -dsimp -implicitDefEqProofs (disch:=first|exact Kd|fail) only[go_sem,↓reduceIte,seval, -He,N0,T0,Ye,Ad,U1,Be,Ib]
      |with_reducible refine zqD P0 K0 O hjw hkw ?_
     rw[←Pa];exact Oe (H':=(nb, .cells (((mgL d).take (k+1)).map (Yd .i64)) D0 3):: (b1, .cells C [] 27)::H) Ks (Ce ⟨q - 1,by omega,k+1,nb,E0,D0,by omega,rfl,by omega,rfl,rfl⟩)
    ·have Ad:decide (zeT d j=zeT d k)=false:=decide_eq_false (by rw[←zhm hjc,←zhm S8];exact q6 j Ko)
     repeat' first
      |with_reducible first|refine Zd ?_ |refine Ae (fun _=>?_) fun _=>?_ |refine Nb fun nb A0 C0 B0=>?_ |refine Nr fun nb D0 E0 A0 I0 C0 B0=>?_
      |simp -dsimp -implicitDefEqProofs (disch:=first|exact Kd|fail) only[go_sem,↓reduceIte,seval, -He,N0,T0,Ye,Ad]
      |with_reducible refine zqD P0 K0 O hjw hkw ?_
     exact Ce ⟨q2 - 1,by omega,j+1,by omega,by omega,rfl,rfl,rfl⟩
  ·obtain rfl:k=(zaT d).length:=by omega
   have R4:(mgL d).take (zaT d).length=mgL d:=Pe Ko;rw[R4]
   repeat' first
    |with_reducible first|refine Zd ?_ |refine Ae (fun _=>?_) fun _=>?_ |refine Nb fun nb A0 C0 B0=>?_ |refine Nr fun nb D0 E0 A0 I0 C0 B0=>?_
    |simp -dsimp -implicitDefEqProofs (disch:=first|exact Kd|fail) only[go_sem,↓reduceIte,seval, -He,N0,D1]
   unfold zo;refine Oe (H':=(b3, .cells ((mgL d).map (Yd .i64)) sp 3)::H) Ks (Jf Ka fun G3 A1 K1 D2=>?_);exact fun S0 hs=>hR _ _ A1 hs ⟨some ⟨b3,0,none⟩,c3,by rw[X4],D2,by omega⟩
theorem zso {d:DfaT} (P0:zr d) {G:zb} {H:za} {R:Value→zb→za→Prop} {v:Value} (hv:IsD G d v)
  (hR: ∀G',PLe G G'→Sep G' (zm H)→R (if zaz (zg d)=true then .tuple #[zb4 (zd (clL d)), .int .i64 (zl (clL d)).length] else .tuple #[zb4 (Fe 256 0), .int .i64 0]) G' H):FnT Tryz.prog 77 [v] G H R:=by
 obtain⟨C,an,al,ay,cn,cl,cs,rs,rfl,O⟩:=hv.opened;have N0:=O.len;have T0:=O.all;have E4:=O.of;refine Zf ?_;by_cases K0:zg d
 ·have hb:=zA K0;rw[if_pos hb,←zoX K0,←zkr (zoX K0)] at hR;have V2:=zl6 O.ofl
  have hclb: ∀x∈clR d,0≤x∧x≤255:=fun x hx=>by
   obtain⟨i,hi,e⟩:=Ue hx;obtain⟨h3,h4,e',e1,e2⟩:=zli K0 (i:=i) (by rw[O.ofl];omega);have:=zgj K0 O.ofl;rw[←e];omega
  have F6:(u8L (clR d)).length=256:=by rw[Be,V2]
  have B2:Hf 256 (u8L (clR d))=u8L (clR d):=Pe Ko;refine Ee tok zwo Tryz.func77 rfl Kk Kk Kn fun M0=>?_;rw[Tryz.results77];have hE:=M0;try simp only[zzs] at hE
  repeat(obtain⟨J0,hE⟩:=hE)
  repeat' first
   |with_reducible first|refine Zd ?_ |refine Ae (fun _=>?_) fun _=>?_ |refine Nb fun nb A0 C0 B0=>?_ |refine Nr fun nb D0 E0 A0 I0 C0 B0=>?_
   |simp -dsimp -implicitDefEqProofs (disch:=first|exact Kd|fail) only[go_sem,↓reduceIte,seval, -He,Ye,N0,T0,E4,hb,za5,zR,zbb,zaA,za6]
  rename_i b1 R3 T8 B8 b2 F4 J8 A8;revert nb;intro b4 hb4 Fc Wb;refine za1 P0 O.is fun G2 Q0 R0=>?_;rw[hb];have O2:=O.mono Q0;have hE:=R0;try simp only[zzs] at hE
  repeat(obtain⟨J0,hE⟩:=hE)
  repeat' first
   |with_reducible first|refine Zd ?_ |refine Ae (fun _=>?_) fun _=>?_ |refine Nb fun nb A0 C0 B0=>?_ |refine Nr fun nb D0 E0 A0 I0 C0 B0=>?_
   |simp -dsimp -implicitDefEqProofs (disch:=first|exact Kd|fail) only[go_sem,↓reduceIte,seval, -He,Ye,N0,T0,E4,hb,za5,zR,zbb,zaA,za6]
  refine zwG P0 K0 O2 fun G3 v3 A1 K1 T6=>?_;obtain⟨a2,c2,rfl,V1,J4⟩:=T6;have hE:=K1;try simp only[zzs] at hE
  repeat(obtain⟨J0,hE⟩:=hE)
  repeat' first
   |with_reducible first|refine Zd ?_ |refine Ae (fun _=>?_) fun _=>?_ |refine Nb fun nb A0 C0 B0=>?_ |refine Nr fun nb D0 E0 A0 I0 C0 B0=>?_
   |simp -dsimp -implicitDefEqProofs (disch:=first|exact Kd|fail) only[go_sem,↓reduceIte,seval, -He,Ye,N0,T0,E4,hb,za5,zR,zbb,zaA,za6]
  have C1:=zjt d;have hnu8:(u8L (zd (clR d))).length=256:=by rw[Be,zt,V2]
  have Wa:(u8L (zd (clR d))).all zax=true:=by rw[Mg];exact List.all_eq_true.2 fun _ _=>rfl
  have E9:zf (u8F fun _=>0) 0 (u8L (zd (clR d)))=u8L (zd (clR d)):=by rw[←zeG V2,zaA]
  have L8:Hf 256 (u8L (zd (clR d)))=u8L (zd (clR d)):=Pe Ko;have B3:Adr a2:=V1.adr (by rw[Be,C1];have:=zdx K0;have:=zd2 K0 (Me (l:=d.of) (n:=0) (by rw[O.ofl];omega));omega);have R5:=O.ofl;have hu8o:(u8L d.of).length=256:=by rw[Be,R5]
  have hw8:=zgj K0 O.ofl;refine Je tok zwo Kk [1,2,3,4,5,6] (fun q G' fr H'=> ∃ (c:Nat),c+q=256∧G'=G3∧H'=(b4, .cells (u8F (clV d c)) [] 22):: (b2, .cells (u8F fun _=>0) [] 22):: (b1, .cells C [] 27)::H∧fr=[(1, .pointer (some ⟨b1,0,none⟩)),(2, .pointer (some ⟨b2,0,none⟩)),(3, .int .i64 0),(4, .pointer (some ⟨b4,0,none⟩)),(5, .slice a2 (mgL d).length c2),(6, .int .i64 (c:Nat))]) (256) ?_ ?_
  ·exact Ce ⟨0,by omega,rfl,by rw[zwE],rfl⟩
  ·rintro q G1 fr H' S0 V0 ⟨c,hc,rfl,rfl,rfl⟩;have hE:=V0;try simp only[zzs] at hE
   repeat(obtain⟨J0,hE⟩:=hE)
   by_cases J4:c<256
   ·obtain⟨h3,h4,e,e1,e2⟩:=zli K0 (i:=c) Ko;obtain⟨q1,q2⟩:=O.ofb _ (Me (l:=d.of) (n:=c) Ko)
    have hw:IntKind.u8.wrap ((mgL d)[(d.of[c]).toNat])=(clR d)[c]:=by
     rw[e];obtain⟨t,ht⟩:=Dg (e▸e1);rw[ht];exact zea Ko
    have M3:zf (u8F (clV d c)) c [.int .u8 (clR d)[c]]=u8F (clV d (c+1)):=by
     rw[zhO J4];exact zwF (by rw[zL (by simpa using h4)];simp)
    have E6:(C.take 256)[c]? =some (.int .u8 d.of[c]):=by rw[E4,Lg,Xe Ko];rfl
    have Nd:C[c]? =some (.int .u8 d.of[c]):=by rw[←E6,List.getElem?_take,if_pos J4]
    repeat' first
     |with_reducible first|refine Zd ?_ |refine Ae (fun _=>?_) fun _=>?_ |refine Nb fun nb A0 C0 B0=>?_ |refine Nr fun nb D0 E0 A0 I0 C0 B0=>?_
     |simp -dsimp -implicitDefEqProofs (disch:=first|exact Kd|fail) only[go_sem,↓reduceIte,seval, -He,Ye,N0,T0,E4,hb,zR,zbb,zaA,za6,hu8o,Le,R5,Ie V1,hw,M3,Nd]
    exact Ce ⟨q - 1,by omega,c+1,by omega,rfl,rfl,rfl⟩
   ·obtain rfl:c=256:=by omega
    rw[zya R5]
    repeat' first
     |with_reducible first|refine Zd ?_ |refine Ae (fun _=>?_) fun _=>?_ |refine Nb fun nb A0 C0 B0=>?_ |refine Nr fun nb D0 E0 A0 I0 C0 B0=>?_
     |simp -dsimp -implicitDefEqProofs (disch:=first|exact Kd|fail) only[go_sem,↓reduceIte,seval, -He,Ye,N0,T0,E4,hb,zR,zbb,zaA,za6,F6,B2,hnu8,Wa,E9,L8]
    refine zn8 V2 hclb fun G4 Z1 S1=>?_;have hE:=S1;try simp only[zzs] at hE
    repeat(obtain⟨J0,hE⟩:=hE)
    repeat' first
     |with_reducible first|refine Zd ?_ |refine Ae (fun _=>?_) fun _=>?_ |refine Nb fun nb A0 C0 B0=>?_ |refine Nr fun nb D0 E0 A0 I0 C0 B0=>?_
     |simp -dsimp -implicitDefEqProofs (disch:=first|exact Kd|fail) only[go_sem,↓reduceIte,seval, -He,Ye,N0,T0,E4,hb,zR,zbb,zaA,za6,F6,B2,hnu8,Wa,E9,L8]
    unfold zo;refine Oe (H':=H) Ks (Ce ?_);exact fun _ hs=>hR G4 ((Q0.trans A1).trans Z1) hs
 ·have hb:=zu K0;rw[hb,if_neg (by simp)] at hR;have h8:(Fe 256 (Yd .u8 0))=u8L (Fe 256 0):=by rw[u8L,Ff]
  refine Ee tok zwo Tryz.func77 rfl Kk Kk Kn fun M0=>?_;rw[Tryz.results77];have hE:=M0;try simp only[zzs] at hE
  repeat(obtain⟨J0,hE⟩:=hE)
  repeat' first
   |with_reducible first|refine Zd ?_ |refine Ae (fun _=>?_) fun _=>?_ |refine Nb fun nb A0 C0 B0=>?_ |refine Nr fun nb D0 E0 A0 I0 C0 B0=>?_
   |simp -dsimp -implicitDefEqProofs (disch:=first|exact Kd|fail) only[go_sem,↓reduceIte,seval, -He,Ye,N0,T0,E4,hb,za5,zR,zbb,zaA,za6]
  refine za1 P0 O.is fun G2 Q0 R0=>?_;rw[hb];have hE:=R0;try simp only[zzs] at hE
  repeat(obtain⟨J0,hE⟩:=hE)
  repeat' first
   |with_reducible first|refine Zd ?_ |refine Ae (fun _=>?_) fun _=>?_ |refine Nb fun nb A0 C0 B0=>?_ |refine Nr fun nb D0 E0 A0 I0 C0 B0=>?_
   |simp -dsimp -implicitDefEqProofs (disch:=first|exact Kd|fail) only[go_sem,↓reduceIte,seval, -He,Ye,N0,T0,E4,hb,za5,zR,zbb,zaA,za6]
  unfold zo;refine Oe (H':=H) Ks (Ce ?_);rw[←za5,h8];exact fun _ hs=>hR G2 Q0 hs
theorem zwH (l:List Int) (X1:l.length≤2000000) {G:zb} {H:za} {R:Value→zb→za→Prop} {v:Value} (hv:Sl G (Yd .i64) v l)
  (hR: ∀G' v',PLe G G'→Sep G' (zm H)→Sl G' (Yd .i64) v' l→R v' G' H):FnT Tryz.prog 69 [v] G H R:=by
 obtain⟨a,cap,rfl,U0,D5⟩:=hv;refine Zf ?_;rcases a with _|a
 ·have h0:l=[]:=Df (by
   rcases Nat.eq_zero_or_pos l.length with h|h
   ·exact h
   ·have:=U0.adr (by rw[Be];exact h);cases this)
  subst h0;refine Ee tok [0,2,4] Tryz.func69 rfl Kk Kk Kn fun M0=>?_;rw[Tryz.results69];have hE:=M0;try simp only[zzs] at hE
  repeat(obtain⟨J0,hE⟩:=hE)
  repeat' first
   |with_reducible first|refine Zd ?_ |refine Ae (fun _=>?_) fun _=>?_ |refine Nb fun nb A0 C0 B0=>?_ |refine Nr fun nb D0 E0 A0 I0 C0 B0=>?_
   |simp -dsimp -implicitDefEqProofs (disch:=first|exact Kd|fail) only[go_sem,↓reduceIte,seval]
  unfold zo;refine Xf (H':=H) Ks ?_;exact fun S0 hs=>hR G _ (PLe.refl _) hs (Sl.nil _ _)
 ·refine Ee tok [0,2,4] Tryz.func69 rfl Kk Kk Kn fun M0=>?_;rw[Tryz.results69];have hE:=M0;try simp only[zzs] at hE
  repeat(obtain⟨J0,hE⟩:=hE)
  repeat' first
   |with_reducible first|refine Zd ?_ |refine Ae (fun _=>?_) fun _=>?_ |refine Nb fun nb A0 C0 B0=>?_ |refine Nr fun nb D0 E0 A0 I0 C0 B0=>?_
   |simp -dsimp -implicitDefEqProofs (disch:=first|exact Kd|fail) only[go_sem,↓reduceIte,seval,Row.rdSlAll U0,Be]
  ·rename_i h0;have h0:l=[]:=Df h0;subst h0;unfold zo;refine Xf (H':=H) Ks ?_;exact fun S0 hs=>hR G _ (PLe.refl _) hs ⟨_,0,rfl,Row.nil _ _,Qe _⟩
  ·unfold zo;refine Oe (H':=(nb, .cells (l.map (Yd .i64)) D0 3)::H) Ks (Jf Ka fun G2 Q0 R0 V1=>?_);exact fun S0 hs=>hR G2 _ Q0 hs ⟨some ⟨nb,0,none⟩,E0,rfl,V1,by omega⟩
theorem zi0 (l:List Int):zd (zd l)=zd l:=zdj (zt l) fun i j hi hj=>by
 rw[zt] at hi hj;exact zdY hi hj
def zic (d:DfaT) (row:List Int):List Int:=(zan (zd (clL d))).map fun b=>atL row (atL d.of b)
def za3 (d:DfaT):List (List Int):=d.next.map (zic d)
def zH (d:DfaT):DfaT:={of:=zd (clL d),width:=(zl (clL d)).length,next:=za3 d,label:=d.label,names:=d.names}
noncomputable def zcu (d:DfaT):DfaT×Int:=if zaz (zg d)=true then(zH d,0) else(zah,6)
theorem zeg {d:DfaT} (h:zg d):zcu d=(zH d,0):=by unfold zcu;rw[if_pos (zA h)]
theorem zfF {d:DfaT} (h: ¬zg d):zcu d=(zah,6):=by unfold zcu;rw[zu h,if_neg (by simp)]
theorem zi1 (d:DfaT):(zan (zd (clL d))).length=(zl (clL d)).length:=by rw[zey,zkr (zi0 (clL d))]
theorem zg8 {d:DfaT} (hl:d.of.length=256) {k:Nat} (hk:k< (zan (zd (clL d))).length): ∃x:Nat,(zan (zd (clL d)))[k]=(x:Nat)∧x<256:=by
 have T1:(zl (zd (clL d)))[k]'(by rw[zey] at hk;exact hk)∈zd (clL d):=(zK _).1 (Me _);obtain⟨x,hx⟩:=zaf T1;obtain⟨J7,N5⟩:=zaa hx;exact⟨x,by simp only[zan,Le];exact zB hx,by rw[zt,zbD hl] at J7;exact J7⟩
theorem zid (d:DfaT) (row:List Int):(zic d row).length=(zl (clL d)).length:=by unfold zic;rw[Be,zi1]
def zze (rows:List (List Int)) (G':zb) (j:Nat) (vn:Value) (kn:za):Prop:=
 (j=0∧vn= .slice none 0 0∧kn=[])∨ ∃bn c1 rv sp1,vn= .slice (some ⟨bn,0,none⟩) j c1∧kn=[(bn, .cells rv sp1 24)]∧rv.length=j∧j+sp1.length=c1∧
  ∀i (h:i<j) (h2:i<rv.length) (h3:i<rows.length),∃b c,rv[i]= .slice b rows[i].length c∧Row G' b (rows[i].map (Yd .i64))∧rows[i].length≤c
theorem ze6 {d:DfaT} (K0:zg d) (hl:d.of.length=256):zg (zH d):=by
 obtain⟨Y2,K2,U2,N3,X3,Y3,Y1⟩:=id K0;have V2:=zbD hl;have C1:(za3 d).length=d.next.length:=by unfold za3;rw[Be]
 refine⟨Y2,K2,C1.trans U2,zi0 _,by show((zl (zd (clL d))).length:Int)=_;rw[zkr (zi0 (clL d))];rfl,Y3,fun s h h2=>?_⟩;have hs:s<d.next.length:=by have:s< (za3 d).length:=h;omega
 obtain⟨E5,F7,C8,D6⟩:=Y1 s hs h2;have g2:(zH d).next[s]=zic d d.next[s]:=by simp only[zH,za3,Le]
 rw[g2];refine⟨by rw[zid];rfl,F7,C8,fun t ht=>?_⟩;unfold zic at ht;obtain⟨b,hb,rfl⟩:=List.mem_map.1 ht;obtain⟨i,hi,e⟩:=Ue hb;obtain⟨x,e2,hx⟩:=zg8 hl hi;rw[←e,e2];have hxd:x<d.of.length:=by omega
 have hox:=zd2 K0 (Me hxd);rw[zL (x:=((x:Nat):Int)) (by simpa using hxd)];simp only[Yf];have f1:(d.of[x]).toNat< (d.next[s]).length:=by omega
 rw[zL f1];exact D6 _ (Me f1)
def zez (d:DfaT):DfaT:=zgR d (zbJ d)
noncomputable def zeA (d:DfaT):DfaT:=zW (zH (zar (zez (zW d))).1)
theorem zfG {d:DfaT} (K0:zg d):zg (zez d):=zp0 K0 (zjS K0)
theorem zgk {d:DfaT} (K0:zg d):(zar d).1.of=d.of∧(zar d).1.names=d.names:=by
 rw[zed K0];exact⟨rfl,rfl⟩
section bare
variable {α:Type}
end bare
section plain
variable {α:Type} [DecidableEq α]
end plain
section lists
variable {α:Type} [DecidableEq α] (z:α)
def zAJ (next:List (List Int)) (f:List α) (k:Nat):List α:=next.map fun row=>f.getD (row.getD k 0).toNat z
def zwV (next:List (List Int)) (w:Nat) (f:List α):List (List α):=(Hg w).map (zAJ z next f)
def zzf (ls:List (List α)) (x:List α):List (List α):=if x∈ls then ls else ls++[x]
def lsA (next:List (List Int)) (w:Nat) (f0:List α):Nat→List (List α)
 |0=>[f0]
 |i+1=>match (lsA next w f0 i)[i]? with
  |some f=>(zwV z next w f).foldl zzf (lsA next w f0 i)
  |none=>lsA next w f0 i
end lists
section plain
variable {α:Type} [DecidableEq α] {z:α}
end plain
section maps
variable {α β:Type} [DecidableEq α] [DecidableEq β] {g:α→β} (hg: ∀a b,g a=g b→a=b) {z:α}
include hg
end maps
def zAM (d:DfaT) (s:Int) (w:List UInt8):Int:=w.foldl (fun s b=>toD d s b.toNat) s
end Go.Proofs.YtomdbjfdbkejoaaGreatDoor
namespace Go.Proofs.YtomdbjfdbkejoaaGreatDoor
open Go Go.V Go.Proofs
section fill
variable {α:Type} (z:α) (enc:α→Value)
end fill
def zAK (d:DfaT):List UInt8:=d.label.map fun k=>UInt8.ofNat k.toNat
def zwW (d:DfaT) (m:Nat):List (List UInt8):=lsA 0 d.next d.width.toNat (zAK d) m
def midB (d:DfaT) (i k:Nat):List (List UInt8):=((zwV 0 d.next d.width.toNat ((zwW d i).getD i [])).take k).foldl zzf (zwW d i)
end Go.Proofs.YtomdbjfdbkejoaaGreatDoor
namespace Go.Proofs.YtomdbjfdbkejoaaGreatDoor
open Go Go.V Go.Proofs
end Go.Proofs.YtomdbjfdbkejoaaGreatDoor
