/- A part of the proof, joined of several texts: the verification layer, contracts of functions, plain law. -/
import Derived.Test.YtomdbjfdbkejoaaGreatDoorW10
import Derived.Lib.Overlaps
set_option maxHeartbeats 64000000
set_option linter.unusedSimpArgs false
set_option linter.unusedVariables false
set_option linter.unusedSectionVars false
namespace Go.Proofs.YtomdbjfdbkejoaaGreatDoor
open Go Go.V Go.Proofs
def zcK (d:DfaT) (g:Tx→Int):List Int:=d.label.map fun k=>if 0<k then g (zaT d k) else 0
def zdE (rows:List (List Int)):List (List Value):=rows.map fun r=>r.map (Value.int .i64)
theorem zAP {d:DfaT} (hsm:zx d) {names:List Tx} (hnl:names.length≤2000000) {C:List Value} {an al ay:Option Addr} {cn cl cs:Nat} {rs:List Value} {G:za} {H:zb} (O:OpenD G d C an al ay cn cl cs rs) {v1 v2 v6:Value} (h1:Sl G str v1 names) {b3:Nat}:
  Tri Tryz.prog Tryz.f96.ntmps (piece [1,0] Tryz.f96) G [(1,v1),(2,v2),(3, .pointer (some ⟨b3,0,none⟩)),(6,v6)] ((b3, .cells C [] 27)::H) (onlyN fun G' fr' H'=>
   ∃b7 vs,PLe G G'∧Sl G' str vs names∧zD [2,3,6,7] fr'=[(2,v2),(3, .pointer (some ⟨b3,0,none⟩)),(6,v6),(7, .pointer (some ⟨b7,0,none⟩))]∧H'=(b7, .cells (zd d (.slice none 0 0) (.slice none 0 0) vs) [] 27):: (b3, .cells C [] 27)::H):=by
 obtain⟨hm1,hm2,hm3,hm4,hm5⟩:=id hsm
 have hCl:=O.len
 have hCw:=O.w
 have hCo:=O.of
 have hofl:(u8L d.of).length=256:=by rw[List.length_map,O.ofl]
 have hb1:=zhX O.ofl
 have hb2:=zfX O.ofl
 have hl1:(u8L d.of++[Value.int .i64 0,Value.slice none 0 0,Value.slice none 0 0,Value.slice none 0 0]).length=260:=by rw[List.length_append,hofl];rfl
 have hl2: ∀v:Value,(zd d (.slice none 0 0) (.slice none 0 0) v).length=260:=fun v=>zat O.ofl _ _ _
 have hb3:=zeQ O.ofl (.slice none 0 0) (.slice none 0 0) (.slice none 0 0)
 have hputz: ∀v:Value,zf zI 0 (zd d (.slice none 0 0) (.slice none 0 0) v)=zd d (.slice none 0 0) (.slice none 0 0) v:=fun v=>by
  unfold zf
  rw[List.take_zero,List.nil_append,List.drop_of_length_le (by rw[zn,hl2];omega),List.append_nil]
 refine Tri.sepT fun hs0=>?_
 have hE:=hs0
 try simp only[zzs] at hE
 repeat(obtain⟨hx',hE⟩:=hE)
 refine Tri.piece (f:=Tryz.f96) rfl ?_
 refine Tri.run tok [0,1,2,3,6,7,8,9,10,19,20,21,22,38] Kk ?_
 repeat' first
  |with_reducible first|refine Nx.go ?_ |refine Bk.go (fun _=>?_) fun _=>?_ |refine Nb fun nb hnb hnb1 hnb2=>?_ |refine Nr fun nb nsp ncap hnb hncap hnb1 hnb2=>?_
  |with_reducible refine Tri.drawH tok mixed [0,1,2,3,6,7,8,9,10,19,20,21,22,38] 1 [1,3] (.op 0 .plain (.op 1 .held (.op 2 .plain (.op 3 .held (.op 4 .plain (.both (.op 5 .keeps (.op 6 .plain (.op 7 .keeps (.op 8 .plain .nil)))) (.op 7 .keeps (.op 5 .keeps (.op 6 .plain (.op 8 .plain .nil)))))))))) Kk [3] ?_
  |with_reducible refine Tri.drawH tok mixed [0,1,2,3,6,7,8,9,10,19,20,21,22,38] 5 [1] (.op 0 .plain (.op 1 .held (.op 2 .plain (.op 3 .keeps (.op 4 .keeps (.op 5 .plain (.op 6 .plain (.op 7 .plain .nil)))))))) Kk [7] ?_
  |with_reducible refine Tri.drawM tok mixed [0,1,2,3,6,7,8,9,10,19,20,21,22,38] 8 [2,4,7,10] (.op 0 .plain (.op 1 .plain (.op 2 .held (.op 3 .plain (.op 4 .held (.op 5 .plain (.op 6 .plain (.op 7 .held (.op 8 .plain (.op 9 .plain (.op 10 .held (.op 11 .keeps (.op 12 .plain .nil))))))))))))) Kk _ (List.Sublist.refl _) ?_
  |simp -dsimp -implicitDefEqProofs (disch:=first|exact Kd|fail) only[go_sem,↓reduceIte,seval, -List.reduceReplicate,List.toList_toArray,hCl,hCw,hCo,hofl,hb1,hb2,hb3,hl1,hl2,zn,zad,hputz]
  | ((with_reducible refine zhW names hnl h1 fun G4 v4 hle4 hs4 hsl4=>?_);obtain⟨ay4,cy4,rfl,hr4,hc4⟩:=hsl4;have hone:=zbe (d:=d) (vn:= .slice none 0 0) (vl:= .slice none 0 0) (vs:= .slice ay4 names.length cy4) rfl rfl rfl;(have hE:=hs4;try simp only[zzs] at hE;repeat(obtain⟨hx',hE⟩:=hE)))
  | (with_reducible refine And.intro ?_ ?_)
 all_goals exact Upd.now ⟨nb,_,hle4,⟨ay4,cy4,rfl,hr4,hc4⟩,rfl,rfl⟩
theorem zAQ {d:DfaT} (hd:d.of.length=256) {row:List Int} (hrl:row.length≤2000000) (hr0:0<row.length) {i:Nat} (hi:i≤70000) {G:za} {H:zb} {v2 v3 v6 v8 v9 v19 v20 v21 vn vl vs:Value} {b7:Nat} {rv:List Value} {kn:zb} (h9:Sl G (Value.int .i64) v9 row) (hkn:zS [] 24 1 vn i rv kn):
  Tri Tryz.prog Tryz.f96.ntmps (piece [1,1,0,1,0,0,1,1,0,0,1,0] Tryz.f96) G [(2,v2),(3,v3),(6,v6),(7, .pointer (some ⟨b7,0,none⟩)),(8,v8),(9,v9),(19,v19),(20,v20),(21,v21)] ((b7, .cells (zd d vn vl vs) [] 27):: (kn++H)) (onlyN fun G' fr' H'=>
   ∃vn' kn' br cr spr,G'=G∧row.length+spr.length=cr∧zS [] 24 1 vn' (i+1) (rv++[.slice (some ⟨br,0,none⟩) row.length cr]) kn'∧zD [2,3,6,7,8,19,20,21] fr'=[(2,v2),(3,v3),(6,v6),(7, .pointer (some ⟨b7,0,none⟩)),(8,v8),(19,v19),(20,v20),(21,v21)]∧H'=(b7, .cells (zd d vn' vl vs) [] 27):: (kn'++((br, .cells (row.map (Value.int .i64)) spr 3)::H))):=by
 have hr1: ∀x:Value,List.replicate 1 x=[x]:=fun _=>rfl
 have hl2: ∀a b c:Value,(zd d a b c).length=260:=fun a b c=>zat hd _ _ _
 have hg1: ∀a b c:Value,(zd d a b c)[257]? =some a:=fun a b c=>zeb hd _ _ _
 have hputN: ∀a b c x:Value,zf (zd d a b c) 257 [x]=zd d x b c:=fun a b c x=>zcG hd _ _ _ _
 refine Tri.sepT fun hs0=>?_
 rcases hkn with ⟨aa,rfl,hi0,hx,rfl⟩| ⟨bl,cc,sp,rfl,rfl,hx,hcl⟩
 ·have hE:=hs0
  try simp only[zzs] at hE
  repeat(obtain⟨hx',hE⟩:=hE)
  refine Tri.piece (f:=Tryz.f96) rfl ?_
  refine Tri.run tok [0,1,2,3,6,7,8,9,10,19,20,21,22,38] Kk ?_
  repeat' first
   |with_reducible first|refine Nx.go ?_ |refine Bk.go (fun _=>?_) fun _=>?_ |refine Nb fun nb hnb hnb1 hnb2=>?_ |refine Nr fun nb nsp ncap hnb hncap hnb1 hnb2=>?_
   |simp -dsimp -implicitDefEqProofs (disch:=first|exact Kd|fail) only[go_sem,↓reduceIte,seval, -List.reduceReplicate,hl2,hg1,hputN,hr1]
   |with_reducible refine Tri.drawS tok mixed [0,1,2,3,6,7,8,9,10,19,20,21,22,38] 5 [1] (.op 0 .plain (.op 1 .held (.op 2 .plain (.op 3 .keeps (.op 4 .keeps (.op 5 .plain (.op 6 .plain (.op 7 .plain .nil)))))))) Kk [(b7, .cells (zd d (.slice aa 0 0) vl vs) [] 27)] Ks ?_
  refine zkz row hrl h9 fun v4 kb4 hs4 hO4=>?_
  rcases hO4 with ⟨_,_,h0,_,_⟩| ⟨br,cr,spr,rfl,rfl,hy,hyc⟩
  ·omega
  rw[List.length_map,Nat.mul_one] at hyc
  have hE:=hs4
  try simp only[zzs] at hE
  repeat(obtain⟨hx',hE⟩:=hE)
  repeat' first
   |with_reducible first|refine Nx.go ?_ |refine Bk.go (fun _=>?_) fun _=>?_ |refine Nb fun nb hnb hnb1 hnb2=>?_ |refine Nr fun nb nsp ncap hnb hncap hnb1 hnb2=>?_
   |simp -dsimp -implicitDefEqProofs (disch:=first|exact Kd|fail) only[go_sem,↓reduceIte,seval, -List.reduceReplicate,hl2,hg1,hputN,hr1]
  refine Upd.leave (H':=(b7, .cells (zd d (.slice (some ⟨nb,0,none⟩) 1 ncap) vl vs) [] 27):: ([(nb, .cells [.slice (some ⟨br,0,none⟩) row.length cr] nsp 24)]++((br, .cells (row.map (Value.int .i64)) spr 3)::H))) Ks ?_
  exact⟨_,_,br,cr,spr,rfl,by omega, .inr ⟨nb,ncap,nsp,by rw[hi0],by rw[hx];rfl,by rw[hx,hi0];rfl,by rw[hx];simp at hncap⊢;omega⟩,rfl,rfl⟩
 ·rw[Nat.mul_one] at hx hcl
  have hE:=hs0
  try simp only[zzs] at hE
  repeat(obtain⟨hx',hE⟩:=hE)
  refine Tri.piece (f:=Tryz.f96) rfl ?_
  refine Tri.run tok [0,1,2,3,6,7,8,9,10,19,20,21,22,38] Kk ?_
  repeat' first
   |with_reducible first|refine Nx.go ?_ |refine Bk.go (fun _=>?_) fun _=>?_ |refine Nb fun nb hnb hnb1 hnb2=>?_ |refine Nr fun nb nsp ncap hnb hncap hnb1 hnb2=>?_
   |simp -dsimp -implicitDefEqProofs (disch:=first|exact Kd|fail) only[go_sem,↓reduceIte,seval, -List.reduceReplicate,hl2,hg1,hputN,hr1]
   |with_reducible refine Tri.drawS tok mixed [0,1,2,3,6,7,8,9,10,19,20,21,22,38] 5 [1] (.op 0 .plain (.op 1 .held (.op 2 .plain (.op 3 .keeps (.op 4 .keeps (.op 5 .plain (.op 6 .plain (.op 7 .plain .nil)))))))) Kk [(b7, .cells (zd d (.slice (some ⟨bl,0,none⟩) i cc) vl vs) [] 27)] Ks ?_
  refine zkz row hrl h9 fun v4 kb4 hs4 hO4=>?_
  rcases hO4 with ⟨_,_,h0,_,_⟩| ⟨br,cr,spr,rfl,rfl,hy,hyc⟩
  ·omega
  rw[List.length_map,Nat.mul_one] at hyc
  have hE:=hs4
  try simp only[zzs] at hE
  repeat(obtain⟨hx',hE⟩:=hE)
  repeat' first
   |with_reducible first|refine Nx.go ?_ |refine Bk.go (fun _=>?_) fun _=>?_ |refine Nb fun nb hnb hnb1 hnb2=>?_ |refine Nr fun nb nsp ncap hnb hncap hnb1 hnb2=>?_
   |simp -dsimp -implicitDefEqProofs (disch:=first|exact Kd|fail) only[go_sem,↓reduceIte,seval, -List.reduceReplicate,hl2,hg1,hputN,hr1]
  refine Upd.leave (H':=(b7, .cells (zd d (.slice (some ⟨nb,0,none⟩) (i+1) ncap) vl vs) [] 27):: ([(nb, .cells (rv++[.slice (some ⟨br,0,none⟩) row.length cr]) nsp 24)]++((br, .cells (row.map (Value.int .i64)) spr 3)::H))) Ks ?_
  exact⟨_,_,br,cr,spr,rfl,by omega, .inr ⟨nb,ncap,nsp,rfl,rfl,by rw[List.length_append,hx];simp,by rw[List.length_append,hx];simp at hncap⊢;omega⟩,rfl,rfl⟩
theorem zzf {d:DfaT} (hd:d.of.length=256) {labs:List Int} {x:Int} {i:Nat} (hi:i≤70000) (hli:labs.length=i) {G:za} {H:zb} {v2 v3 v6 v19 v20 v21 vn vl vs:Value} {b7:Nat} {kl:zb} (hkl:zS [] 3 1 vl i (labs.map (Value.int .i64)) kl):
  Tri Tryz.prog Tryz.f96.ntmps (piece [1,1,0,1,0,0,1,1,0,0,1,1,1,1] Tryz.f96) G [(2,v2),(3,v3),(6,v6),(7, .pointer (some ⟨b7,0,none⟩)),(10, .int .i64 x),(19,v19),(20,v20),(21,v21)] ((b7, .cells (zd d vn vl vs) [] 27):: (kl++H)) (onlyN fun G' fr' H'=>
   ∃vl' kl',G'=G∧zS [] 3 1 vl' (i+1) ((labs++[x]).map (Value.int .i64)) kl'∧zD [2,3,6,7,19,20,21] fr'=[(2,v2),(3,v3),(6,v6),(7, .pointer (some ⟨b7,0,none⟩)),(19,v19),(20,v20),(21,v21)]∧H'=(b7, .cells (zd d vn vl' vs) [] 27):: (kl'++H)):=by
 have hr1: ∀x:Value,List.replicate 1 x=[x]:=fun _=>rfl
 have hl2: ∀a b c:Value,(zd d a b c).length=260:=fun a b c=>zat hd _ _ _
 have hg2: ∀a b c:Value,(zd d a b c)[258]? =some b:=fun a b c=>zdy hd _ _ _
 have hputL: ∀a b c x:Value,zf (zd d a b c) 258 [x]=zd d a x c:=fun a b c x=>zbK hd _ _ _ _
 refine Tri.sepT fun hs0=>?_
 rcases hkl with ⟨aa,rfl,hi0,hx,rfl⟩| ⟨bl,cc,sp,rfl,rfl,hx,hcl⟩
 ·have hE:=hs0
  try simp only[zzs] at hE
  repeat(obtain⟨hx',hE⟩:=hE)
  refine Tri.piece (f:=Tryz.f96) rfl ?_
  refine Tri.run tok [0,1,2,3,6,7,8,9,10,19,20,21,22,38] Kk ?_
  repeat' first
   |with_reducible first|refine Nx.go ?_ |refine Bk.go (fun _=>?_) fun _=>?_ |refine Nb fun nb hnb hnb1 hnb2=>?_ |refine Nr fun nb nsp ncap hnb hncap hnb1 hnb2=>?_
   |simp -dsimp -implicitDefEqProofs (disch:=first|exact Kd|fail) only[go_sem,↓reduceIte,seval, -List.reduceReplicate,hl2,hg2,hputL,hr1]
  refine Upd.leave (H':=(b7, .cells (zd d vn (.slice (some ⟨nb,0,none⟩) 1 ncap) vs) [] 27):: ([(nb, .cells [.int .i64 x] nsp 3)]++H)) Ks ?_
  exact⟨_,_,rfl, .inr ⟨nb,ncap,nsp,by rw[hi0],by rw[List.map_append,hx];rfl,by rw[List.map_append,hx,hi0];rfl,by rw[List.map_append,hx];simp at hncap⊢;omega⟩,rfl,rfl⟩
 ·rw[List.length_map,Nat.mul_one] at hx hcl
  have hE:=hs0
  try simp only[zzs] at hE
  repeat(obtain⟨hx',hE⟩:=hE)
  refine Tri.piece (f:=Tryz.f96) rfl ?_
  refine Tri.run tok [0,1,2,3,6,7,8,9,10,19,20,21,22,38] Kk ?_
  repeat' first
   |with_reducible first|refine Nx.go ?_ |refine Bk.go (fun _=>?_) fun _=>?_ |refine Nb fun nb hnb hnb1 hnb2=>?_ |refine Nr fun nb nsp ncap hnb hncap hnb1 hnb2=>?_
   |simp -dsimp -implicitDefEqProofs (disch:=first|exact Kd|fail) only[go_sem,↓reduceIte,seval, -List.reduceReplicate,hl2,hg2,hputL,hr1,List.length_map,hli]
  refine Upd.leave (H':=(b7, .cells (zd d vn (.slice (some ⟨nb,0,none⟩) (i+1) ncap) vs) [] 27):: ([(nb, .cells (labs.map (Value.int .i64)++[.int .i64 x]) nsp 3)]++H)) Ks ?_
  exact⟨_,_,rfl, .inr ⟨nb,ncap,nsp,rfl,by rw[List.map_append];rfl,by simp [hli],by simp at hncap⊢;omega⟩,rfl,rfl⟩
theorem zzg {d:DfaT} (hsm:zx d) (hok:zc d) {names:List Tx} (hnl:names.length≤2000000) {g:Tx→Int} {fid:FuncId} {bx:Nat} {XC:List Value} {tyX:TypeId} {G:za} {H:zb} {R:Value→za→zb→Prop} {v v1:Value} (hv:IsD G d v) (h1:Sl G str v1 names)
  (hBy: ∀ (s:Tx) (G1:za) (H1:zb) (R1:Value→za→zb→Prop),PLe G G1→s∈d.names→R1 (.int .i64 (g s)) G1 ((bx, .cells XC [] tyX)::H1)→FnT Tryz.prog fid [str s, .pointer (some ⟨bx,0,none⟩)] G1 ((bx, .cells XC [] tyX)::H1) R1)
  (hR: ∀G' vs bn cn spn rv bl cl spl F,PLe G G'→Sep G' (zm ((bn,Res.cells rv spn 24):: (bl, .cells ((zcK d g).map (Value.int .i64)) spl 3):: (F++((bx, .cells XC [] tyX)::H))))→Sl G' str vs names→Fam 3 rv (zdE d.next) F→d.label.length+spn.length=cn→d.label.length+spl.length=cl→
   R (.agg (zd d (.slice (some ⟨bn,0,none⟩) d.label.length cn) (.slice (some ⟨bl,0,none⟩) d.label.length cl) vs).toArray) G' ((bn, .cells rv spn 24):: (bl, .cells ((zcK d g).map (Value.int .i64)) spl 3):: (F++((bx, .cells XC [] tyX)::H)))):
  FnT Tryz.prog 96 [v,v1,(.func (.func fid) #[] #[.pointer (some ⟨bx,0,none⟩)])] G ((bx, .cells XC [] tyX)::H) R:=by
 obtain⟨C,an,al,ay,cn,cl,cs,rs,rfl,O⟩:=hv.opened
 obtain⟨hm1,hm2,hm3,hm4,hm5⟩:=id hsm
 obtain⟨hk1,hk2,hk3,hk4,hk5,hk6,hk7⟩:=id hok
 have hCl:=O.len
 have hCa:=O.all
 have hCn:=O.n
 have hCx:=O.l
 have hCs:=O.s
 have hww:d.width≤256:=by
  have h2:=zai d.of
  have h3:=O.ofl
  omega
 have hw1:1≤d.width:=by
  have h0:0<d.of.length:=by rw[O.ofl];omega
  have:=List.length_pos_of_mem ((zN d.of).2 (List.getElem_mem h0))
  omega
 have hl2: ∀a b c:Value,(zd d a b c).length=260:=fun a b c=>zat O.ofl _ _ _
 have ht2: ∀a b c:Value,List.take 260 (zd d a b c)=zd d a b c:=fun a b c=>zdM O.ofl _ _ _
 have hputz: ∀a b c:Value,zf zI 0 (zd d a b c)=zd d a b c:=fun a b c=>by
  unfold zf
  rw[List.take_zero,List.nil_append,List.drop_of_length_le (by rw[zn,hl2];omega),List.append_nil]
 have hLl:(zcK d g).length=d.label.length:=by unfold zcK;rw[List.length_map]
 have hMl:(zdE d.next).length=d.next.length:=by unfold zdE;rw[List.length_map]
 refine FnT.sep ?_
 refine FnT.bodyS tok [0,1,2,3,6,7,8,9,10,19,20,21,22,38] (.seq .run (.seq .cut .cut)) Tryz.func96 rfl Kk Kk (by show _≤59;simp) fun hsep=>?_
 rw[Tryz.results96]
 have hE:=hsep
 try simp only[zzs] at hE
 repeat(obtain⟨hx',hE⟩:=hE)
 repeat' first
  |with_reducible first|refine Nx.go ?_ |refine Bk.go (fun _=>?_) fun _=>?_ |refine Nb fun nb hnb hnb1 hnb2=>?_ |refine Nr fun nb nsp ncap hnb hncap hnb1 hnb2=>?_
  |simp -dsimp -implicitDefEqProofs (disch:=first|exact Kd|fail) only[go_sem,↓reduceIte,seval, -List.reduceReplicate,List.toList_toArray,hCl,hCa]
 rename_i b3 hb30 hb31 hb32
 obtain⟨b6,e0⟩: ∃x,x=nb:=⟨_,rfl⟩
 subst e0
 refine Tri.live [1,2,3,6] ?_
 refine Tri.upd (Upd.go (H':=(b3, .cells C [] 27):: (b6, .cells (List.replicate 256 (Value.int .u8 0)++[Value.int .i64 0,Value.slice none 0 0,Value.slice none 0 0,Value.slice none 0 0]) [] 27):: (bx, .cells XC [] tyX)::H) Ks (Upd.now ?_))
 refine Tri.isPiece [1,0] Tryz.f96 Kk ?_
 refine Tri.onlyN (zAP hsm hnl O h1) fun G1 l1 H1 hle1 hs1 hM=>?_
 obtain⟨b7,vs,_,hvs,hfr,rfl⟩:=hM
 simp only[go_sem]
 refine Tri.live [2,3,6,7] ?_
 rw[hfr]
 have hE:=hs1
 try simp only[zzs] at hE
 repeat(obtain⟨hx',hE⟩:=hE)
 have O1:=OpenD.mono hle1 O
 obtain⟨ay1,cy1,rfl,hry1,hcy1⟩:=id hvs
 refine Tri.run tok [0,1,2,3,6,7,8,9,10,19,20,21,22,38] Kk ?_
 repeat' first
  |with_reducible first|refine Nx.go ?_ |refine Bk.go (fun _=>?_) fun _=>?_ |refine Nb fun nb hnb hnb1 hnb2=>?_ |refine Nr fun nb nsp ncap hnb hncap hnb1 hnb2=>?_
  |simp -dsimp -implicitDefEqProofs (disch:=first|exact Kd|fail) only[go_sem,↓reduceIte,seval, -List.reduceReplicate,List.toList_toArray,hCl,hCn]
 refine Tri.loopS tok [0,1,2,3,6,7,8,9,10,19,20,21,22,38] (.seq .run (.seq .run (.seq (.block (.seq .run (.seq .cut .cut))) .cut))) Kk [2,3,6,7,19,20,21] (fun q G' fr H'=> ∃ (i:Nat) (vn vl:Value) (rv:List Value) (kn kl F:zb),i+q=d.next.length∧G'=G1∧zS [] 24 1 vn i rv kn∧zS [] 3 1 vl i (((zcK d g).take i).map (Value.int .i64)) kl∧Fam 3 rv ((zdE d.next).take i) F∧H'=(b7, .cells (zd d vn vl (.slice ay1 names.length cy1)) [] 27):: (b3, .cells C [] 27):: (b6, .cells zI [] 27):: (bx, .cells XC [] tyX):: (kn++(kl++(F++H)))∧fr=[(2,(.func (.func fid) #[] #[.pointer (some ⟨bx,0,none⟩)])),(3, .pointer (some ⟨b3,0,none⟩)),(6, .pointer (some ⟨b6,0,none⟩)),(7, .pointer (some ⟨b7,0,none⟩)),(19, .slice an d.next.length cn),(20, .int .i64 d.next.length),(21, .int .i64 (i:Nat))]) (d.next.length) ?_ ?_
 ·exact Upd.now ⟨0,_,_,[],[],[],[],by omega,rfl, .inl ⟨none,rfl,rfl,rfl,rfl⟩, .inl ⟨none,rfl,rfl,rfl,rfl⟩,Fam.nil 3,rfl,rfl⟩
 ·rintro q G2 fr H' hle2 hs2 ⟨i,vn,vl,rv,kn,kl,F,hiq,rfl,hkn,hkl,hF,rfl,rfl⟩
  have hE:=hs2
  try simp only[zzs] at hE
  repeat(obtain⟨hx',hE⟩:=hE)
  by_cases hil:i<d.next.length
  ·have hiv:i<rs.length:=by have:=O1.rnl;omega
   have hilb:i<d.label.length:=by omega
   obtain⟨b,c,e1,e2,e3⟩:=O1.rs i hil hiv
   obtain⟨hw0,hlt0,hlt1,hrng⟩:=hk7 i hil hilb
   have hadn:Adr an:=O1.rn.adr Ko
   have hadl:Adr al:=O1.rl.adr (by rw[List.length_map];omega)
   have hrl:=hm2 _ (List.getElem_mem hil)
   repeat' first
    |with_reducible first|refine Nx.go ?_ |refine Bk.go (fun _=>?_) fun _=>?_ |refine Nb fun nb hnb hnb1 hnb2=>?_ |refine Nr fun nb nsp ncap hnb hncap hnb1 hnb2=>?_
    |simp -dsimp -implicitDefEqProofs (disch:=first|exact Kd|fail) only[go_sem,↓reduceIte,seval, -List.reduceReplicate,List.toList_toArray,Row.obj O1.rn,e1]
   refine Tri.upd (Upd.go (H':=(b7, .cells (zd d vn vl (.slice ay1 names.length cy1)) [] 27):: (kn++((b3, .cells C [] 27):: (b6, .cells zI [] 27):: (bx, .cells XC [] tyX):: (kl++(F++H))))) Ks (Upd.now ?_))
   refine Tri.live [2,3,6,7,8,9,19,20,21] ?_
   refine Tri.isPiece [1,1,0,1,0,0,1,1,0,0,1,0] Tryz.f96 Kk ?_
   refine Tri.onlyN (zAQ (row:=d.next[i]) O.ofl hrl Ko (i:=i) Ko ⟨b,c,rfl,e2,e3⟩ hkn) fun G3 l3 H3 hle3 hs3 hM3=>?_
   obtain⟨vn',kn',br,cr,spr,rfl,hcr,hkn',hfr3,rfl⟩:=hM3
   simp only[go_sem]
   refine Tri.live [2,3,6,7,8,19,20,21] ?_
   rw[hfr3]
   have hF':=hF.snoc (b:=br) (c:=cr) (r:=d.next[i].map (Value.int .i64)) (sp:=spr) (by rw[List.length_map];exact hcr)
   rw[List.length_map] at hF'
   have hMs:(zdE d.next).take (i+1)=(zdE d.next).take i++[d.next[i].map (Value.int .i64)]:=by
    rw[List.take_succ_eq_append_getElem Ko]
    simp only[zdE,List.getElem_map]
   rw[←hMs] at hF'
   obtain⟨F',hFd⟩: ∃F',F'=F++[(br,Res.cells (d.next[i].map (Value.int .i64)) spr 3)]:=⟨_,rfl⟩
   rw[←hFd] at hF'
   refine Tri.upd (Upd.go (H':=(b7, .cells (zd d vn' vl (.slice ay1 names.length cy1)) [] 27):: (b3, .cells C [] 27):: (b6, .cells zI [] 27):: (bx, .cells XC [] tyX):: (kl++(kn'++(F'++H)))) (by rw[hFd];exact Ks) (Upd.now ?_))
   refine Tri.sepT fun hs4=>?_
   have hE:=hs4
   try simp only[zzs] at hE
   repeat(obtain⟨hx',hE⟩:=hE)
   have hlx:(zcK d g).take (i+1)=(zcK d g).take i++[if 0<d.label[i] then g (zaT d d.label[i]) else 0]:=by
    rw[List.take_succ_eq_append_getElem Ko]
    simp only[zcK,List.getElem_map]
   refine Tri.runS tok [0,1,2,3,6,7,8,9,10,19,20,21,22,38] (.seq .run (.seq .run .cut)) Kk ?_
   by_cases h0:0<d.label[i]
   ·rw[if_pos h0] at hlx
    obtain⟨n,hn⟩: ∃n:Nat,d.label[i]=(n:Int)+1:=⟨(d.label[i] - 1).toNat,by omega⟩
    have hnl2:n<d.names.length:=by omega
    rw[hn,ze1 hnl2] at hlx
    have hady:Adr ay:=O1.ry.adr (by rw[List.length_map];omega)
    have hsub:((n:Int)+1) - 1=(n:Nat):=by omega
    repeat' first
     |with_reducible first|refine Nx.go ?_ |refine Bk.go (fun _=>?_) fun _=>?_ |refine Nb fun nb hnb hnb1 hnb2=>?_ |refine Nr fun nb nsp ncap hnb hncap hnb1 hnb2=>?_
     |simp -dsimp -implicitDefEqProofs (disch:=first|exact Kd|fail) only[go_sem,↓reduceIte,seval, -List.reduceReplicate,List.toList_toArray,hCl,hCx,hCs,Row.obj O1.rl,Row.obj O1.ry,List.getElem_map,hn,hsub]
     |with_reducible refine Tri.drawS tok mixed [0,1,2,3,6,7,8,9,10,19,20,21,22,38] 8 [2,4,7,10] (.op 0 .plain (.op 1 .plain (.op 2 .held (.op 3 .plain (.op 4 .held (.op 5 .plain (.op 6 .plain (.op 7 .held (.op 8 .plain (.op 9 .plain (.op 10 .held (.op 11 .keeps (.op 12 .plain .nil))))))))))))) Kk [(b3, .cells C [] 27)] Ks ?_
    refine FnT.rd ((bx, .cells XC [] tyX):: (b7, .cells (zd d vn' vl (.slice ay1 names.length cy1)) [] 27):: (b3, .cells C [] 27):: (b6, .cells zI [] 27):: (kl++(kn'++(F'++H)))) (v:= .int .i64 (g d.names[n])) (fun R' hR'=>hBy d.names[n] _ _ R' hle1 (List.getElem_mem _) hR') Ks Ks ?_
    repeat' first
     |with_reducible first|refine Nx.go ?_ |refine Bk.go (fun _=>?_) fun _=>?_ |refine Nb fun nb hnb hnb1 hnb2=>?_ |refine Nr fun nb nsp ncap hnb hncap hnb1 hnb2=>?_
     |simp -dsimp -implicitDefEqProofs (disch:=first|exact Kd|fail) only[go_sem,↓reduceIte,seval, -List.reduceReplicate,List.toList_toArray,hCl]
    refine Tri.upd (Upd.go (H':=(b7, .cells (zd d vn' vl (.slice ay1 names.length cy1)) [] 27):: (kl++((b3, .cells C [] 27):: (b6, .cells zI [] 27):: (bx, .cells XC [] tyX):: (kn'++(F'++H))))) Ks (Upd.now ?_))
    refine Tri.live [2,3,6,7,10,19,20,21] ?_
    refine Tri.isPiece [1,1,0,1,0,0,1,1,0,0,1,1,1,1] Tryz.f96 Kk ?_
    refine Tri.onlyN (zzf (labs:=(zcK d g).take i) (x:=g d.names[n]) O.ofl (i:=i) Ko (by rw[List.length_take];omega) hkl) fun G5 l5 H5 hle5 hs5 hM5=>?_
    obtain⟨vl',kl',rfl,hkl',hfr5,rfl⟩:=hM5
    simp only[go_sem]
    refine Tri.live [2,3,6,7,19,20,21] ?_
    rw[hfr5]
    refine Tri.run tok [0,1,2,3,6,7,8,9,10,19,20,21,22,38] Kk ?_
    repeat' first
     |with_reducible first|refine Nx.go ?_ |refine Bk.go (fun _=>?_) fun _=>?_ |refine Nb fun nb hnb hnb1 hnb2=>?_ |refine Nr fun nb nsp ncap hnb hncap hnb1 hnb2=>?_
     |simp -dsimp -implicitDefEqProofs (disch:=first|exact Kd|fail) only[go_sem,↓reduceIte,seval, -List.reduceReplicate]
    rw[←hlx] at hkl'
    refine Upd.leave (H':=(b7, .cells (zd d vn' vl' (.slice ay1 names.length cy1)) [] 27):: (b3, .cells C [] 27):: (b6, .cells zI [] 27):: (bx, .cells XC [] tyX):: (kn'++(kl'++(F'++H)))) Ks ?_
    exact⟨q - 1,by omega,i+1,vn',vl',_,kn',kl',F',by omega,rfl,hkn',hkl',hF',rfl,rfl⟩
   ·rw[if_neg h0] at hlx
    repeat' first
     |with_reducible first|refine Nx.go ?_ |refine Bk.go (fun _=>?_) fun _=>?_ |refine Nb fun nb hnb hnb1 hnb2=>?_ |refine Nr fun nb nsp ncap hnb hncap hnb1 hnb2=>?_
     |simp -dsimp -implicitDefEqProofs (disch:=first|exact Kd|fail) only[go_sem,↓reduceIte,seval, -List.reduceReplicate,List.toList_toArray,hCl,hCx,Row.obj O1.rl,List.getElem_map]
    refine Tri.upd (Upd.go (H':=(b7, .cells (zd d vn' vl (.slice ay1 names.length cy1)) [] 27):: (kl++((b3, .cells C [] 27):: (b6, .cells zI [] 27):: (bx, .cells XC [] tyX):: (kn'++(F'++H))))) Ks (Upd.now ?_))
    refine Tri.live [2,3,6,7,10,19,20,21] ?_
    refine Tri.isPiece [1,1,0,1,0,0,1,1,0,0,1,1,1,1] Tryz.f96 Kk ?_
    refine Tri.onlyN (zzf (labs:=(zcK d g).take i) (x:=0) O.ofl (i:=i) Ko (by rw[List.length_take];omega) hkl) fun G5 l5 H5 hle5 hs5 hM5=>?_
    obtain⟨vl',kl',rfl,hkl',hfr5,rfl⟩:=hM5
    simp only[go_sem]
    refine Tri.live [2,3,6,7,19,20,21] ?_
    rw[hfr5]
    refine Tri.run tok [0,1,2,3,6,7,8,9,10,19,20,21,22,38] Kk ?_
    repeat' first
     |with_reducible first|refine Nx.go ?_ |refine Bk.go (fun _=>?_) fun _=>?_ |refine Nb fun nb hnb hnb1 hnb2=>?_ |refine Nr fun nb nsp ncap hnb hncap hnb1 hnb2=>?_
     |simp -dsimp -implicitDefEqProofs (disch:=first|exact Kd|fail) only[go_sem,↓reduceIte,seval, -List.reduceReplicate]
    rw[←hlx] at hkl'
    refine Upd.leave (H':=(b7, .cells (zd d vn' vl' (.slice ay1 names.length cy1)) [] 27):: (b3, .cells C [] 27):: (b6, .cells zI [] 27):: (bx, .cells XC [] tyX):: (kn'++(kl'++(F'++H)))) Ks ?_
    exact⟨q - 1,by omega,i+1,vn',vl',_,kn',kl',F',by omega,rfl,hkn',hkl',hF',rfl,rfl⟩
  ·obtain rfl:i=d.next.length:=by omega
   rcases hkn with ⟨_,_,h0,_,_⟩| ⟨bn,cn2,spn,rfl,rfl,hx,hxc⟩
   ·omega
   rcases hkl with ⟨_,_,h0,_,_⟩| ⟨bl,cl2,spl,rfl,rfl,hy,hyc⟩
   ·omega
   rw[List.take_of_length_le Ko] at hF
   rw[List.take_of_length_le Ko] at hs2 hy hyc⊢
   rw[List.length_map,Nat.mul_one] at hyc
   rw[Nat.mul_one] at hx hxc
   have hE:=hs2
   try simp only[zzs] at hE
   repeat(obtain⟨hx',hE⟩:=hE)
   have hone:=zbe (d:=d) (vn:= .slice (some ⟨bn,0,none⟩) d.next.length cn2) (vl:= .slice (some ⟨bl,0,none⟩) d.next.length cl2) (vs:= .slice ay1 names.length cy1) rfl rfl rfl
   repeat' first
    |with_reducible first|refine Nx.go ?_ |refine Bk.go (fun _=>?_) fun _=>?_ |refine Nb fun nb hnb hnb1 hnb2=>?_ |refine Nr fun nb nsp ncap hnb hncap hnb1 hnb2=>?_
    |simp -dsimp -implicitDefEqProofs (disch:=first|exact Kd|fail) only[go_sem,↓reduceIte,seval, -List.reduceReplicate,List.toList_toArray,hl2,ht2,hputz,hone,zn]
   unfold zv
   refine Upd.leave (H':=(bn, .cells rv spn 24):: (bl, .cells ((zcK d g).map (Value.int .i64)) spl 3):: (F++((bx, .cells XC [] tyX)::H))) Ks ?_
   rw[hk3]
   exact fun _ hs=>hR _ _ bn cn2 spn rv bl cl2 spl F hle1 hs hvs hF Ko Ko
end Go.Proofs.YtomdbjfdbkejoaaGreatDoor
namespace Go.Proofs.YtomdbjfdbkejoaaGreatDoor
open Go Go.V Go.Proofs
def zfQ (d:DfaT) (names:List Tx) (g:Tx→Int):DfaT:=⟨d.of,d.width,d.next,zcK d g,names⟩
theorem zgt (d:DfaT) (g:Tx→Int):(zcK d g).length=d.label.length:=by unfold zcK;rw[List.length_map]
theorem zp8 {d:DfaT} (hsm:zx d) {names:List Tx} (h1:names.length≤2000000) (h2: ∀s∈names,s.length≤2000000) (g:Tx→Int):zx (zfQ d names g):=
 ⟨hsm.1,hsm.2.1,by show(zcK d g).length≤_;rw[zgt];exact hsm.2.2.1,h1,h2⟩
theorem zwC {rows:List (List Int)} {G:za} {bn cn n:Nat} {rv:List Value} (hn:rows.length=n) (hr:Row G (some ⟨bn,0,none⟩) rv) (hrv:rv.length=n) (hc:n≤cn) (h: ∀i (hi:i< (zdE rows).length) (h1:i<rv.length),∃a c,rv[i]= .slice a (zdE rows)[i].length c∧Row G a (zdE rows)[i]∧(zdE rows)[i].length≤c):SlS G (.slice (some ⟨bn,0,none⟩) n cn) rows:=by
 refine⟨_,cn,rv,by rw[hn],hr,by omega,by omega,fun i hi h2=>?_⟩
 have hml:(zdE rows).length=rows.length:=by unfold zdE;rw[List.length_map]
 obtain⟨a,c,e1,e2,e3⟩:=h i Ko h2
 have hg:(zdE rows)[i]'Ko=rows[i].map (Value.int .i64):=by simp only[zdE,List.getElem_map]
 rw[hg] at e1 e2 e3
 rw[List.length_map] at e1 e3
 exact⟨a,c,e1,e2,e3⟩
theorem zym {d:DfaT} (hsm:zx d) (hok:zc d) {names:List Tx} (hnl:names.length≤2000000) {g:Tx→Int} {fid:FuncId} {bx:Nat} {XC:List Value} {tyX:TypeId} {G:za} {H:zb} {R:Value→za→zb→Prop} {v v1:Value} (hv:IsD G d v) (h1:Sl G str v1 names)
  (hBy: ∀ (s:Tx) (G1:za) (H1:zb) (R1:Value→za→zb→Prop),PLe G G1→s∈d.names→R1 (.int .i64 (g s)) G1 ((bx, .cells XC [] tyX)::H1)→FnT Tryz.prog fid [str s, .pointer (some ⟨bx,0,none⟩)] G1 ((bx, .cells XC [] tyX)::H1) R1)
  (hR: ∀G' v',PLe G G'→Sep G' (zm ((bx,Res.cells XC [] tyX)::H))→IsD G' (zfQ d names g) v'→R v' G' ((bx, .cells XC [] tyX)::H)):
  FnT Tryz.prog 96 [v,v1, .func (.func fid) #[] #[.pointer (some ⟨bx,0,none⟩)]] G ((bx, .cells XC [] tyX)::H) R:=by
 obtain⟨hof,hofb,_⟩:=id hv
 refine FnT.upd (zzg hsm hok hnl hv h1 hBy fun G1 vs bn cn spn rv bl cl spl F hle hs hvs hF hcn hcl=>?_)
 have hk3:=hok.2.2.1
 have hml:(zdE d.next).length=d.next.length:=by unfold zdE;rw[List.length_map]
 have hrv:=hF.lenv
 refine Upd.trans (Upd.shareRow hs.1.1 fun G2 hle2 hs2 hr2=>?_)
 refine Upd.trans (Upd.shareRow hs2.1.1 fun G3 hle3 hs3 hr3=>?_)
 refine hF.share hs3 fun G4 hle4 hs4 hall=>?_
 refine hR G4 _ (hle.trans (hle2.trans (hle3.trans hle4))) hs4 ⟨hof,hofb,_,_,_,rfl,?_,?_,hvs.mono (hle2.trans (hle3.trans hle4))⟩
 ·exact zwC (rows:=d.next) Ko (hr2.mono (hle3.trans hle4)) Ko Ko hall
 ·exact⟨_,cl,by show Value.slice _ _ _=Value.slice _ (zcK d g).length _;rw[zgt],hr3.mono hle4,by show(zcK d g).length≤_;rw[zgt];omega⟩
theorem zqP {G:za} {d:DfaT} {C:List Value} (h:IsD G d (.agg C.toArray)):C.all zaL=true:=by
 obtain⟨_,_,vn,vl,vs,e,⟨an,cn,rs,rfl,_⟩,⟨al,cl,rfl,_⟩,⟨ay,cy,rfl,_⟩⟩:=h
 have e2:=congrArg (fun v=>match v with|Value.agg a=>a.toList|_=>[]) e
 simp only[List.toList_toArray] at e2
 rw[e2];exact zbe rfl rfl rfl
theorem zwD {C D:List Value} (h:C.length=260) (h2:D.length=260):zf C 0 D=D:=by
 unfold zf
 rw[List.take_zero,List.nil_append,List.drop_of_length_le Ko,List.append_nil]
theorem zqQ {C:List Value} (h:C.length=260):zf zI 0 C=C:=zwD zn h
def zdb (l:List Tx):DfaT:=⟨List.replicate 256 0,1,[[0]],[0],l⟩
theorem zoY {l:List Tx}:zc (zdb l)↔zbm l:=by
 constructor
 ·exact fun h=>h.2.2.2.2.2.1
 ·intro h
  refine⟨Nat.le_refl 1,(by show 1≤65536;omega),rfl,(by show zg (List.replicate 256 (0 :Int))=List.replicate 256 0;decide+kernel),by show((zk (List.replicate 256 (0 :Int))).length:Int)=1;decide+kernel,h,fun s h1 h2=>?_⟩
  have h3:s<1:=h1
  obtain rfl:s=0:=by omega
  refine⟨rfl,Int.le_refl _,by show(0 :Int)≤(l.length:Nat);omega,fun t ht=>?_⟩
  have:t∈[(0 :Int)]:=ht
  rw[List.mem_singleton] at this
  subst this
  exact⟨Int.le_refl _,(by show(0 :Int) <1;omega)⟩
theorem zsq {l:List Tx} (h1:l.length≤2000000) (h2: ∀s∈l,s.length≤2000000):zx (zdb l):=by
 refine⟨by show 1≤_;omega,fun r hr=>?_,by show 1≤_;omega,h1,h2⟩
 have:r∈[[(0 :Int)]]:=hr
 rw[List.mem_singleton] at this
 subst this
 show 1≤_;omega
theorem zzh:zf zI 256 [Value.int .i64 1]=zd (zdb []) (.slice none 0 0) (.slice none 0 0) (.slice none 0 0):=by
 have h0:zI=u8L (zdb []).of++[Value.int .i64 0,Value.slice none 0 0,Value.slice none 0 0,Value.slice none 0 0]:=by
  unfold zdb u8L
  rw[List.map_replicate]
 rw[h0]
 exact zfX (d:=zdb []) List.length_replicate
theorem zoZ:V.Callee Tryz.prog 15:=⟨_,_,Tryz.func15,rfl,by kernel_rfl⟩
theorem zuC {l:List Tx} (hl:l.length≤2000000) (hls: ∀s∈l,s.length≤2000000) {G:za} {H:zb} {R:Value→za→zb→Prop} {v:Value} (hv:Sl G str v l)
  (hR: ∀G',PLe G G'→Sep G' (zm H)→R (.bool (zaF (zbm l))) G' H):FnT Tryz.prog 95 [v] G H R:=by
 have hd:(zdb []).of.length=256:=List.length_replicate
 have hr1: ∀x:Value,List.replicate 1 x=[x]:=fun _=>rfl
 have hl2: ∀a b c:Value,(zd (zdb []) a b c).length=260:=fun a b c=>zat hd _ _ _
 have ht2: ∀a b c:Value,List.take 260 (zd (zdb []) a b c)=zd (zdb []) a b c:=fun a b c=>zdM hd _ _ _
 have hputN: ∀a b c x:Value,zf (zd (zdb []) a b c) 257 [x]=zd (zdb []) x b c:=fun a b c x=>zcG hd _ _ _ _
 have hputL: ∀a b c x:Value,zf (zd (zdb []) a b c) 258 [x]=zd (zdb []) a x c:=fun a b c x=>zbK hd _ _ _ _
 have hputS: ∀a b c x:Value,zf (zd (zdb []) a b c) 259 [x]=zd (zdb []) a b x:=fun a b c x=>zeQ hd _ _ _ _
 obtain⟨ay,cy,rfl,hry,hcy⟩:=hv
 refine FnT.sep ?_
 refine FnT.body tok [0,2] Tryz.func95 rfl Kk Kk (by show _≤9;simp) fun hsep=>?_
 rw[Tryz.results95]
 have hE:=hsep
 try simp only[zzs] at hE
 repeat(obtain⟨hx',hE⟩:=hE)
 repeat' first
  |with_reducible first|refine Nx.go ?_ |refine Bk.go (fun _=>?_) fun _=>?_ |refine Nb fun nb hnb hnb1 hnb2=>?_ |refine Nr fun nb nsp ncap hnb hncap hnb1 hnb2=>?_
  |simp -dsimp -implicitDefEqProofs (disch:=first|exact Kd|fail) only[go_sem,↓reduceIte,seval, -List.reduceReplicate,List.toList_toArray,hr1,zn,zzh,hl2,ht2,hputN,hputL,hputS]
 rename_i c1 y11 y12 y13 c2 y21 y22 y23
 obtain⟨c3,e0⟩: ∃x,x=nb:=⟨_,rfl⟩
 subst e0
 refine FnT.pre zoZ (Upd.go (H':=(c3, .cells [.int .i64 0] [] 3):: (c2, .cells [.slice (some ⟨c1,0,none⟩) 1 1] [] 24):: (c1, .cells [.int .i64 0] [] 3)::H) Ks ?_)
 refine Upd.trans (Upd.shareRow Ka fun G1 hle1 hs1 r3=>?_)
 refine Upd.trans (Upd.shareRow hs1.1.1 fun G2 hle2 hs2 r2=>?_)
 refine Upd.shareRow hs2.1.1 fun G3 hle3 hs3 r1=>?_
 have k2:=hle3
 have k1:=hle2.trans k2
 have k0:=hle1.trans k1
 have hI:IsD G3 (zdb l) (.agg (zd (zdb []) (.slice (some ⟨c2,0,none⟩) 1 1) (.slice (some ⟨c3,0,none⟩) 1 1) (.slice ay l.length cy)).toArray):=by
  refine⟨hd,fun x hx=>?_,_,_,_,rfl,⟨some ⟨c2,0,none⟩,1,_,rfl,r2.mono k2,rfl,Nat.le_refl 1,fun i h h2=>?_⟩,⟨some ⟨c3,0,none⟩,1,rfl,r3.mono k1,Nat.le_refl 1⟩,⟨ay,cy,rfl,hry.mono k0,hcy⟩⟩
  ·have:x=0:=List.eq_of_mem_replicate hx
   omega
  ·have h3:i<1:=h
   match i,h3 with
   |0,_=>exact⟨_,_,rfl,r1,Nat.le_refl 1⟩
 have hb:zaF (zc (zdb l))=zaF (zbm l):=by
  by_cases h:zbm l
  ·rw[zK h,zK (zoY.2 h)]
  ·rw[zA h,zA fun h2=>h (zoY.1 h2)]
 refine zaE (zsq hl hls) hI ?_
 rw[hb]
 repeat' first
  |with_reducible first|refine Nx.go ?_ |refine Bk.go (fun _=>?_) fun _=>?_ |refine Nb fun nb hnb hnb1 hnb2=>?_ |refine Nr fun nb nsp ncap hnb hncap hnb1 hnb2=>?_
  |simp -dsimp -implicitDefEqProofs (disch:=first|exact Kd|fail) only[go_sem,↓reduceIte,seval, -List.reduceReplicate]
 unfold zv
 exact Upd.now fun _ hs=>hR G3 k0 hs
def zjE (d:DfaT) (l:List Tx):DfaT:=zfQ d l fun s=>zz l s+1
noncomputable def zcd (d:DfaT) (l:List Tx):DfaT×Int:=
 haveI:=Classical.propDecidable
 if zc d then if zbm l then if ∀s∈za7 d,s∈l then(zjE d l,0) else(zao,5) else(zao,1) else(zao,6)
theorem zlG {d:DfaT} {l:List Tx} (h: ¬zc d):zcd d l=(zao,6):=by unfold zcd;rw[if_neg h]
theorem zsr {d:DfaT} {l:List Tx} (h:zc d) (h2: ¬zbm l):zcd d l=(zao,1):=by unfold zcd;rw[if_pos h,if_neg h2]
theorem zp9 {d:DfaT} {l:List Tx} (h:zc d) (h2:zbm l) (h3: ¬ ∀s∈za7 d,s∈l):zcd d l=(zao,5):=by unfold zcd;rw[if_pos h,if_pos h2,if_neg h3]
theorem zm2 {d:DfaT} {l:List Tx} (h:zc d) (h2:zbm l) (h3: ∀s∈za7 d,s∈l):zcd d l=(zjE d l,0):=by unfold zcd;rw[if_pos h,if_pos h2,if_pos h3]
theorem zwE {l:List Tx} (hl:l.length≤2000000) {bx:Nat} {s:Tx} {G:za} {H:zb} {R:Value→za→zb→Prop} {v:Value} (hv:Sl G str v l) (hR:R (.int .i64 (zz l s+1)) G ((bx, .cells [v] [] 25)::H)):
  FnT Tryz.prog 97 [str s, .pointer (some ⟨bx,0,none⟩)] G ((bx, .cells [v] [] 25)::H) R:=by
 refine FnT.upd ?_
 have hb: -1≤zz l s∧zz l s≤2000000:=by
  cases hp:place l s with
  |none=>rw[zdL hp];omega
  |some n=>
   have:=(z6 hp).1
   rw[zH hp];omega
 refine FnT.body tok [0,1,3] Tryz.func97 rfl Kk Kk (by show _≤8;simp) fun hsep=>?_
 rw[Tryz.results97]
 have hE:=hsep
 try simp only[zzs] at hE
 repeat(obtain⟨hx',hE⟩:=hE)
 repeat' first
  |with_reducible first|refine Nx.go ?_ |refine Bk.go (fun _=>?_) fun _=>?_ |refine Nb fun nb hnb hnb1 hnb2=>?_
  |simp -dsimp -implicitDefEqProofs (disch:=first|exact Kd|fail) only[go_sem,↓reduceIte,seval]
  |with_reducible refine zqt l s hl hv ?_
 all_goals refine Upd.finL ?_ (Upd.now hR) ?_
 any_goals first|exact Ks|skip
 all_goals rfl
theorem zwF {d:DfaT} (hsm:zx d) {l:List Tx} (hl:l.length≤2000000) (hls: ∀s∈l,s.length≤2000000) {G:za} {H:zb} {R:Value→za→zb→Prop} {v w:Value} (hv:IsD G d v) (hw:Sl G str w l)
  (hR: ∀G' v',PLe G G'→Sep G' (zm H)→IsD G' (zcd d l).1 v'→R (.tuple #[v', .int .i64 (zcd d l).2]) G' H):FnT Tryz.prog 64 [v,w] G H R:=by
 obtain⟨C,an,al,ay,cn,cl,cs,rs,rfl,O⟩:=hv.opened
 have hCl:=O.len
 have hCa:=O.all
 have hw0:=hw
 obtain⟨aw,cw,rfl,hrw,hcw⟩:=hw
 refine FnT.sep ?_
 by_cases hok:zc d
 ·have hb:=zK hok
  by_cases hf:zbm l
  ·have hb2:=zK hf
   refine FnT.body tok [0,1,2,3,4,5,7,8,13,19,20,21,22,28] Tryz.func64 rfl Kk Kk (by show _≤35;simp) fun hsep=>?_
   rw[Tryz.results64]
   have hE:=hsep
   try simp only[zzs] at hE
   repeat(obtain⟨hx',hE⟩:=hE)
   repeat' first
    |with_reducible first|refine Nx.go ?_ |refine Bk.go (fun _=>?_) fun _=>?_ |refine Nb fun nb hnb hnb1 hnb2=>?_ |refine Nr fun nb nsp ncap hnb hncap hnb1 hnb2=>?_
    |simp -dsimp -implicitDefEqProofs (disch:=first|exact Kd|fail) only[go_sem,↓reduceIte,seval, -List.reduceReplicate,List.toList_toArray,hCl,hCa,zn,zad,zaf,zaw,hb,hb2]
    |with_reducible refine zaE hsm O.is ?_
    | ((with_reducible refine zuC hl hls hw0 fun G2 hle2 hs2=>?_);(have hE:=hs2;try simp only[zzs] at hE;repeat(obtain⟨hx',hE⟩:=hE)))
   rename_i b2 h20 h21 h22 b3 h30 h31 h32 q1 q2 q3 q4 q5 q6 q7 q8
   obtain⟨b4,e0⟩: ∃x,x=nb:=⟨_,rfl⟩
   subst e0
   refine zuB hsm (O.is.mono hle2) fun G3 v3 hle3 hs3 hsl3=>?_
   rw[zih hok] at hsl3
   obtain⟨u,hu⟩: ∃u,u=za7 d:=⟨_,rfl⟩
   have hul:u.length≤64:=by
    have:=zi9 d
    have:=hf
    have:=hok.2.2.2.2.2.1.1
    rw[hu];omega
   have hcase:(∀s∈u,s∈l)→zcd d l=(zjE d l,0):=fun h=>zm2 hok hf (by rw[←hu];exact h)
   have hcase2:(¬ ∀s∈u,s∈l)→zcd d l=(zao,5):=fun h=>zp9 hok hf (by rw[←hu];exact h)
   rw[←hu] at hsl3
   clear hu
   obtain⟨au,cu,rfl,hru,hcu⟩:=hsl3
   have k3:=hle2.trans hle3
   have hw3:=hw0.mono k3
   have hE:=hs3
   try simp only[zzs] at hE
   repeat(obtain⟨hx',hE⟩:=hE)
   repeat' first
    |with_reducible first|refine Nx.go ?_ |refine Bk.go (fun _=>?_) fun _=>?_ |refine Nb fun nb hnb hnb1 hnb2=>?_ |refine Nr fun nb nsp ncap hnb hncap hnb1 hnb2=>?_
    |simp -dsimp -implicitDefEqProofs (disch:=first|exact Kd|fail) only[go_sem,↓reduceIte,seval, -List.reduceReplicate,List.toList_toArray,hCl,hCa]
   refine Tri.loopU tok [0,1,2,3,4,5,7,8,13,19,20,21,22,28] Kk [2,3,4,5,19,20,21] (fun q G' fr H'=> ∃i:Nat,i+q=u.length∧(∀j (h:j<u.length),j<i→u[j]∈l)∧G'=G3∧H'=(b4, .cells zI [] 27):: (b3, .cells [.slice aw l.length cw] [] 25):: (b2, .cells C [] 27)::H∧fr=[(2, .pointer (some ⟨b2,0,none⟩)),(3, .pointer (some ⟨b3,0,none⟩)),(4, .pointer (some ⟨b4,0,none⟩)),(5, .int .i64 0),(19, .slice au u.length cu),(20, .int .i64 u.length),(21, .int .i64 (i:Nat))]) (u.length) ?_ ?_
   ·exact Upd.now ⟨0,by omega,fun j _ h=>by omega,rfl,rfl,rfl⟩
   ·rintro q G4 fr H' hle4 hs4 ⟨i,hiq,hall,rfl,rfl,rfl⟩
    have hE:=hs4
    try simp only[zzs] at hE
    repeat(obtain⟨hx',hE⟩:=hE)
    by_cases hil:i<u.length
    ·have had:Adr au:=hru.adr (by rw[List.length_map];omega)
     by_cases hm:u[i]∈l
     ·have hdm:=decide_eq_true hm
      repeat' first
       |with_reducible first|refine Nx.go ?_ |refine Bk.go (fun _=>?_) fun _=>?_ |refine Nb fun nb hnb hnb1 hnb2=>?_ |refine Nr fun nb nsp ncap hnb hncap hnb1 hnb2=>?_
       |simp -dsimp -implicitDefEqProofs (disch:=first|exact Kd|fail) only[go_sem,↓reduceIte,seval, -List.reduceReplicate,Row.obj hru,List.getElem_map,hdm]
       |with_reducible refine zhT l _ hl hw3 ?_
      exact Upd.now ⟨q - 1,by omega,i+1,by omega,fun j h hj=>by
       by_cases e:j=i
       ·subst e;exact hm
       ·exact hall j h Ko,rfl,rfl,rfl⟩
     ·have hdm:=decide_eq_false hm
      rw[hcase2 fun h=>hm (h _ (List.getElem_mem hil))] at hR
      repeat' first
       |with_reducible first|refine Nx.go ?_ |refine Bk.go (fun _=>?_) fun _=>?_ |refine Nb fun nb hnb hnb1 hnb2=>?_ |refine Nr fun nb nsp ncap hnb hncap hnb1 hnb2=>?_
       |simp -dsimp -implicitDefEqProofs (disch:=first|exact Kd|fail) only[go_sem,↓reduceIte,seval, -List.reduceReplicate,Row.obj hru,List.getElem_map,hdm,zn,zad,zaf,zaw]
       |with_reducible refine zhT l _ hl hw3 ?_
      unfold zv
      refine Upd.leave (H':=H) Ks ?_
      exact fun _ hs=>hR G4 _ k3 hs (za2 _)
    ·obtain rfl:i=u.length:=by omega
     rw[hcase fun s hs=>by
      obtain⟨j,hj,rfl⟩:=List.getElem_of_mem hs
      exact hall j hj hj] at hR
     repeat' first
      |with_reducible first|refine Nx.go ?_ |refine Bk.go (fun _=>?_) fun _=>?_ |refine Nb fun nb hnb hnb1 hnb2=>?_ |refine Nr fun nb nsp ncap hnb hncap hnb1 hnb2=>?_
      |simp -dsimp -implicitDefEqProofs (disch:=first|exact Kd|fail) only[go_sem,↓reduceIte,seval, -List.reduceReplicate,List.toList_toArray,hCl,hCa]
     refine FnT.leave (H':=(b3, .cells [.slice aw l.length cw] [] 25):: (b4, .cells zI [] 27):: (b2, .cells C [] 27)::H) ?_ Ks
     refine zym hsm hok hl (O.is.mono k3) hw3 (g:=fun s=>zz l s+1) (fun s G1 H1 R1 hle hs hR1=>zwE hl (hw3.mono hle) hR1) fun G5 v5 hle5 hs5 hI5=>?_
     obtain⟨C5,an5,al5,ay5,cn5,cl5,cs5,rs5,rfl,O5⟩:=hI5.opened
     have hC5l:=O5.len
     have hone5:=zqP O5.is
     have hput5:=zqQ hC5l
     have htk5:List.take 260 C5=C5:=List.take_of_length_le Ko
     have hE:=hs5
     try simp only[zzs] at hE
     repeat(obtain⟨hx',hE⟩:=hE)
     repeat' first
      |with_reducible first|refine Nx.go ?_ |refine Bk.go (fun _=>?_) fun _=>?_ |refine Nb fun nb hnb hnb1 hnb2=>?_ |refine Nr fun nb nsp ncap hnb hncap hnb1 hnb2=>?_
      |simp -dsimp -implicitDefEqProofs (disch:=first|exact Kd|fail) only[go_sem,↓reduceIte,seval, -List.reduceReplicate,List.toList_toArray,hC5l,hone5,hput5,htk5,zn]
     unfold zv
     refine Upd.leave (H':=H) Ks ?_
     exact fun _ hs=>hR G5 _ (k3.trans hle5) hs O5.is
  ·have hb2:=zA hf
   rw[zsr hok hf] at hR
   refine FnT.body tok [0,1,2,3,4,5,7,8,13,19,20,21,22,28] Tryz.func64 rfl Kk Kk (by show _≤35;simp) fun hsep=>?_
   rw[Tryz.results64]
   have hE:=hsep
   try simp only[zzs] at hE
   repeat(obtain⟨hx',hE⟩:=hE)
   repeat' first
    |with_reducible first|refine Nx.go ?_ |refine Bk.go (fun _=>?_) fun _=>?_ |refine Nb fun nb hnb hnb1 hnb2=>?_ |refine Nr fun nb nsp ncap hnb hncap hnb1 hnb2=>?_
    |simp -dsimp -implicitDefEqProofs (disch:=first|exact Kd|fail) only[go_sem,↓reduceIte,seval, -List.reduceReplicate,List.toList_toArray,hCl,hCa,zn,zad,zaf,zaw,hb,hb2]
    |with_reducible refine zaE hsm O.is ?_
    | ((with_reducible refine zuC hl hls hw0 fun G2 hle2 hs2=>?_);(have hE:=hs2;try simp only[zzs] at hE;repeat(obtain⟨hx',hE⟩:=hE)))
   unfold zv
   refine Upd.leave (H':=H) Ks ?_
   exact fun _ hs=>hR G2 _ hle2 hs (za2 _)
 ·have hb:=zA hok
  rw[zlG hok] at hR
  refine FnT.body tok [0,1,2,3,4,5,7,8,13,19,20,21,22,28] Tryz.func64 rfl Kk Kk (by show _≤35;simp) fun hsep=>?_
  rw[Tryz.results64]
  have hE:=hsep
  try simp only[zzs] at hE
  repeat(obtain⟨hx',hE⟩:=hE)
  repeat' first
   |with_reducible first|refine Nx.go ?_ |refine Bk.go (fun _=>?_) fun _=>?_ |refine Nb fun nb hnb hnb1 hnb2=>?_ |refine Nr fun nb nsp ncap hnb hncap hnb1 hnb2=>?_
   |simp -dsimp -implicitDefEqProofs (disch:=first|exact Kd|fail) only[go_sem,↓reduceIte,seval, -List.reduceReplicate,List.toList_toArray,hCl,hCa,zn,zad,zaf,zaw,hb]
   |with_reducible refine zaE hsm O.is ?_
  unfold zv
  refine Upd.leave (H':=H) Ks ?_
  exact fun _ hs=>hR G _ (PLe.refl _) hs (za2 _)
theorem zhf {d:DfaT} (hsm:zx d):(zd5 d).length≤2000000∧ ∀s∈zd5 d,s.length≤2000000:=by
 have:=zuA d
 obtain⟨hm1,hm2,hm3,hm4,hm5⟩:=hsm
 exact⟨by omega,fun s hs=>hm5 s (zm0 hs)⟩
noncomputable def zeJ (d:DfaT):DfaT×Int:=zcd d (zd5 d)
theorem zyn {d:DfaT} (hsm:zx d) {G:za} {H:zb} {R:Value→za→zb→Prop} {v:Value} (hv:IsD G d v)
  (hR: ∀G' v',PLe G G'→Sep G' (zm H)→IsD G' (zeJ d).1 v'→R (.tuple #[v', .int .i64 (zeJ d).2]) G' H):FnT Tryz.prog 41 [v] G H R:=by
 obtain⟨C,an,al,ay,cn,cl,cs,rs,rfl,O⟩:=hv.opened
 have hCl:=O.len
 have hCa:=O.all
 obtain⟨hu1,hu2⟩:=zhf hsm
 refine FnT.sep ?_
 refine FnT.body tok [0,1,2,3] Tryz.func41 rfl Kk Kk (by show _≤10;simp) fun hsep=>?_
 rw[Tryz.results41]
 have hE:=hsep
 try simp only[zzs] at hE
 repeat(obtain⟨hx',hE⟩:=hE)
 repeat' first
  |with_reducible first|refine Nx.go ?_ |refine Bk.go (fun _=>?_) fun _=>?_ |refine Nb fun nb hnb hnb1 hnb2=>?_
  |simp -dsimp -implicitDefEqProofs (disch:=first|exact Kd|fail) only[go_sem,↓reduceIte,seval, -List.reduceReplicate,List.toList_toArray,hCl,hCa]
  |with_reducible refine Tri.drawH tok mixed [0,1,2,3] 1 [0,1] (.op 0 .held (.op 1 .held (.op 2 .keeps (.op 3 .keeps (.op 4 .plain (.op 5 .plain (.op 6 .plain (.op 7 .plain .nil)))))))) Kk [1] ?_
 rename_i b1 h10 h11 h12
 obtain⟨b2,e0⟩: ∃x,x=nb:=⟨_,rfl⟩
 subst e0
 refine zuB hsm O.is fun G3 v3 hle3 hs3 hsl3=>?_
 have hE:=hs3
 try simp only[zzs] at hE
 repeat(obtain⟨hx',hE⟩:=hE)
 repeat' first
  |with_reducible first|refine Nx.go ?_ |refine Bk.go (fun _=>?_) fun _=>?_ |refine Nb fun nb hnb hnb1 hnb2=>?_
  |simp -dsimp -implicitDefEqProofs (disch:=first|exact Kd|fail) only[go_sem,↓reduceIte,seval, -List.reduceReplicate,List.toList_toArray,hCl,hCa]
 refine zwF hsm hu1 hu2 (O.is.mono hle3) hsl3 fun G5 v5 hle5 hs5 hI5=>?_
 obtain⟨C5,an5,al5,ay5,cn5,cl5,cs5,rs5,rfl,O5⟩:=hI5.opened
 have hC5l:=O5.len
 have hone5:=zqP O5.is
 have hput5:=zqQ hC5l
 have htk5:List.take 260 C5=C5:=List.take_of_length_le Ko
 have hE:=hs5
 try simp only[zzs] at hE
 repeat(obtain⟨hx',hE⟩:=hE)
 repeat' first
  |with_reducible first|refine Nx.go ?_ |refine Bk.go (fun _=>?_) fun _=>?_ |refine Nb fun nb hnb hnb1 hnb2=>?_
  |simp -dsimp -implicitDefEqProofs (disch:=first|exact Kd|fail) only[go_sem,↓reduceIte,seval, -List.reduceReplicate,List.toList_toArray,hC5l,hone5,hput5,htk5,zn]
 unfold zv
 refine Upd.leave (H':=H) Ks ?_
 exact fun _ hs=>hR G5 _ (hle3.trans hle5) hs O5.is
def zAw (name:Tx) (s:Tx):Int:=if s=name then 1 else 0
def zzi (d:DfaT) (name:Tx):DfaT:=zfQ d [name] (zAw name)
noncomputable def onlyR (d:DfaT) (name:Tx):DfaT×Int:=
 if zaF (zc d)=true then if zdp name=true then(zzi d name,0) else(zao,1) else(zao,6)
end Go.Proofs.YtomdbjfdbkejoaaGreatDoor
namespace Go.Proofs.YtomdbjfdbkejoaaGreatDoor
open Go Go.V Go.Proofs
end Go.Proofs.YtomdbjfdbkejoaaGreatDoor
namespace Go.Proofs.YtomdbjfdbkejoaaGreatDoor
open Go Go.V Go.Proofs
theorem FnT.apart {f:FuncId} {fn:Func} {tS tR e e1:TypeId} (hf:(Tryz.prog).funcs[f]? =some fn) (hname:(fn.name== "runtime.NumGoroutine")=false) (hb:fn.body.isNone=true) (hn:Extern.findNext fn=none) (he:Extern.find fn=some (Extern.SlicesOverlaps.overlaps #[tS,tS] #[tR])) (hk:(T tS).k= .slice e) (hk2:(T e).k≠ .none)
  {a b la ca lb cb o:Nat} {xs sp ys sp':List Value} {e2:TypeId} {G:za} {H:zb} {R:Value→za→zb→Prop} (ha:zq H a=some (.cells xs sp e1)) (h5:e1≠5) (hbb:zq H b=some (.cells ys sp' e2)) (hne:a≠b) (hl:ys.length+sp'.length≠0) (hR:R (.bool false) G H):
  FnT Tryz.prog f [.slice (some ⟨a,0,none⟩) la ca, .slice (some ⟨b,o,none⟩) lb cb] G H R:=by
 refine FnT.ext (v:= .bool false) (fun E w hw=>?_) hR
 obtain⟨d,hd,hfit⟩:=tok.und hk (by simp)
 simp only[TK.fits] at hfit
 subst hfit
 obtain⟨i,z,hi,hs,_⟩:=tok.info hk2
 obtain⟨o1,ho1,fr1,rfl,hm1⟩:=hw.find ha
 obtain⟨o2,ho2,fr2,rfl,hm2⟩:=hw.find hbb
 have hfr:fr1=(0,0):=by
  rcases hm1 with h| ⟨_,h⟩
  ·exact h
  ·exact absurd h h5
 subst hfr
 have key:=Lib.run_overlaps_apart (P:=Tryz.prog) w tS tR e hd ((Tryz.prog).cellsOf e) (fun w=>run_sizeOf w hi) ⟨a,0,none⟩ ⟨b,o,none⟩ la ca lb cb hne e1 e2 (xs++sp).length (ys++sp').length (by simp [World.shape?,ho1]) (by simp [World.shape?,ho2]) (by simpa using hl) (by simp [World.frozen?,ho1]) (by simp [World.frozen?,ho1])
 have h1:=run_callFunc_extern hf hname hb hn he #[.slice (some ⟨a,0,none⟩) la ca, .slice (some ⟨b,o,none⟩) lb cb] w
 exact h1.trans (by rw[key];rfl)
end Go.Proofs.YtomdbjfdbkejoaaGreatDoor
namespace Go.Proofs.YtomdbjfdbkejoaaGreatDoor
open Go Go.V Go.Proofs
end Go.Proofs.YtomdbjfdbkejoaaGreatDoor
namespace Go.Proofs.YtomdbjfdbkejoaaGreatDoor
open Go Go.V Go.Proofs
end Go.Proofs.YtomdbjfdbkejoaaGreatDoor
namespace Go.Proofs.YtomdbjfdbkejoaaGreatDoor
open Go Go.V Go.Proofs
theorem zcL:zx zao:=by
 refine⟨Nat.zero_le _,?_,Nat.zero_le _,Nat.zero_le _,?_⟩
 ·intro r hr;cases hr
 ·intro r hr;cases hr
theorem zo0 {d:DfaT} (hsm:zx d) {l:List Tx} (h1:l.length≤2000000) (h2: ∀s∈l,s.length≤2000000):zx (zcd d l).1:=by
 unfold zcd
 split
 ·split
  ·split
   ·exact zp8 hsm h1 h2 _
   ·exact zcL
  ·exact zcL
 ·exact zcL
theorem zj2 {d:DfaT} (hsm:zx d):zx (zeJ d).1:=zo0 hsm (zhf hsm).1 (zhf hsm).2
theorem zwG {l:List Tx} (h1:l.length≤64) (h2:l.Nodup) (h3: ∀s∈l,zdp s=true):zbm l:=by
 refine⟨h1,fun i hi=>⟨h3 _ (List.getElem_mem hi),fun hm=>?_⟩⟩
 rw[List.mem_take_iff_getElem] at hm
 obtain⟨j,hj,e⟩:=hm
 have:=(List.getElem_inj h2).1 e
 omega
theorem zss {l:List Tx} (h:zbm l) {s:Tx} (hs:s∈l):zdp s=true:=by
 obtain⟨i,hi,rfl⟩:=List.getElem_of_mem hs
 exact(h.2 i hi).1
theorem zst {d:DfaT} (hok:zc d) {s:Tx} (h:s∈za7 d):s∈d.names:=zm0 (by rw[zih hok];exact h)
theorem zgu {d:DfaT} (hok:zc d):zdf (za7 d):=by
 rw[←zqO hok]
 exact zd4 d _ (Nat.le_refl _)
theorem zj3 {d:DfaT} (hok:zc d):zbm (za7 d):=by
 have h6:=hok.2.2.2.2.2.1
 have:=zi9 d
 exact zwG (by have:=h6.1;omega) (zgu hok).nodup fun s hs=>zss h6 (zst hok hs)
def other:Tx:=[111,116,104,101,114]
theorem zm3 {d:DfaT} (hok:zc d) {i:Nat} (hi:i<d.label.length) (h0:0<d.label[i]):zaT d d.label[i]∈d.names:=by
 obtain⟨hk1,hk2,hk3,hk4,hk5,hk6,hk7⟩:=hok
 obtain⟨_,w2,w3,_⟩:=hk7 i Ko hi
 obtain⟨n,hn⟩: ∃n:Nat,d.label[i]=(n:Int)+1:=⟨(d.label[i] - 1).toNat,by omega⟩
 have hnl2:n<d.names.length:=by omega
 rw[hn,ze1 hnl2]
 exact List.getElem_mem hnl2
theorem zqa {d:DfaT} (hok:zc d) {l:List Tx} (hl:zbm l) {g:Tx→Int} (hg: ∀s∈d.names,0≤g s∧g s≤l.length):zc (zfQ d l g):=by
 obtain⟨hk1,hk2,hk3,hk4,hk5,hk6,hk7⟩:=id hok
 have hll:(zfQ d l g).label.length=d.label.length:=zgt d g
 refine⟨by rw[hll];exact hk1,by rw[hll];exact hk2,by rw[hll];exact hk3,hk4,hk5,hl,fun s h1 h2=>?_⟩
 have h1:s<d.next.length:=h1
 have h2':s<d.label.length:=by rw[hll] at h2;exact h2
 obtain⟨w1,w2,w3,w4⟩:=hk7 s h1 h2'
 have hlab:(zfQ d l g).label[s]'h2=if 0<d.label[s] then g (zaT d d.label[s]) else 0:=by
  show(zcK d g)[s]'_=_
  simp only[zcK,List.getElem_map]
 refine⟨w1,?_,?_,fun t ht=>?_⟩
 ·rw[hlab]
  split
  ·rename_i h0;exact(hg _ (zm3 hok h2' h0)).1
  ·exact Int.le_refl 0
 ·rw[hlab]
  show _≤((l.length:Nat):Int)
  split
  ·rename_i h0;exact(hg _ (zm3 hok h2' h0)).2
  ·omega
 ·have:=w4 t ht
  rw[hll];exact this
theorem zuD (d:DfaT) (l:List Tx) (g:Tx→Int) (w:List UInt8):zaj (zfQ d l g) w=zaj d w:=rfl
theorem zwH {d:DfaT} (hok:zc d) (hof:d.of.length=256) (w:List UInt8): ∃i,∃h:i<d.label.length,zX d w=d.label[i]∧zaj d w=(i:Int):=by
 obtain⟨h1,h2⟩:=za6 hok hof w
 obtain⟨i,hi⟩:=Int.eq_ofNat_of_zero_le h1
 rw[hi] at h2
 refine⟨i,by omega,?_,hi⟩
 unfold zX
 rw[hi,zU (by simpa using h2)]
 rfl
theorem zsu {d:DfaT} (hok:zc d) (hof:d.of.length=256) (l:List Tx) (g:Tx→Int) (w:List UInt8):zX (zfQ d l g) w=if 0<zX d w then g (zaT d (zX d w)) else 0:=by
 obtain⟨i,hi,e1,e2⟩:=zwH hok hof w
 rw[e1]
 unfold zX
 rw[zuD,e2]
 show atL (zcK d g) i=_
 rw[zU (by rw[zgt];simpa using hi)]
 unfold zcK
 rw[List.getElem_map]
 rfl
theorem zqb (l:List Tx) (s:Tx):0≤zz l s+1∧zz l s+1≤l.length:=by
 cases hp:place l s with
 |none=>rw[zdL hp];omega
 |some n=>
  have:=(z6 hp).1
  rw[zH hp];omega
theorem zqc {d:DfaT} (hok:zc d) {l:List Tx} (hl:zbm l):zc (zjE d l):=zqa hok hl fun s _=>zqb l s
theorem zii {d:DfaT} (hok:zc d):zeJ d=(zjE d (za7 d),0):=by
 unfold zeJ
 rw[zih hok,zm2 hok (zj3 hok) fun s h=>h]
end Go.Proofs.YtomdbjfdbkejoaaGreatDoor
namespace Go.Proofs.YtomdbjfdbkejoaaGreatDoor
open Go Go.V Go.Proofs
theorem zAx {i:Nat} (hi:i<256):zaB .and .u8 (i:Int) 63=((i % 64 :Nat):Int):=by
 have h:=zke (k:= .u8) (x:=(i:Int)) (y:=63) rfl Ko (by show(i:Int) <256;omega) (by decide) (by decide)
 rw[h,Int.toNat_natCast,show(63 :Int).toNat=2 ^ 6 - 1 from rfl,Nat.and_two_pow_sub_one_eq_mod]
theorem zff (f g:Nat→Nat):zf (zG 4 f) 0 (zG 4 g)=zG 4 g:=by
 unfold zf
 rw[List.take_zero,List.nil_append,List.drop_of_length_le (by rw[zap,zap];omega),List.append_nil]
def zej (i:Nat):Nat→Nat:=upd (fun _=>0) (i / 64) (2 ^ (i % 64))
def zwI (f g:Nat→Nat):Nat→Nat:=fun k=>f k|||g k
theorem zqR (i k:Nat):zej i k<18446744073709551616:=by
 have:=zlj (show i % 64<64 by omega)
 simp only[zej,upd]
 split
 ·exact this
 ·decide
theorem zwJ (i x:Nat):mem (zej i) x=decide (x=i):=by
 have:=zqw (fun _=>0) i x
 rw[zkk,Bool.false_or,Nat.zero_or] at this
 exact this
theorem zwK (f g:Nat→Nat) (x:Nat):mem (zwI f g) x=(mem f x||mem g x):=by
 unfold mem zwI;rw[Nat.testBit_or]
theorem zAy {i:Nat} (hi:i<256) {b:Nat} {e:TypeId} {G:za} {H:zb} {R:Value→za→zb→Prop} (hg:G b=none) (hf:zq H b=some (.cells [.int .u8 (i:Nat)] [] e))
  (hR:R (.agg (zG 4 (zej i)).toArray) G H):FnT Tryz.prog 119 [.slice (some ⟨b,0,none⟩) 1 1] G H R:=by
 have hq:i / 64<4:=by omega
 have hjj:i % 64<64:=by omega
 have hor:zaB .or .u64 ((0 :Nat):Int) ((2 ^ (i % 64):Nat):Int)=((2 ^ (i % 64):Nat):Int):=by
  have:=zl8 (w:=0) (by decide) (zlj hjj)
  rw[Nat.zero_or] at this;exact this
 have hput:zf (zG 4 (fun _=>0)) (i / 64) [.int .u64 ((2 ^ (i % 64):Nat):Int)]=zG 4 (zej i):=zhU hq _
 have hl4:=zap 4 (fun _=>0)
 have hl5:=zap 4 (zej i)
 have h63:=zAx hi
 refine FnT.sep ?_
 refine FnT.body tok [0,2,3,5,6,7,8,9] Tryz.func119 rfl Kk Kk (by show _≤23;simp) fun hsep=>?_
 rw[Tryz.results119]
 have hE:=hsep
 try simp only[zzs] at hE
 repeat(obtain⟨hx',hE⟩:=hE)
 repeat' first
  |with_reducible first|refine Nx.go ?_ |refine Bk.go (fun _=>?_) fun _=>?_ |refine Nb fun nb hnb hnb1 hnb2=>?_
  |simp -dsimp -implicitDefEqProofs (disch:=first|exact Kd|fail) only[go_sem,↓reduceIte,Nat.reduceEqDiff,Nat.reduceAdd,Nat.reduceSub,Nat.reduceMul,Nat.reduceBEq,Nat.reduceLT,Nat.reduceLeDiff,Nat.reduceMod,Nat.reducePow,List.reduceReplicate,UInt8.reduceOfNat,Int.reducePow,Int.reduceDiv,Int.reduceMod,Nat.reduceDiv,Int.reduceNeg,Int.reduceAdd,Int.reduceSub,Int.reduceMul,Int.reduceLE,Int.reduceLT,Int.reduceEq,Int.reduceToNat,reduceCtorEq, -List.reduceReplicate,hf]
 rename_i b1 hb1 hb11 hb12
 have hn1:=zQ.neFind hb12 hf
 have hn2:=zQ.neFind hnb2.2 hf
 rw[zw9]
 refine Tri.loopU tok [0,2,3,5,6,7,8,9] Kk [2,3,6,7,8] (fun q G' fr H'=> ∃ (j:Nat),j+q=1∧G'=G∧H'=(nb, .cells (zG 4 (if j=0 then fun _=>0 else zej i)) [] 101):: (b1, .cells (zG 4 (fun _=>0)) [] 101)::H∧fr=[(2, .pointer (some ⟨b1,0,none⟩)),(3, .pointer (some ⟨nb,0,none⟩)),(6, .slice (some ⟨b,0,none⟩) 1 1),(7, .int .i64 1),(8, .int .i64 (j:Nat))]) (1) ?_ ?_
 ·exact Upd.now ⟨0,rfl,rfl,rfl,rfl⟩
 ·rintro q G1 fr H' hle hs1 ⟨j,hj,rfl,rfl,rfl⟩
  have hE:=hs1
  try simp only[zzs] at hE
  repeat(obtain⟨hx',hE⟩:=hE)
  by_cases h0:j=0
  ·subst h0
   repeat' first
    |with_reducible first|refine Nx.go ?_ |refine Bk.go (fun _=>?_) fun _=>?_ |refine Nb fun nb hnb hnb1 hnb2=>?_
    |simp -dsimp -implicitDefEqProofs (disch:=first|exact Kd|fail) only[go_sem,↓reduceIte,Nat.reduceEqDiff,Nat.reduceAdd,Nat.reduceSub,Nat.reduceMul,Nat.reduceBEq,Nat.reduceLT,Nat.reduceLeDiff,Nat.reduceMod,Nat.reducePow,List.reduceReplicate,UInt8.reduceOfNat,Int.reducePow,Int.reduceDiv,Int.reduceMod,Nat.reduceDiv,Int.reduceNeg,Int.reduceAdd,Int.reduceSub,Int.reduceMul,Int.reduceLE,Int.reduceLT,Int.reduceEq,Int.reduceToNat,reduceCtorEq, -List.reduceReplicate,hf,hl4,hq,zg7,zr1,zqx hjj,h63,hor,zec,hput,Int.toNat_natCast]
   exact Upd.now ⟨0,by omega,1,by omega,rfl,rfl,rfl⟩
  ·obtain rfl:j=1:=by omega
   repeat' first
    |with_reducible first|refine Nx.go ?_ |refine Bk.go (fun _=>?_) fun _=>?_ |refine Nb fun nb hnb hnb1 hnb2=>?_
    |simp -dsimp -implicitDefEqProofs (disch:=first|exact Kd|fail) only[go_sem,↓reduceIte,Nat.reduceEqDiff,Nat.reduceAdd,Nat.reduceSub,Nat.reduceMul,Nat.reduceBEq,Nat.reduceLT,Nat.reduceLeDiff,Nat.reduceMod,Nat.reducePow,List.reduceReplicate,UInt8.reduceOfNat,Int.reducePow,Int.reduceDiv,Int.reduceMod,Nat.reduceDiv,Int.reduceNeg,Int.reduceAdd,Int.reduceSub,Int.reduceMul,Int.reduceLE,Int.reduceLT,Int.reduceEq,Int.reduceToNat,reduceCtorEq, -List.reduceReplicate,hf,hl4,hl5,zbx,za9,zff,List.toList_toArray]
   all_goals refine Upd.finL ?_ (fun _ _=>hR) ?_
   any_goals first|exact Ks|skip
   rfl
def zdF (l:List (Nat→Nat)):Nat→Nat:=fun k=>l.foldl (fun a f=>a|||f k) 0
def ze2 (l:List (Nat→Nat)) (j p:Nat):Nat→Nat:=fun k=>if k<p then zdF (l.take (j+1)) k else zdF (l.take j) k
theorem zmk {l:List (Nat→Nat)} (hl: ∀f∈l,∀k,f k<18446744073709551616) (k:Nat):zdF l k<18446744073709551616:=by
 unfold zdF
 suffices h: ∀ (l:List (Nat→Nat)) (a:Nat),(∀f∈l,f k<18446744073709551616)→a<18446744073709551616→l.foldl (fun a f=>a|||f k) a<18446744073709551616 from h l 0 (fun f hf=>hl f hf k) (by decide)
 intro l
 induction l with
 |nil=>exact fun a _ h=>h
 |cons f l ih=>exact fun a h1 h2=>ih _ (fun g hg=>h1 g (List.mem_cons_of_mem _ hg)) (Nat.or_lt_two_pow (n:=64) h2 (h1 f (List.mem_cons_self ..)))
theorem zuE (l:List (Nat→Nat)) (f:Nat→Nat) (k:Nat):zdF (l++[f]) k=zdF l k|||f k:=by unfold zdF;rw[List.foldl_append];rfl
theorem zwL {l:List (Nat→Nat)} (hlen:l.length≤1000) (hl: ∀f∈l,∀k,f k<18446744073709551616) {b:Nat} {sp:List Value} {cap:Nat} {e:TypeId} {G:za} {H:zb} {R:Value→za→zb→Prop} (hg:G b=none) (hf:zq H b=some (.cells (l.flatMap zac) sp e))
  (hR:R (.agg (zG 4 (zdF l)).toArray) G H):FnT Tryz.prog 118 [.slice (some ⟨b,0,none⟩) l.length cap] G H R:=by
 have hfl:=zbq (enc:=zac) (m:=4) zaX l
 refine FnT.sep ?_
 refine FnT.body tok [0,2,3,5,6,7,8,9,10,11,14,15,16] Tryz.func118 rfl Kk Kk (by show _≤28;simp) fun hsep=>?_
 rw[Tryz.results118]
 have hE:=hsep
 try simp only[zzs] at hE
 repeat(obtain⟨hx',hE⟩:=hE)
 repeat' first
  |with_reducible first|refine Nx.go ?_ |refine Bk.go (fun _=>?_) fun _=>?_ |refine Nb fun nb hnb hnb1 hnb2=>?_
  |simp -dsimp -implicitDefEqProofs (disch:=first|exact Kd|fail) only[go_sem,↓reduceIte,Nat.reduceEqDiff,Nat.reduceAdd,Nat.reduceSub,Nat.reduceMul,Nat.reduceBEq,Nat.reduceLT,Nat.reduceLeDiff,Nat.reduceMod,Nat.reducePow,List.reduceReplicate,UInt8.reduceOfNat,Int.reducePow,Int.reduceDiv,Int.reduceMod,Nat.reduceDiv,Int.reduceNeg,Int.reduceAdd,Int.reduceSub,Int.reduceMul,Int.reduceLE,Int.reduceLT,Int.reduceEq,Int.reduceToNat,reduceCtorEq, -List.reduceReplicate,hf]
 rename_i b1 hb1 hb11 hb12
 have hn1:=zQ.neFind hb12 hf
 revert nb
 intro b3 hb3 hb31 hb32
 have hn2:=zQ.neFind hb32.2 hf
 rw[zw9]
 refine Tri.loopU tok [0,2,3,5,6,7,8,9,10,11,14,15,16] Kk [2,3,8,9,10] (fun q G' fr H'=> ∃ (j:Nat),j+q=l.length∧G'=G∧H'=(b3, .cells (zG 4 (zdF (l.take j))) [] 101):: (b1, .cells (zG 4 (fun _=>0)) [] 101)::H∧fr=[(2, .pointer (some ⟨b1,0,none⟩)),(3, .pointer (some ⟨b3,0,none⟩)),(8, .slice (some ⟨b,0,none⟩) l.length cap),(9, .int .i64 l.length),(10, .int .i64 (j:Nat))]) (l.length) ?_ ?_
 ·exact Upd.now ⟨0,by omega,rfl,rfl,rfl⟩
 ·rintro q G1 fr H' hle hs1 ⟨j,hj,rfl,rfl,rfl⟩
  have hE:=hs1
  try simp only[zzs] at hE
  repeat(obtain⟨hx',hE⟩:=hE)
  by_cases hjl:j<l.length
  ·have hget:=zg6 (enc:=zac) (m:=4) zaX l j hjl
   have hjf:=hl _ (List.getElem_mem hjl)
   have htk:=List.take_succ_eq_append_getElem hjl
   have hmul:(j+1) * 4≤l.length * 4:=Nat.mul_le_mul_right _ hjl
   have hget':List.take 4 (List.drop (j * 4) (l.flatMap zac++sp))=zG 4 l[j]:=by
    rw[List.drop_append_of_le_length Ko,List.take_append_of_le_length (by rw[List.length_drop];omega)];exact hget
   have hu1:=zmk (l:=l.take j) fun f hf2=>hl f (List.mem_of_mem_take hf2)
   have hl4:=zap 4
   repeat' first
    |with_reducible first|refine Nx.go ?_ |refine Bk.go (fun _=>?_) fun _=>?_ |refine Nb fun nb hnb hnb1 hnb2=>?_
    |simp -dsimp -implicitDefEqProofs (disch:=first|exact Kd|fail) only[go_sem,↓reduceIte,Nat.reduceEqDiff,Nat.reduceAdd,Nat.reduceSub,Nat.reduceMul,Nat.reduceBEq,Nat.reduceLT,Nat.reduceLeDiff,Nat.reduceMod,Nat.reducePow,List.reduceReplicate,UInt8.reduceOfNat,Int.reducePow,Int.reduceDiv,Int.reduceMod,Nat.reduceDiv,Int.reduceNeg,Int.reduceAdd,Int.reduceSub,Int.reduceMul,Int.reduceLE,Int.reduceLT,Int.reduceEq,Int.reduceToNat,reduceCtorEq, -List.reduceReplicate,hf,hfl,hget',hl4,za9,zcr,zbx,List.toList_toArray]
   revert nb
   intro nc hnc hnc1 hnc2
   refine Tri.loopU tok [0,2,3,5,6,7,8,9,10,11,14,15,16] Kk [2,3,8,9,10,14,15] (fun q2 G' fr H'=> ∃ (p:Nat),p+q2=4∧G'=G1∧H'=(nc, .cells (zG 4 l[j]) [] 101):: (b3, .cells (zG 4 (ze2 l j p)) [] 101):: (b1, .cells (zG 4 (fun _=>0)) [] 101)::H∧fr=[(2, .pointer (some ⟨b1,0,none⟩)),(3, .pointer (some ⟨b3,0,none⟩)),(8, .slice (some ⟨b,0,none⟩) l.length cap),(9, .int .i64 l.length),(10, .int .i64 (j:Nat)),(14, .agg (zG 4 l[j]).toArray),(15, .int .i64 (p:Nat))]) (4) ?_ ?_
   ·exact Upd.now ⟨0,by omega,rfl,by rw[show ze2 l j 0=zdF (l.take j) from funext fun k=>if_neg Ko],rfl⟩
   ·rintro q2 G2 fr H' hle2 hs2 ⟨p,hp,rfl,rfl,rfl⟩
    have hE:=hs2
    try simp only[zzs] at hE
    repeat(obtain⟨hx',hE⟩:=hE)
    by_cases hp4:p<4
    ·have hul: ∀k,ze2 l j p k<18446744073709551616:=fun k=>by
      unfold ze2;split
      ·exact zmk (l:=l.take (j+1)) (fun f hf2=>hl f (List.mem_of_mem_take hf2)) k
      ·exact hu1 k
     have hor:=zl8 (hul p) (hjf p)
     have hget2:(zG 4 l[j])[p]? =some (.int .u64 (l[j] p)):=by rw[List.getElem?_eq_getElem (by rw[hl4];exact hp4),zec]
     have hget3:(zG 4 (ze2 l j p))[p]? =some (.int .u64 (ze2 l j p p:Nat)):=by rw[List.getElem?_eq_getElem (by rw[hl4];exact hp4),zec]
     have hput:zf (zG 4 (ze2 l j p)) p [.int .u64 ((ze2 l j p p|||l[j] p:Nat):Int)]=zG 4 (ze2 l j (p+1)):=by
      rw[zhU hp4]
      congr 1
      funext k
      unfold upd
      by_cases e:k=p
      ·subst e
       rw[if_pos rfl]
       unfold ze2
       rw[if_neg (Nat.lt_irrefl _),if_pos (Nat.lt_succ_self _),htk,zuE]
      ·rw[if_neg e]
       unfold ze2
       by_cases h:k<p
       ·rw[if_pos h,if_pos Ko]
       ·rw[if_neg h,if_neg Ko]
     repeat' first
      |with_reducible first|refine Nx.go ?_ |refine Bk.go (fun _=>?_) fun _=>?_ |refine Nb fun nb hnb hnb1 hnb2=>?_
      |simp -dsimp -implicitDefEqProofs (disch:=first|exact Kd|fail) only[go_sem,↓reduceIte,Nat.reduceEqDiff,Nat.reduceAdd,Nat.reduceSub,Nat.reduceMul,Nat.reduceBEq,Nat.reduceLT,Nat.reduceLeDiff,Nat.reduceMod,Nat.reducePow,List.reduceReplicate,UInt8.reduceOfNat,Int.reducePow,Int.reduceDiv,Int.reduceMod,Nat.reduceDiv,Int.reduceNeg,Int.reduceAdd,Int.reduceSub,Int.reduceMul,Int.reduceLE,Int.reduceLT,Int.reduceEq,Int.reduceToNat,reduceCtorEq, -List.reduceReplicate,hf,hl4,hor,hget2,hget3,hput,zec,za9,zcr,zbx,List.toList_toArray,zhx]
     exact Upd.now ⟨q2 - 1,by omega,p+1,by omega,rfl,rfl,rfl⟩
    ·obtain rfl:p=4:=by omega
     rw[show zG 4 (ze2 l j 4)=zG 4 (zdF (l.take (j+1))) from List.map_congr_left fun k hk=>by rw[List.mem_range] at hk;unfold ze2;rw[if_pos hk]]
     repeat' first
      |with_reducible first|refine Nx.go ?_ |refine Bk.go (fun _=>?_) fun _=>?_ |refine Nb fun nb hnb hnb1 hnb2=>?_
      |simp -dsimp -implicitDefEqProofs (disch:=first|exact Kd|fail) only[go_sem,↓reduceIte,Nat.reduceEqDiff,Nat.reduceAdd,Nat.reduceSub,Nat.reduceMul,Nat.reduceBEq,Nat.reduceLT,Nat.reduceLeDiff,Nat.reduceMod,Nat.reducePow,List.reduceReplicate,UInt8.reduceOfNat,Int.reducePow,Int.reduceDiv,Int.reduceMod,Nat.reduceDiv,Int.reduceNeg,Int.reduceAdd,Int.reduceSub,Int.reduceMul,Int.reduceLE,Int.reduceLT,Int.reduceEq,Int.reduceToNat,reduceCtorEq, -List.reduceReplicate]
     refine Upd.go (H':=(b3, .cells (zG 4 (zdF (l.take (j+1)))) [] 101):: (b1, .cells (zG 4 (fun _=>0)) [] 101)::H) Ks (Upd.now ⟨q - 1,by omega,j+1,by omega,rfl,rfl,rfl⟩)
  ·obtain rfl:j=l.length:=by omega
   repeat' first
    |with_reducible first|refine Nx.go ?_ |refine Bk.go (fun _=>?_) fun _=>?_ |refine Nb fun nb hnb hnb1 hnb2=>?_
    |simp -dsimp -implicitDefEqProofs (disch:=first|exact Kd|fail) only[go_sem,↓reduceIte,Nat.reduceEqDiff,Nat.reduceAdd,Nat.reduceSub,Nat.reduceMul,Nat.reduceBEq,Nat.reduceLT,Nat.reduceLeDiff,Nat.reduceMod,Nat.reducePow,List.reduceReplicate,UInt8.reduceOfNat,Int.reducePow,Int.reduceDiv,Int.reduceMod,Nat.reduceDiv,Int.reduceNeg,Int.reduceAdd,Int.reduceSub,Int.reduceMul,Int.reduceLE,Int.reduceLT,Int.reduceEq,Int.reduceToNat,reduceCtorEq, -List.reduceReplicate,hf,zbx,za9,zap,zff,List.toList_toArray,List.take_length]
   all_goals refine Upd.finL ?_ (fun _ _=>hR) ?_
   any_goals first|exact Ks|skip
   rfl
end Go.Proofs.YtomdbjfdbkejoaaGreatDoor
namespace Go.Proofs.YtomdbjfdbkejoaaGreatDoor
open Go Go.V Go.Proofs
theorem zyo (w:Nat):0<w→ ∃t,w.testBit t=true∧(∀j,j<t→w.testBit j=false)∧(∀j,(w&&& (w - 1)).testBit j=(w.testBit j&&decide (j≠t)))∧ ∀N,w<2 ^ N→w&&& (2 ^ N - w)=2 ^ t:=by
 induction w using Nat.strongRecOn with
 |_ w ih=>
  intro hw
  by_cases ho:w % 2=1
  ·refine⟨0,by rw[Nat.testBit_zero];simpa using ho,fun j hj=>absurd hj (Nat.not_lt_zero _),fun j=>?_,fun N hN=>?_⟩
   ·cases j with
    |zero=>rw[Nat.testBit_and,Nat.testBit_zero,Nat.testBit_zero];simp;omega
    |succ j=>rw[Nat.testBit_and,Nat.testBit_succ,Nat.testBit_succ,show(w - 1) / 2=w / 2 by omega];simp
   ·cases N with
    |zero=>omega
    |succ M=>
     have hp:2 ^ (M+1)=2 * 2 ^ M:=by rw[Nat.pow_succ];omega
     apply Nat.eq_of_testBit_eq
     intro j
     cases j with
     |zero=>rw[Nat.testBit_and,Nat.testBit_zero,Nat.testBit_zero];simp;omega
     |succ j=>
      rw[Nat.testBit_and,Nat.testBit_succ,Nat.testBit_succ,show(2 ^ (M+1) - w) / 2=2 ^ M - (w / 2+1) by omega,Nat.testBit_two_pow_sub_succ Ko]
      have:(2 ^ 0 :Nat).testBit (j+1)=false:=by rw[Nat.testBit_succ];simp
      rw[this]
      cases (w / 2).testBit j <;> simp
  ·obtain⟨t,h1,h2,h3,h4⟩:=ih (w / 2) Ko Ko
   refine⟨t+1,by rw[Nat.testBit_succ];exact h1,fun j hj=>?_,fun j=>?_,fun N hN=>?_⟩
   ·cases j with
    |zero=>rw[Nat.testBit_zero];simpa using ho
    |succ j=>rw[Nat.testBit_succ];exact h2 j Ko
   ·cases j with
    |zero=>rw[Nat.testBit_and,Nat.testBit_zero];simp [ho]
    |succ j=>
     have:=h3 j
     rw[Nat.testBit_and] at this⊢
     rw[Nat.testBit_succ,Nat.testBit_succ,show(w - 1) / 2=w / 2 - 1 by omega,this]
     congr 1
     rw[decide_eq_decide];omega
   ·cases N with
    |zero=>omega
    |succ M=>
     have hp:2 ^ (M+1)=2 * 2 ^ M:=by rw[Nat.pow_succ];omega
     apply Nat.eq_of_testBit_eq
     intro j
     cases j with
     |zero=>
      rw[Nat.testBit_and,Nat.testBit_zero,Nat.testBit_zero]
      have:2 ^ (t+1) % 2=0:=by rw[Nat.pow_succ];omega
      simp [ho,this]
     |succ j=>
      have:=h4 M Ko
      rw[Nat.testBit_and,Nat.testBit_succ,Nat.testBit_succ,show(2 ^ (M+1) - w) / 2=2 ^ M - w / 2 by omega,←Nat.testBit_and,this,Nat.testBit_succ,show 2 ^ (t+1) / 2=2 ^ t by rw[Nat.pow_succ];omega]
def zzj:List Nat:=[0,1,56,2,57,49,28,3,61,58,42,50,38,29,17,4,62,47,59,36,45,43,51,22,53,39,33,30,24,18,12,5,63,55,48,27,60,41,37,16,46,35,44,21,52,32,23,11,54,26,40,15,34,20,31,10,25,14,19,9,13,8,7,6]
theorem zzo: ∀t:Fin 64,zzj[(2 ^ t.val * 285870213051353865 % 18446744073709551616) / 288230376151711744]? =some t.val:=by decide+kernel
theorem zzp {w t:Nat} (h:w<18446744073709551616) (ht:w.testBit t=true):t<64:=by
 rcases Nat.lt_or_ge t 64 with h1|h1
 ·exact h1
 ·rw[Nat.testBit_lt_two_pow (Nat.lt_of_lt_of_le (show w<2 ^ 64 from h) (Nat.pow_le_pow_right (by decide) h1))] at ht
  cases ht
def zsv:List Value:=zzj.map fun x=>Value.int .u8 (x:Nat)
def zcy (G:za):Prop:=zbX G 0 0 zsv
theorem zcy.mono {G G':za} (h:zcy G) (hle:PLe G G'):zcy G':=by
 obtain⟨c,e,fr,h1,h2,h3⟩:=h
 exact⟨c,e,fr,hle _ _ h1,h2,h3⟩
theorem zAR (w t:Nat) (hw:w<18446744073709551616) (h0:0<w) (ht:t<64) (hb:w&&& (2 ^ 64 - w)=2 ^ t) {G:za} {H:zb} {R:Value→za→zb→Prop} (hg:zcy G)
  (hR:R (.int .i64 t) G H):FnT Tryz.prog 143 [.int .u64 w] G H R:=by
 obtain⟨q,hq⟩: ∃q,q=2 ^ t * 285870213051353865 % 18446744073709551616 / 288230376151711744:=⟨_,rfl⟩
 have htab:=zzo ⟨t,ht⟩
 simp only[] at htab
 rw[←hq] at htab
 obtain⟨hq64,hqv⟩:=List.getElem?_eq_some_iff.1 htab
 have hq2:q<64:=hq64
 have hneg:IntKind.u64.wrap (0 - (w:Int))=((18446744073709551616 - w:Nat):Int):=by
  simp only[IntKind.wrap,IntKind.bits,IntKind.signed];simp;omega
 have hb2:w&&& (18446744073709551616 - w)=2 ^ t:=hb
 have hx:IntKind.u64.wrap (((2 ^ t:Nat):Int) * 285870213051353865) / 288230376151711744=(q:Int):=by
  rw[hq]
  generalize 2 ^ t=z
  simp only[IntKind.wrap,IntKind.bits,IntKind.signed]
  simp
 have hvl:zsv.length=64:=rfl
 have hget:zsv[q]'(by rw[hvl];exact hq2)= .int .u8 (t:Nat):=by
  unfold zsv
  rw[List.getElem_map,hqv]
 have hw0:(w:Int)≠0:=by omega
 refine FnT.body tok [0,2,4] Tryz.func143 rfl Kk Kk (by show _≤14;simp) fun hsep=>?_
 rw[Tryz.results143]
 have hE:=hsep
 try simp only[zzs] at hE
 repeat(obtain⟨hx',hE⟩:=hE)
 repeat' first
  |with_reducible first|refine Nx.go ?_ |refine Bk.go (fun _=>?_) fun _=>?_ |refine Nb fun nb hnb hnb1 hnb2=>?_ |refine Nr fun nb nsp ncap hnb hncap hnb1 hnb2=>?_
  |simp -dsimp -implicitDefEqProofs (disch:=first|exact Kd|fail) only[go_sem,↓reduceIte,seval,hneg,hb2,hx,zbX.obj0 hg,hget,hvl]
 all_goals refine Upd.finL ?_ hR ?_
 any_goals first|exact Ks|skip
 rfl
def elems (n:Nat) (ws:Nat→Nat):List Nat:=(List.range n).filter (mem ws)
theorem zlH {ws:Nat→Nat} {a:Nat}: ∀ {b:Nat},a≤b→(∀i,a≤i→i<b→mem ws i=false)→elems b ws=elems a ws
 |b,hab,h=>by
  unfold elems
  obtain⟨d,rfl⟩:=Nat.exists_eq_add_of_le hab
  clear hab
  induction d with
  |zero=>rfl
  |succ d ih=>
   rw[show a+(d+1)=(a+d)+1 by omega,List.range_succ,List.filter_append,ih fun i h1 h2=>h i h1 Ko]
   simp [h (a+d) Ko Ko]
theorem zuF {ws:Nat→Nat} {a:Nat} (h:mem ws a=true):elems (a+1) ws=elems a ws++[a]:=by
 unfold elems;rw[List.range_succ,List.filter_append];simp [h]
theorem zwM (lr bx:Nat) {ws:Nat→Nat} (hw: ∀k,ws k<18446744073709551616) {G:za} {HC:zb} {R:Value→za→zb→Prop} (hg:zcy G)
  (J Jx:List Nat→za→zb→Prop)
  (hY: ∀x G1 H1,PLe G G1→Sep G1 (zm ((bx,Res.cells (zG 4 ws) [] 101)::H1))→J (elems x ws) G1 H1→x<256→mem ws x=true→zb8 Tryz.prog lr [.int .u8 (x:Nat)] G1 ((bx, .cells (zG 4 ws) [] 101)::H1) fun v G2 H2=> ∃H3,H2=(bx, .cells (zG 4 ws) [] 101)::H3∧((v= .bool true∧J (elems x ws++[x]) G2 H3)∨(v= .bool false∧Jx (elems x ws++[x]) G2 H3)))
  (h0:J [] G HC)
  (hR: ∀G' H',PLe G G'→Sep G' (zm ((bx,Res.cells (zG 4 ws) [] 101)::H'))→(J (elems 256 ws) G' H'∨ ∃pre,Jx pre G' H')→R (.tuple #[]) G' ((bx, .cells (zG 4 ws) [] 101)::H')):
  FnT Tryz.prog 142 [.func (.yield lr) #[] #[], .pointer (some ⟨bx,0,none⟩)] G ((bx, .cells (zG 4 ws) [] 101)::HC) R:=by
 have hl:=zap 4 ws
 refine FnT.body tok [0,1,3,4,5,6,7,11,24] Tryz.func142 rfl Kk Kk (by show _≤26;simp) fun hsep=>?_
 rw[Tryz.results142]
 have hE:=hsep
 try simp only[zzs] at hE
 repeat(obtain⟨hx',hE⟩:=hE)
 repeat' first
  |with_reducible first|refine Nx.go ?_ |refine Bk.go (fun _=>?_) fun _=>?_ |refine Nb fun nb hnb hnb1 hnb2=>?_ |refine Nr fun nb nsp ncap hnb hncap hnb1 hnb2=>?_
  |simp -dsimp -implicitDefEqProofs (disch:=first|exact Kd|fail) only[go_sem,↓reduceIte,seval,zbx,List.toList_toArray,hl]
 refine Tri.loopU tok [0,1,3,4,5,6,7,11,24] Kk [0,1,5,6] (fun q G' fr H'=> ∃ (k:Nat) (H1:zb),k+q=4∧PLe G G'∧J (elems (k * 64) ws) G' H1∧H'=(bx, .cells (zG 4 ws) [] 101)::H1∧fr=[(0, .func (.yield lr) #[] #[]),(1, .pointer (some ⟨bx,0,none⟩)),(5, .agg (zG 4 ws).toArray),(6, .int .i64 k)]) (4) ?_ ?_
 ·exact Upd.now ⟨0,HC,by omega,PLe.refl _,h0,rfl,rfl⟩
 ·rintro q G1 fr H' hle hs ⟨k,H1,hk,hle1,hJ,rfl,rfl⟩
  have hE:=hs
  try simp only[zzs] at hE
  repeat(obtain⟨hx',hE⟩:=hE)
  by_cases hkn:k<4
  ·have hwk:=hw k
   have hget2:(zG 4 ws)[k]? =some (.int .u64 (ws k)):=by rw[List.getElem?_eq_getElem (by rw[hl];exact hkn),zec]
   repeat' first
    |with_reducible first|refine Nx.go ?_ |refine Bk.go (fun _=>?_) fun _=>?_ |refine Nb fun nb hnb hnb1 hnb2=>?_ |refine Nr fun nb nsp ncap hnb hncap hnb1 hnb2=>?_
    |simp -dsimp -implicitDefEqProofs (disch:=first|exact Kd|fail) only[go_sem,↓reduceIte,seval,hl,hget2,zhx,List.toList_toArray]
   refine Tri.loopU tok [0,1,3,4,5,6,7,11,24] Kk [0,1,3,4,5,6] (fun q2 G' fr H'=> ∃ (p w:Nat) (H2:zb),p+q2=64∧w<18446744073709551616∧(∀j,w.testBit j=((ws k).testBit j&&decide (p≤j)))∧PLe G G'∧J (elems (k * 64+p) ws) G' H2∧H'=(bx, .cells (zG 4 ws) [] 101)::H2∧fr=[(0, .func (.yield lr) #[] #[]),(1, .pointer (some ⟨bx,0,none⟩)),(3, .int .i64 k),(4, .int .u64 w),(5, .agg (zG 4 ws).toArray),(6, .int .i64 k)]) (64) ?_ ?_
   ·exact Upd.now ⟨0,ws k,H1,by omega,hwk,fun j=>by simp,hle1,hJ,rfl,rfl⟩
   ·rintro q2 G2 fr H' hle2 hs2 ⟨p,w,H2,hp,hwl,hwb,hle3,hJ2,rfl,rfl⟩
    have hg2:=hg.mono hle3
    by_cases hw0:w=0
    ·subst hw0
     have hnone: ∀i,k * 64+p≤i→i< (k+1) * 64→mem ws i=false:=fun i h1 h2=>by
      have hb:=hwb (i - k * 64)
      rw[Nat.zero_testBit,decide_eq_true Ko,Bool.and_true] at hb
      rw[show i=k * 64+(i - k * 64) by omega,zok _ _ _ Ko]
      exact hb.symm
     have he:=zlH (b:=(k+1) * 64) Ko hnone
     rw[←he] at hJ2
     repeat' first
      |with_reducible first|refine Nx.go ?_ |refine Bk.go (fun _=>?_) fun _=>?_ |refine Nb fun nb hnb hnb1 hnb2=>?_ |refine Nr fun nb nsp ncap hnb hncap hnb1 hnb2=>?_
      |simp -dsimp -implicitDefEqProofs (disch:=first|exact Kd|fail) only[go_sem,↓reduceIte,seval]
     exact Upd.now ⟨q - 1,by omega,k+1,H2,by omega,hle3,hJ2,rfl,rfl⟩
    ·obtain⟨t,ht1,ht2,ht3,ht4⟩:=zyo w Ko
     have ht64:=zzp hwl ht1
     have hbt:=hwb t
     rw[ht1] at hbt
     simp only[Bool.true_eq,Bool.and_eq_true,decide_eq_true_eq] at hbt
     have hmem:mem ws (k * 64+t)=true:=by rw[zok _ _ _ ht64];exact hbt.1
     have hlt:k * 64+t<256:=by omega
     have hskip:elems (k * 64+t) ws=elems (k * 64+p) ws:=zlH Ko fun i h1 h2=>by
      have hb:=hwb (i - k * 64)
      rw[ht2 _ Ko,decide_eq_true Ko,Bool.and_true] at hb
      rw[show i=k * 64+(i - k * 64) by omega,zok _ _ _ Ko]
      exact hb.symm
     have hhit:=zuF hmem
     have hcast:((k:Int) * 64+t)=((k * 64+t:Nat):Int):=by simp
     have hw1:((w:Int) - 1).toNat=w - 1:=by omega
     have hws:w&&& (w - 1) <18446744073709551616:=Nat.lt_of_le_of_lt Nat.and_le_left hwl
     have hw0':(w:Int)≠0:=by omega
     repeat' first
      |with_reducible first|refine Nx.go ?_ |refine Bk.go (fun _=>?_) fun _=>?_ |refine Nb fun nb hnb hnb1 hnb2=>?_ |refine Nr fun nb nsp ncap hnb hncap hnb1 hnb2=>?_
      |simp -dsimp -implicitDefEqProofs (disch:=first|exact Kd|fail) only[go_sem,↓reduceIte,seval,hw1]
      |with_reducible refine zAR w t hwl Ko ht64 (ht4 64 hwl) hg2 ?_
     rw[hcast]
     rw[←hskip] at hJ2
     refine zb8.mono (hY (k * 64+t) G2 H2 hle3 hs2 hJ2 hlt hmem) ?_
     rintro v G3 H3' hle4 hs4 ⟨H3,rfl,⟨rfl,hJ3⟩| ⟨rfl,hJ3⟩⟩
     ·rw[←hhit] at hJ3
      repeat' first
       |with_reducible first|refine Nx.go ?_ |refine Bk.go (fun _=>?_) fun _=>?_ |refine Nb fun nb hnb hnb1 hnb2=>?_ |refine Nr fun nb nsp ncap hnb hncap hnb1 hnb2=>?_
       |simp -dsimp -implicitDefEqProofs (disch:=first|exact Kd|fail) only[go_sem,↓reduceIte,seval,hw1]
      exact Upd.now ⟨64 - (t+1),by omega,t+1,w&&& (w - 1),H3,by omega,hws,fun j=>by
       rw[ht3]
       rcases Nat.lt_trichotomy j t with h|h|h
       ·rw[ht2 j h,decide_eq_false (show ¬t+1≤j by omega)];simp
       ·subst h;rw[decide_eq_false (show ¬j+1≤j by omega)];simp
       ·rw[hwb,decide_eq_true (show p≤j by omega),decide_eq_true (show j≠t by omega),decide_eq_true (show t+1≤j by omega)];simp,hle3.trans hle4,hJ3,rfl,rfl⟩
     ·repeat' first
       |with_reducible first|refine Nx.go ?_ |refine Bk.go (fun _=>?_) fun _=>?_ |refine Nb fun nb hnb hnb1 hnb2=>?_ |refine Nr fun nb nsp ncap hnb hncap hnb1 hnb2=>?_
       |simp -dsimp -implicitDefEqProofs (disch:=first|exact Kd|fail) only[go_sem,↓reduceIte,seval]
      all_goals refine Upd.finL ?_ (hR G3 H3 (hle3.trans hle4) hs4 (.inr ⟨_,hJ3⟩)) ?_
      any_goals first|exact Ks|skip
      rfl
  ·obtain rfl:k=4:=by omega
   repeat' first
    |with_reducible first|refine Nx.go ?_ |refine Bk.go (fun _=>?_) fun _=>?_ |refine Nb fun nb hnb hnb1 hnb2=>?_ |refine Nr fun nb nsp ncap hnb hncap hnb1 hnb2=>?_
    |simp -dsimp -implicitDefEqProofs (disch:=first|exact Kd|fail) only[go_sem,↓reduceIte,seval]
   all_goals refine Upd.finL ?_ (hR G1 H1 hle1 hs (.inl hJ)) ?_
   any_goals first|exact Ks|skip
   rfl
theorem zsw:V.Callee Tryz.prog 142:=⟨_,_,Tryz.func142,rfl,by kernel_rfl⟩
theorem zyp {ws:Nat→Nat} {G:za} {H:zb} {R:Value→za→zb→Prop} (hR: ∀bx,Sep G (bx::zm H)→R (.func (.func 142) #[] #[.pointer (some ⟨bx,0,none⟩)]) G ((bx, .cells (zG 4 ws) [] 101)::H)):FnT Tryz.prog 120 [.agg (zG 4 ws).toArray] G H R:=by
 have hl:=zap 4 ws
 refine FnT.body tok [0,1,2] Tryz.func120 rfl Kk Kk (by show _≤4;simp) fun hsep=>?_
 rw[Tryz.results120]
 have hE:=hsep
 try simp only[zzs] at hE
 repeat(obtain⟨hx',hE⟩:=hE)
 repeat' first
  |with_reducible first|refine Nx.go ?_ |refine Bk.go (fun _=>?_) fun _=>?_ |refine Nb fun nb hnb hnb1 hnb2=>?_
  |simp -dsimp -implicitDefEqProofs (disch:=first|exact Kd|fail) only[go_sem,↓reduceIte,seval,hl,zbx,za9,zcr,zff,List.toList_toArray]
 exact Upd.fin (hR nb hnb) rfl
theorem zo1 {ws:Nat→Nat} (hw: ∀k,ws k<18446744073709551616) {x:Nat} (hx:x<256) (hm:mem ws x=true) (hmin: ∀y,y<x→mem ws y=false) {G:za} {H:zb} {R:Value→za→zb→Prop} (hg:zcy G)
  (hR:R (.int .i64 (x:Nat)) G H):FnT Tryz.prog 80 [.agg (zG 4 ws).toArray] G H R:=by
 have hl:=zap 4 ws
 refine FnT.body tok [0,1,2,3,5,6] Tryz.func80 rfl Kk Kk (by show _≤9;simp) fun hsep=>?_
 rw[Tryz.results80]
 have hE:=hsep
 try simp only[zzs] at hE
 repeat(obtain⟨hx',hE⟩:=hE)
 repeat' first
  |with_reducible first|refine Nx.go ?_ |refine Bk.go (fun _=>?_) fun _=>?_ |refine Nb fun nb hnb hnb1 hnb2=>?_ |refine Nr fun nb nsp ncap hnb hncap hnb1 hnb2=>?_
  |simp -dsimp -implicitDefEqProofs (disch:=first|exact Kd|fail) only[go_sem,↓reduceIte,seval,hl,zbx,za9,zcr,zff,List.toList_toArray]
 rename_i b1 hb1 hb11 hb12
 revert nb
 intro b2 hb2 hb21 hb22
 refine zyp fun bx hbx=>?_
 repeat' first
  |with_reducible first|refine Nx.go ?_ |refine Bk.go (fun _=>?_) fun _=>?_ |refine Nb fun nb hnb hnb1 hnb2=>?_ |refine Nr fun nb nsp ncap hnb hncap hnb1 hnb2=>?_
  |simp -dsimp -implicitDefEqProofs (disch:=first|exact Kd|fail) only[go_sem,↓reduceIte,seval]
 refine Tri.rangeF2 tok [0,1,2,3,5,6] rfl zsw Kk fun lr Rr Rb hlr yl=>?_
 have hE:=hlr
 try simp only[zzs] at hE
 repeat(obtain⟨hx',hE⟩:=hE)
 refine FnT.leave (H':=(bx, .cells (zG 4 ws) [] 101):: (lr,Rr .normal):: (b2, .cells [.int .i64 0] [] 3):: (b1, .cells (zG 4 ws) [] 101)::H) ?_ Ks
 refine zwM lr bx hw hg (fun pre G' H'=>G'=G∧pre=[]∧H'=(lr,Rr .normal):: (b2, .cells [.int .i64 0] [] 3):: (b1, .cells (zG 4 ws) [] 101)::H) (fun pre G' H'=>G'=G∧H'=(lr,Rr .ret):: (b2, .cells [.int .i64 (x:Nat)] [] 3):: (b1, .cells (zG 4 ws) [] 101)::H) ?_ ⟨rfl,rfl,rfl⟩ ?_
 ·rintro y _ _ hle1 hs1 ⟨rfl,hpre,rfl⟩ hy hm1
  have hE:=hs1
  try simp only[zzs] at hE
  repeat(obtain⟨hx',hE⟩:=hE)
  obtain rfl:y=x:=by
   rcases Nat.lt_trichotomy y x with h|h|h
   ·rw[hmin y h] at hm1;cases hm1
   ·exact h
   ·have hin:x∈elems y ws:=List.mem_filter.2 ⟨List.mem_range.2 h,hm⟩
    rw[hpre] at hin;cases hin
  refine yl rfl ?_ ?_
  ·simp -dsimp -implicitDefEqProofs (disch:=first|exact Kd|fail) only[go_sem,↓reduceIte,seval]
  ·repeat' first
    |with_reducible first|refine Nx.go ?_ |refine Bk.go (fun _=>?_) fun _=>?_ |refine Nb fun nb hnb hnb1 hnb2=>?_ |refine Nr fun nb nsp ncap hnb hncap hnb1 hnb2=>?_
    |simp -dsimp -implicitDefEqProofs (disch:=first|exact Kd|fail) only[go_sem,↓reduceIte,seval]
   exact⟨_,rfl, .inr rfl⟩
 ·rintro _ _ hle1 hs1 (⟨rfl,hpre,rfl⟩| ⟨_,rfl,rfl⟩)
  ·have hin:x∈elems 256 ws:=List.mem_filter.2 ⟨List.mem_range.2 hx,hm⟩
   rw[hpre] at hin;cases hin
  ·have hE:=hs1
   try simp only[zzs] at hE
   repeat(obtain⟨hx',hE⟩:=hE)
   refine⟨.ret,?_,?_⟩
   ·simp -dsimp -implicitDefEqProofs (disch:=first|exact Kd|fail) only[go_sem,↓reduceIte,seval]
   ·repeat' first
     |with_reducible first|refine Nx.go ?_ |refine Bk.go (fun _=>?_) fun _=>?_ |refine Nb fun nb hnb hnb1 hnb2=>?_ |refine Nr fun nb nsp ncap hnb hncap hnb1 hnb2=>?_
     |simp -dsimp -implicitDefEqProofs (disch:=first|exact Kd|fail) only[go_sem,↓reduceIte,seval]
    all_goals refine Upd.finL ?_ hR ?_
    any_goals first|exact Ks|skip
    rfl
end Go.Proofs.YtomdbjfdbkejoaaGreatDoor
namespace Go.Proofs.YtomdbjfdbkejoaaGreatDoor
open Go Go.V Go.Proofs
theorem zqd (W:List (Nat→Nat)) {k:Nat} (hk:k<W.length) (ws:Nat→Nat):zf (W.flatMap zac) (k * 4) (zG 4 ws)=(W.set k ws).flatMap zac:=by
 have hd:=zgd (enc:=zac) (m:=4) zaX W (k+1)
 have hl:=zap 4 ws
 have ht: ∀ (V:List (Nat→Nat)) (i:Nat),(V.flatMap zac).take (i * 4)=(V.take i).flatMap zac:=by
  intro V
  induction V with
  |nil=>intro i;simp
  |cons v V ih=>
   intro i
   cases i with
   |zero=>simp
   |succ i=>
    rw[List.flatMap_cons,List.take_succ_cons,List.flatMap_cons,show(i+1) * 4=(zac v).length+i * 4 by rw[zaX];omega,List.take_length_add_append,ih]
 unfold zf
 rw[ht,hl,show k * 4+4=(k+1) * 4 by omega,hd,List.set_eq_take_append_cons_drop,if_pos hk,List.flatMap_append,List.flatMap_cons]
 simp [zac]
def zeK (l:List Int) (c:Nat) (W:List (Nat→Nat)):Prop:=
 W.length=(zk l).length∧(∀ws∈W,∀k,ws k<18446744073709551616)∧ ∀i d (hi:i<W.length),mem W[i] d=decide (d<c∧nD l d=i)
theorem zeK.all {l:List Int} (hl:l.length=256) {W:List (Nat→Nat)} (h:zeK l 256 W):zeC l 256 W:=by
 obtain⟨h1,h2,h3⟩:=h
 have hlt:l.take 256=l:=List.take_of_length_le Ko
 unfold zeC
 simp only[hlt]
 refine⟨h1,h2,fun i d hi hd h4=>?_⟩
 rw[h3 i d hi]
 refine decide_eq_decide.2 ?_
 rw[zmG hd h4]
 exact⟨fun h=>h.2,fun h=>⟨by omega,h⟩⟩
theorem zeK.zero (l:List Int):zeK l 0 (List.replicate (zk l).length fun _=>0):=by
 refine⟨List.length_replicate,fun ws hws k=>?_,fun i d hi=>?_⟩
 ·rw[(List.mem_replicate.1 hws).2];exact Nat.zero_lt_succ _
 ·rw[List.getElem_replicate,zkk,decide_eq_false Ko]
theorem zeK.succ {l:List Int} (hl:l.length=256) {c:Nat} (hc:c<256) {W:List (Nat→Nat)} (h:zeK l c W) {n:Nat} (hn:nD l c=n) (hnl:n<W.length):zeK l (c+1) (W.set n (zdF [W[n],zej c])):=by
 obtain⟨h1,h2,h3⟩:=h
 have hb: ∀f∈[W[n],zej c],∀k,f k<18446744073709551616:=fun f hf k=>by
  rcases List.mem_cons.1 hf with h|h
  ·rw[h];exact h2 _ (List.getElem_mem hnl) k
  ·rw[List.mem_singleton.1 h];exact zqR c k
 refine⟨by rw[List.length_set];exact h1,fun ws hws k=>?_,fun i d hi=>?_⟩
 ·rcases List.mem_or_eq_of_mem_set hws with h|h
  ·exact h2 _ h k
  ·rw[h];exact zmk hb k
 ·rw[List.length_set] at hi
  rw[List.getElem_set]
  by_cases e:n=i
  ·subst e
   rw[if_pos rfl]
   have hu:zdF [W[n],zej c]=zwI W[n] (zej c):=by funext k;show 0|||_|||_=_;rw[Nat.zero_or];rfl
   rw[hu,zwK,zwJ,h3 n d hnl,Bool.eq_iff_iff]
   simp only[Bool.or_eq_true,decide_eq_true_eq]
   constructor
   ·rintro(⟨q1,q2⟩|q)
    ·exact⟨by omega,q2⟩
    ·subst q;exact⟨by omega,hn⟩
   ·rintro⟨q1,q2⟩
    by_cases e:d=c
    ·exact .inr e
    ·exact .inl ⟨by omega,q2⟩
  ·rw[if_neg e,h3 i d hi]
   refine decide_eq_decide.2 ⟨fun q=>⟨by omega,q.2⟩,fun q=>⟨?_,q.2⟩⟩
   rcases Nat.lt_or_ge d c with q1|q1
   ·exact q1
   ·obtain rfl:d=c:=by omega
    rw[hn] at q;omega
theorem zuG (n:Nat):rep n [Value.int .u64 0,Value.int .u64 0,Value.int .u64 0,Value.int .u64 0]=(List.replicate n (fun _:Nat=>0)).flatMap zac:=by
 induction n with
 |zero=>rfl
 |succ n ih=>
  rw[List.replicate_succ,List.flatMap_cons,←ih]
  rfl
theorem zyq {l:List Int} (hl:l.length=256) {G:za} {H:zb} {R:Value→za→zb→Prop}
  (hR: ∀G' v' W,PLe G G'→Sep G' (zm H)→SlM G' zac v' W→zeC l 256 W→R v' G' H):FnT Tryz.prog 79 [zbO l] G H R:=by
 have hu8:(u8L l).length=256:=by rw[List.length_map,hl]
 have htk:List.take 256 (u8L l)=u8L l:=List.take_of_length_le Ko
 have hnl:(zg l).length=256:=by rw[zr,hl]
 have hu9:(u8L (zg l)).length=256:=by rw[List.length_map,hnl]
 have htk9:List.take 256 (u8L (zg l))=u8L (zg l):=List.take_of_length_le Ko
 have hno1: ∀l:List Int,(u8L l).all zaL=true:=fun l=>by rw[List.all_map];exact List.all_eq_true.2 fun _ _=>rfl
 have hov: ∀f:Nat→Int,zf (u8F f) 0 (u8L (zg l))=u8L (zg l):=fun f=>by rw[←zhV hl,zbE]
 have htl:=zai l
 refine FnT.sep ?_
 refine FnT.body tok [0,1,2,3,4,5,6,7,15,16] Tryz.func79 rfl Kk Kk (by show _≤36;simp) fun hsep=>?_
 rw[Tryz.results79]
 have hE:=hsep
 try simp only[zzs] at hE
 repeat(obtain⟨hx',hE⟩:=hE)
 repeat' first
  |with_reducible first|refine Nx.go ?_ |refine Bk.go (fun _=>?_) fun _=>?_ |refine Nb fun nb hnb hnb1 hnb2=>?_ |refine Nr fun nb nsp ncap hnb hncap hnb1 hnb2=>?_
  |simp -dsimp -implicitDefEqProofs (disch:=first|exact Kd|fail) only[go_sem,↓reduceIte,seval, -List.reduceReplicate,List.toList_toArray,zc4,zay,hu8,htk]
  |with_reducible refine zl6 hl ?_
 rename_i b1 hb1 hb11 hb12 b3 hb3 hb31 hb32
 revert nb
 intro b5 hb5 hb51 hb52
 rw[hov,zuG,Nat.sub_self,show rep 0 [Value.int .u64 0,Value.int .u64 0,Value.int .u64 0,Value.int .u64 0]=[] from rfl]
 refine Tri.loopU tok [0,1,2,3,4,5,6,7,15,16] Kk [2,3,5,15] (fun q G' fr H'=> ∃ (c:Nat) (W:List (Nat→Nat)),c+q=256∧G'=G∧zeK l c W∧H'=(b5, .cells (W.flatMap zac) [] 101):: (b3, .cells (u8L (zg l)) [] 22):: (b1, .cells (u8L l) [] 22)::H∧fr=[(2, .slice none 0 0),(3, .pointer (some ⟨b3,0,none⟩)),(5, .slice (some ⟨b5,0,none⟩) (zk l).length (zk l).length),(15, .int .i64 (c:Nat))]) (256) ?_ ?_
 ·exact Upd.now ⟨0,_,by omega,rfl,zeK.zero l,rfl,rfl⟩
 ·rintro q G1 fr H' hle hs ⟨c,W,hc,rfl,hW,rfl,rfl⟩
  have hE:=hs
  try simp only[zzs] at hE
  repeat(obtain⟨hx',hE⟩:=hE)
  obtain⟨hW1,hW2,hW3⟩:=id hW
  have hfl:=zbq (enc:=zac) (m:=4) zaX W
  by_cases hcl:c<256
  ·obtain⟨q1,q2⟩:=zbd (List.getElem_mem (l:=zg l) (n:=c) Ko)
   obtain⟨n,hn⟩:=Int.eq_ofNat_of_zero_le q1
   have hnW:n<W.length:=by omega
   have hnd:nD l c=n:=by unfold nD;rw[List.getD_eq_getElem?_getD,List.getElem?_eq_getElem Ko,←hn];rfl
   have hget:=ztw (l:=zg l) (i:=c) Ko []
   rw[List.append_nil,hn] at hget
   have hget2:=zg6 (enc:=zac) (m:=4) zaX W n hnW
   have hget3:List.take 4 (List.drop (n * 4) (W.flatMap zac))=zG 4 W[n]:=hget2
   have hmul:(n+1) * 4≤W.length * 4:=Nat.mul_le_mul_right _ hnW
   have hc8:IntKind.u8.wrap (c:Int)=(c:Int):=zeO hcl
   have hS:=hW.succ hl hcl hnd hnW
   have hr1: ∀v:Value,List.replicate 1 v=[v]:=fun _=>rfl
   have hr8: ∀v:Value,List.replicate 8 v=[v,v,v,v,v,v,v,v]:=fun _=>rfl
   have hl4:=zap 4
   obtain⟨Z,hZ⟩: ∃Z,Z=rep 2 [Value.int .u64 0,Value.int .u64 0,Value.int .u64 0,Value.int .u64 0]:=⟨_,rfl⟩
   have hZl:Z.length=8:=by rw[hZ];rfl
   have hspl1: ∀f,zf Z 0 (zG 4 f)=zG 4 f++Z.drop 4:=fun f=>by unfold zf;rw[List.take_zero,List.nil_append,hl4]
   have hspl2: ∀f g,zf (zG 4 f++Z.drop 4) 4 (zG 4 g)=[f,g].flatMap zac:=fun f g=>by
    unfold zf
    rw[List.take_append_of_le_length (by rw[hl4];omega),List.take_of_length_le (by rw[hl4];omega),List.drop_of_length_le (by rw[List.length_append,hl4,hl4,List.length_drop,hZl];omega)]
    simp [zac]
   have hspll: ∀f,(zG 4 f++Z.drop 4).length=8:=fun f=>by rw[List.length_append,hl4,List.length_drop,hZl]
   repeat' first
    |with_reducible first|refine Nx.go ?_ |refine Bk.go (fun _=>?_) fun _=>?_ |refine Nb fun nb hnb hnb1 hnb2=>?_ |refine Nr fun nb nsp ncap hnb hncap hnb1 hnb2=>?_
    |simp -dsimp -implicitDefEqProofs (disch:=first|exact Kd|fail) only[go_sem,↓reduceIte,seval, -List.reduceReplicate,hr1,List.toList_toArray,hu9,hget,hfl,hget3,hl4,hc8,za9,Int.toNat_natCast]
    |with_reducible refine Tri.drawS tok mixed [0,1,2,3,4,5,6,7,15,16] 7 [5] (.op 0 .plain (.op 1 .plain (.op 2 .plain (.op 3 .plain (.op 4 .plain (.op 5 .held (.op 6 .plain (.op 7 .plain (.op 8 .keeps (.op 9 .keeps (.op 10 .plain (.op 11 .keeps (.op 12 .plain (.op 13 .plain .nil)))))))))))))) Kk [(b5, .cells (W.flatMap zac) [] 101)] Ks ?_
   refine zAy (e:=5) hcl hnb1 (by simp [zq]) ?_
   repeat' first
    |with_reducible first|refine Nx.go ?_ |refine Bk.go (fun _=>?_) fun _=>?_ |refine Nb fun nb hnb hnb1 hnb2=>?_ |refine Nr fun nb nsp ncap hnb hncap hnb1 hnb2=>?_
    |simp -dsimp -implicitDefEqProofs (disch:=first|exact Kd|fail) only[go_sem,↓reduceIte,seval, -List.reduceReplicate,hr1,hr8,List.toList_toArray,hu9,hget,hfl,hget3,hl4,hc8,za9,Int.toNat_natCast,←hZ,hZl,hspl1,hspll,hspl2]
   refine zwL (l:=[W[n],zej c]) (e:=101) (sp:=[]) (by simp) (fun f hf=>?_) Ka (by simp [zq]) ?_
   ·rcases List.mem_cons.1 hf with h|h
    ·rw[h];exact hW2 _ (List.getElem_mem hnW)
    ·rw[List.mem_singleton.1 h];exact zqR c
   have hfl2:=zbq (enc:=zac) (m:=4) zaX (W.set n (zdF [W[n],zej c]))
   have hspf:=zqd W hnW (zdF [W[n],zej c])
   repeat' first
    |with_reducible first|refine Nx.go ?_ |refine Bk.go (fun _=>?_) fun _=>?_ |refine Nb fun nb hnb hnb1 hnb2=>?_ |refine Nr fun nb nsp ncap hnb hncap hnb1 hnb2=>?_
    |simp -dsimp -implicitDefEqProofs (disch:=first|exact Kd|fail) only[go_sem,↓reduceIte,seval, -List.reduceReplicate,List.toList_toArray,hfl,hl4,za9,hspf]
   exact Upd.go (H':=(b5, .cells ((W.set n (zdF [W[n],zej c])).flatMap zac) [] 101):: (b3, .cells (u8L (zg l)) [] 22):: (b1, .cells (u8L l) [] 22)::H) Ks (Upd.now ⟨q - 1,by omega,c+1,_,by omega,rfl,hS,rfl,rfl⟩)
  ·obtain rfl:c=256:=by omega
   repeat' first
    |with_reducible first|refine Nx.go ?_ |refine Bk.go (fun _=>?_) fun _=>?_ |refine Nb fun nb hnb hnb1 hnb2=>?_ |refine Nr fun nb nsp ncap hnb hncap hnb1 hnb2=>?_
    |simp -dsimp -implicitDefEqProofs (disch:=first|exact Kd|fail) only[go_sem,↓reduceIte,seval, -List.reduceReplicate]
   unfold zv
   refine Upd.go (H':=(b5, .cells (W.flatMap zac) [] 101)::H) Ks (Upd.shareRow Ka fun G2 hle2 hs2 hr2=>?_)
   exact fun _ hs=>hR G2 _ W hle2 hs ⟨some ⟨b5,0,none⟩,_,by rw[hW1],hr2,by omega⟩ (hW.all hl)
end Go.Proofs.YtomdbjfdbkejoaaGreatDoor
namespace Go.Proofs.YtomdbjfdbkejoaaGreatDoor
open Go Go.V Go.Proofs
def zag (l:List Int):List Int:=(zk l).map (zz l)
theorem zdc (l:List Int):(zag l).length=(zk l).length:=by simp [zag]
theorem zwN {l:List Int} (hl:l.length=256) {W:List (Nat→Nat)} (hW:zeC l 256 W) {i:Nat} (hi:i<W.length): ∃ (x:Nat) (h:i< (zag l).length),(zag l)[i]=(x:Nat)∧x<256∧mem W[i] x=true∧ ∀y,y<x→mem W[i] y=false:=by
 obtain⟨h1,h2,h3⟩:=hW
 have hlt:l.take 256=l:=List.take_of_length_le Ko
 simp only[hlt] at h1 h3
 have hit:i< (zk l).length:=by omega
 have hin:(zk l)[i]∈l:=(zN l).1 (List.getElem_mem hit)
 obtain⟨x,hx⟩:=zab hin
 obtain⟨hx1,hx2⟩:=z6 hx
 rw[List.getElem?_eq_getElem hx1,Option.some.injEq] at hx2
 refine⟨x,by rw[zdc];exact hit,by simp only[zag,List.getElem_map];exact zH hx,by omega,?_,fun y hy=>?_⟩
 ·rw[h3 i x hi hx1 hit];exact decide_eq_true hx2
 ·rw[h3 i y hi Ko hit]
  refine decide_eq_false fun e=>?_
  unfold place at hx
  rw[List.findIdx?_eq_some_iff_getElem] at hx
  obtain⟨h5,h6,h7⟩:=hx
  have:=h7 y hy
  simp only[e,decide_true,not_true_eq_false] at this
theorem zuH {l:List Int} {i:Nat} (h:i<l.length):(l.take (i+1)).map (Value.int .u8)=(l.take i).map (Value.int .u8)++[Value.int .u8 l[i]]:=by
 rw[List.take_succ_eq_append_getElem h,List.map_append];rfl
theorem zja {l:List Int} (hl:l.length=256) {G:za} {H:zb} {R:Value→za→zb→Prop} (hg:zcy G)
  (hR: ∀G' v',PLe G G'→Sep G' (zm H)→Sl G' (Value.int .u8) v' (zag l)→R v' G' H):FnT Tryz.prog 48 [zbO l] G H R:=by
 have hu8:(u8L l).length=256:=by rw[List.length_map,hl]
 have htk:List.take 256 (u8L l)=u8L l:=List.take_of_length_le Ko
 have hno1: ∀l:List Int,(u8L l).all zaL=true:=fun l=>by rw[List.all_map];exact List.all_eq_true.2 fun _ _=>rfl
 have hll:=zdc l
 have htl:=zai l
 refine FnT.sep ?_
 refine FnT.body tok [0,1,2,3,5,7,8,9,10] Tryz.func48 rfl Kk Kk (by show _≤21;simp) fun hsep=>?_
 rw[Tryz.results48]
 have hE:=hsep
 try simp only[zzs] at hE
 repeat(obtain⟨hx',hE⟩:=hE)
 repeat' first
  |with_reducible first|refine Nx.go ?_ |refine Bk.go (fun _=>?_) fun _=>?_ |refine Nb fun nb hnb hnb1 hnb2=>?_ |refine Nr fun nb nsp ncap hnb hncap hnb1 hnb2=>?_
  |simp -dsimp -implicitDefEqProofs (disch:=first|exact Kd|fail) only[go_sem,↓reduceIte,seval, -List.reduceReplicate,List.toList_toArray,zc4,zay,hu8,htk]
 revert nb
 intro b1 hb1 hb11 hb12
 refine zyq hl fun G2 v2 W hle2 hs2 hsl hW=>?_
 obtain⟨a,cap,rfl,hrow,hcap⟩:=hsl
 have hWl:W.length=(zk l).length:=by
  have:=hW.1
  rwa [List.take_of_length_le Ko] at this
 have hg2:=hg.mono hle2
 have hE:=hs2
 try simp only[zzs] at hE
 repeat(obtain⟨hx',hE⟩:=hE)
 repeat' first
  |with_reducible first|refine Nx.go ?_ |refine Bk.go (fun _=>?_) fun _=>?_ |refine Nb fun nb hnb hnb1 hnb2=>?_ |refine Nr fun nb nsp ncap hnb hncap hnb1 hnb2=>?_
  |simp -dsimp -implicitDefEqProofs (disch:=first|exact Kd|fail) only[go_sem,↓reduceIte,seval, -List.reduceReplicate,List.toList_toArray]
 refine Tri.loopU tok [0,1,2,3,5,7,8,9,10] Kk [2,3,7,8,9] (fun q G' fr H'=> ∃ (i:Nat) (v:Value) (kb:zb),i+q=W.length∧G'=G2∧zS [] 5 1 v i ((zag l).take i |>.map (Value.int .u8)) kb∧H'=(b1, .cells (u8L l) [] 22):: (kb++H)∧fr=[(2, .slice none 0 0),(3,v),(7, .slice a W.length cap),(8, .int .i64 W.length),(9, .int .i64 i)]) (W.length) ?_ ?_
 ·exact Upd.now ⟨0,_,[],by omega,rfl, .inl ⟨none,rfl,rfl,rfl,rfl⟩,rfl,rfl⟩
 ·rintro q G1 fr H' hle hs ⟨i,v,kb,hi,rfl,hv,rfl,rfl⟩
  by_cases hil:i<W.length
  ·have had:Adr a:=hrow.adr (by rw[zbq zaX];omega)
   obtain⟨x,hx1,hx2,hx3,hx4,hx5⟩:=zwN hl hW hil
   have hsn:=zuH hx1
   rw[hx2] at hsn
   have hx8:IntKind.u8.wrap (x:Int)=(x:Int):=zeO hx3
   have hws:=hW.2.1 _ (List.getElem_mem hil)
   have hl4:=zap 4
   have hr1: ∀v:Value,List.replicate 1 v=[v]:=fun _=>rfl
   have hob:zac=zG 4:=rfl
   have hlt:((zag l).take i).length=i:=by rw[List.length_take];omega
   rcases hv with ⟨a0,rfl,hn,hx,rfl⟩| ⟨b2,c2,sp,rfl,rfl,hx,hc⟩
   ·have hE:=hs
    try simp only[zzs] at hE
    repeat(obtain⟨hx',hE⟩:=hE)
    repeat' first
     |with_reducible first|refine Nx.go ?_ |refine Bk.go (fun _=>?_) fun _=>?_ |refine Nb fun nb hnb hnb1 hnb2=>?_ |refine Nr fun nb nsp ncap hnb hncap hnb1 hnb2=>?_
     |simp -dsimp -implicitDefEqProofs (disch:=first|exact Kd|fail) only[go_sem,↓reduceIte,seval, -List.reduceReplicate,hr1,List.toList_toArray,Row.objsM hrow zaX (by decide) hil,hob,hl4,za9,zcr,zbx,hx8]
     |with_reducible refine zo1 hws hx3 hx4 hx5 hg2 ?_
    have hce:((zag l).take (i+1)).map (Value.int .u8)=[Value.int .u8 (x:Nat)]:=by rw[hsn,hx];rfl
    rw[←hce]
    have hlt1:((zag l).take (i+1)).length=i+1:=by rw[List.length_take];omega
    exact Upd.go (H':=(b1, .cells (u8L l) [] 22):: ([(nb, .cells (((zag l).take (i+1)).map (Value.int .u8)) nsp 5)]++H)) Ks (Upd.now ⟨q - 1,by omega,i+1, .slice (some ⟨nb,0,none⟩) (i+1) ncap,[_],by omega,rfl, .inr ⟨nb,ncap,nsp,rfl,rfl,by rw[List.length_map,hlt1,Nat.mul_one],by rw[hce];simp at hncap⊢;omega⟩,rfl,by obtain rfl:i=0:=hn;rfl⟩)
   ·have hE:=hs
    try simp only[zzs] at hE
    repeat(obtain⟨hx',hE⟩:=hE)
    repeat' first
     |with_reducible first|refine Nx.go ?_ |refine Bk.go (fun _=>?_) fun _=>?_ |refine Nb fun nb hnb hnb1 hnb2=>?_ |refine Nr fun nb nsp ncap hnb hncap hnb1 hnb2=>?_
     |simp -dsimp -implicitDefEqProofs (disch:=first|exact Kd|fail) only[go_sem,↓reduceIte,seval, -List.reduceReplicate,hr1,List.toList_toArray,Row.objsM hrow zaX (by decide) hil,hob,hl4,za9,zcr,zbx,hx8,List.length_map]
     |with_reducible refine zo1 hws hx3 hx4 hx5 hg2 ?_
    have hlt1:((zag l).take (i+1)).length=i+1:=by rw[List.length_take];omega
    rw[←hsn]
    exact Upd.go (H':=(b1, .cells (u8L l) [] 22):: ([(nb, .cells (((zag l).take (i+1)).map (Value.int .u8)) nsp 5)]++H)) Ks (Upd.now ⟨q - 1,by omega,i+1, .slice (some ⟨nb,0,none⟩) (i+1) ncap,[_],by omega,rfl, .inr ⟨nb,ncap,nsp,rfl,rfl,by rw[List.length_map,hlt1,Nat.mul_one],by rw[List.length_map,hlt1];simp [hlt] at hncap⊢;omega⟩,rfl,rfl⟩)
  ·obtain rfl:i=W.length:=by omega
   have hall:(zag l).take W.length=zag l:=List.take_of_length_le Ko
   rw[hall] at hv
   repeat' first
    |with_reducible first|refine Nx.go ?_ |refine Bk.go (fun _=>?_) fun _=>?_ |refine Nb fun nb hnb hnb1 hnb2=>?_ |refine Nr fun nb nsp ncap hnb hncap hnb1 hnb2=>?_
    |simp -dsimp -implicitDefEqProofs (disch:=first|exact Kd|fail) only[go_sem,↓reduceIte,seval]
   unfold zv
   refine Upd.go (H':=kb++H) Ks ?_
   rcases hv with ⟨a0,rfl,hn,hx,rfl⟩| ⟨b2,c2,sp,rfl,rfl,hx,hc⟩
   ·have hl0:zag l=[]:=List.eq_nil_of_length_eq_zero Ko
    rw[hl0] at hR
    refine Upd.now ?_
    exact fun hle hs=>hR _ _ hle2 hs ⟨a0,0,rfl,Row.nil _ _,Nat.le_refl _⟩
   ·have hE:=hs
    try simp only[zzs] at hE
    repeat(obtain⟨hx',hE⟩:=hE)
    refine Upd.shareRow Ka fun G3 hle3 hs3 hr3=>?_
    exact fun hle hs=>hR _ _ (hle2.trans hle3) hs ⟨some ⟨b2,0,none⟩,c2,by rw[hll,←hWl],hr3,by rw[List.length_map] at hx hc;omega⟩
end Go.Proofs.YtomdbjfdbkejoaaGreatDoor
namespace Go.Proofs.YtomdbjfdbkejoaaGreatDoor
open Go Go.V Go.Proofs
theorem hes:zeB T 9 str:=zrU (T:=T) (t:=9) rfl
theorem zzr {l:List (List UInt8)} (hlen:l.length≤2000000) {fid:FuncId} {XC:List Value} {tyX:TypeId} {b1:Nat} {G:za} {H:zb} {R:Value→za→zb→Prop}
  (hkey: ∀i (hi:i<l.length) (H1:zb) (R1:Value→za→zb→Prop),G b1=none→zq H1 b1=some (.cells XC [] tyX)→R1 (str l[i]) G H1→FnT Tryz.prog fid [.int .i64 (i:Nat), .pointer (some ⟨b1,0,none⟩)] G H1 R1)
  (hR: ∀G' v,PLe G G'→Sep G' (zm H)→Sl G' (Value.int .i64) v (zg l)→R v G' H):FnT Tryz.prog 137 [.int .i64 l.length, .func (.func fid) #[] #[.pointer (some ⟨b1,0,none⟩)]] G ((b1, .cells XC [] tyX)::H) R:=by
 refine FnT.sep ?_
 refine FnT.body tok [0,1,4,5,6,7,8,10,12,13,14,26] Tryz.func137 rfl Kk Kk (by show _≤39;simp) fun hsep=>?_
 rw[Tryz.results137]
 have hE:=hsep
 try simp only[zzs] at hE
 repeat(obtain⟨hx',hE⟩:=hE)
 repeat' first
  |with_reducible first|refine Nx.go ?_ |refine Bk.go (fun _=>?_) fun _=>?_ |refine zas.mk (fun _ _=>?_) fun _=>?_ |refine Nb fun nb hnb hnb1 hnb2=>?_ |refine Nr fun nb nsp ncap hnb hncap hnb1 hnb2=>?_
  |simp -dsimp -implicitDefEqProofs (disch:=first|exact Kd|fail) only[go_sem,↓reduceIte,seval]
 revert nb
 intro bm hbm hbm1 hbm2
 refine Tri.loopU tok [0,1,4,5,6,7,8,10,12,13,14,26] Kk [0,1,4,5,6,12,13] (fun q G' fr H'=> ∃ (i:Nat) (v:Value) (kb:zb),i+q=l.length∧G'=G∧zS [] 3 1 v i ((zg (l.take i)).map (Value.int .i64)) kb∧H'=(bm, .map ((zbN 0 (zk (l.take i))).map fun p=>(str p.1,Value.int .i64 p.2))):: (b1, .cells XC [] tyX):: (kb++H)∧fr=[(0, .int .i64 l.length),(1, .func (.func fid) #[] #[.pointer (some ⟨b1,0,none⟩)]),(4, .slice none 0 0),(5, .map (some bm)),(6,v),(12, .int .i64 l.length),(13, .int .i64 i)]) (l.length) ?_ ?_
 ·exact Upd.now ⟨0,_,[],by omega,rfl, .inl ⟨none,rfl,rfl,rfl,rfl⟩,rfl,rfl⟩
 ·rintro q G1 fr H' hle hs ⟨i,v,kb,hi,rfl,hv,rfl,rfl⟩
  have hnl:(zg (l.take i)).length=i:=by rw[zr,List.length_take];omega
  have htl:=zai (l.take i)
  rw[List.length_take] at htl
  by_cases hil:i<l.length
  ·have htk:=List.take_succ_eq_append_getElem hil
   rcases hp:place (zk (l.take i)) l[i] with _|n
   ·have hnn:=zcE hp
    have hpe:=zeo (zdK hp)
    rw[←htk] at hnn
    rcases hv with ⟨a0,rfl,hn,hx,rfl⟩| ⟨b2,c2,sp,rfl,rfl,hx,hc⟩
    ·have hE:=hs
     try simp only[zzs] at hE
     repeat(obtain⟨hx',hE⟩:=hE)
     repeat' first
      |with_reducible first|refine Nx.go ?_ |refine Bk.go (fun _=>?_) fun _=>?_ |refine zas.mk (fun _ _=>?_) fun _=>?_ |refine Nb fun nb hnb hnb1 hnb2=>?_ |refine Nr fun nb nsp ncap hnb hncap hnb1 hnb2=>?_
      |simp -dsimp -implicitDefEqProofs (disch:=first|exact Kd|fail) only[go_sem,↓reduceIte,seval,zb2 hes (Value.int .i64),zb3 hes,zbJ,Option.map_map,zcB hes (Value.int .i64),zcD,hp,hpe,List.length_map,zbT]
      |with_reducible refine hkey i hil _ _ Ka ?_ ?_
     have hce:(zg (l.take (i+1))).map (Value.int .i64)=[Value.int .i64 (zk (l.take i)).length]:=by rw[hnn.2,List.map_append,hx];rfl
     rw[←hnn.1,←hce]
     refine Upd.go (H':=(bm, .map ((zbN 0 (zk (l.take (i+1)))).map fun p=>(str p.1,Value.int .i64 p.2))):: (b1, .cells XC [] tyX):: ([(nb, .cells ((zg (l.take (i+1))).map (Value.int .i64)) nsp 3)]++H)) Ks (Upd.now ⟨q - 1,by omega,i+1, .slice (some ⟨nb,0,none⟩) (i+1) ncap,[_],by omega,rfl, .inr ⟨nb,ncap,nsp,rfl,rfl,by rw[hce];simp [hn],by rw[hce];simp at hncap⊢;omega⟩,rfl,by obtain rfl:i=0:=hn;rfl⟩)
    ·have hE:=hs
     try simp only[zzs] at hE
     repeat(obtain⟨hx',hE⟩:=hE)
     repeat' first
      |with_reducible first|refine Nx.go ?_ |refine Bk.go (fun _=>?_) fun _=>?_ |refine zas.mk (fun _ _=>?_) fun _=>?_ |refine Nb fun nb hnb hnb1 hnb2=>?_ |refine Nr fun nb nsp ncap hnb hncap hnb1 hnb2=>?_
      |simp -dsimp -implicitDefEqProofs (disch:=first|exact Kd|fail) only[go_sem,↓reduceIte,seval,zb2 hes (Value.int .i64),zb3 hes,zbJ,Option.map_map,zcB hes (Value.int .i64),zcD,hp,hpe,List.length_map,zbT]
      |with_reducible refine hkey i hil _ _ Ka ?_ ?_
     have hce:(zg (l.take (i+1))).map (Value.int .i64)=(zg (l.take i)).map (Value.int .i64)++[Value.int .i64 (zk (l.take i)).length]:=by rw[hnn.2,List.map_append];rfl
     rw[←hnn.1,←hce]
     refine Upd.go (H':=(bm, .map ((zbN 0 (zk (l.take (i+1)))).map fun p=>(str p.1,Value.int .i64 p.2))):: (b1, .cells XC [] tyX):: ([(nb, .cells ((zg (l.take (i+1))).map (Value.int .i64)) nsp 3)]++H)) Ks (Upd.now ⟨q - 1,by omega,i+1, .slice (some ⟨nb,0,none⟩) (i+1) ncap,[_],by omega,rfl, .inr ⟨nb,ncap,nsp,rfl,rfl,by rw[hce];simp [hnl],by rw[hce];simp [hnl] at hncap⊢;omega⟩,rfl,rfl⟩)
   ·have hnn:=zc3 hp
    rw[←htk] at hnn
    have hn0:i≠0:=fun e=>by subst e;rw[List.take_zero,zgh,zmA] at hp;cases hp
    rcases hv with ⟨a0,rfl,hn,hx,rfl⟩| ⟨b2,c2,sp,rfl,rfl,hx,hc⟩
    ·exact absurd hn hn0
    ·have hE:=hs
     try simp only[zzs] at hE
     repeat(obtain⟨hx',hE⟩:=hE)
     repeat' first
      |with_reducible first|refine Nx.go ?_ |refine Bk.go (fun _=>?_) fun _=>?_ |refine zas.mk (fun _ _=>?_) fun _=>?_ |refine Nb fun nb hnb hnb1 hnb2=>?_ |refine Nr fun nb nsp ncap hnb hncap hnb1 hnb2=>?_
      |simp -dsimp -implicitDefEqProofs (disch:=first|exact Kd|fail) only[go_sem,↓reduceIte,seval,zb2 hes (Value.int .i64),zb3 hes,zbJ,Option.map_map,zcB hes (Value.int .i64),zcD,hp,List.length_map,zbT]
      |with_reducible refine hkey i hil _ _ Ka ?_ ?_
     have hce:(zg (l.take (i+1))).map (Value.int .i64)=(zg (l.take i)).map (Value.int .i64)++[Value.int .i64 n]:=by rw[hnn.2,List.map_append];rfl
     rw[←hnn.1,←hce]
     refine Upd.go (H':=(bm, .map ((zbN 0 (zk (l.take (i+1)))).map fun p=>(str p.1,Value.int .i64 p.2))):: (b1, .cells XC [] tyX):: ([(nb, .cells ((zg (l.take (i+1))).map (Value.int .i64)) nsp 3)]++H)) Ks (Upd.now ⟨q - 1,by omega,i+1, .slice (some ⟨nb,0,none⟩) (i+1) ncap,[_],by omega,rfl, .inr ⟨nb,ncap,nsp,rfl,rfl,by rw[hce];simp [hnl],by rw[hce];simp [hnl] at hncap⊢;omega⟩,rfl,rfl⟩)
  ·obtain rfl:i=l.length:=by omega
   rw[List.take_length] at hv⊢
   repeat' first
    |with_reducible first|refine Nx.go ?_ |refine Bk.go (fun _=>?_) fun _=>?_ |refine zas.mk (fun _ _=>?_) fun _=>?_ |refine Nb fun nb hnb hnb1 hnb2=>?_ |refine Nr fun nb nsp ncap hnb hncap hnb1 hnb2=>?_
    |simp -dsimp -implicitDefEqProofs (disch:=first|exact Kd|fail) only[go_sem,↓reduceIte,seval]
   unfold zv
   refine Upd.go (H':=kb++H) Ks ?_
   rcases hv with ⟨a0,rfl,hn,hx,rfl⟩| ⟨b2,c2,sp,rfl,rfl,hx,hc⟩
   ·have hl0:l=[]:=List.eq_nil_of_length_eq_zero hn
    subst hl0
    refine Upd.now ?_
    exact fun hle hs=>hR _ _ (PLe.refl _) hs ⟨a0,0,rfl,Row.nil _ _,Nat.le_refl _⟩
   ·have hE:=hs
    try simp only[zzs] at hE
    repeat(obtain⟨hx',hE⟩:=hE)
    refine Upd.shareRow Ka fun G2 hle2 hs2 hr2=>?_
    exact fun hle hs=>hR _ _ hle2 hs ⟨some ⟨b2,0,none⟩,c2,by rw[zr],hr2,by rw[zr];rw[List.length_map,zr] at hx hc;omega⟩
def b3 (n:Nat):List UInt8:=[UInt8.ofNat n,UInt8.ofNat (n / 256),UInt8.ofNat (n / 65536)]
def zek (d:DfaT) (k s:Nat):List UInt8:=(d.next.take s).flatMap fun r=>b3 (atL r k).toNat
def zwO (d:DfaT) (k:Nat):List UInt8:=zek d k d.next.length
theorem zgV (d:DfaT) (k:Nat) {s:Nat} (h:s<d.next.length):zek d k (s+1)=zek d k s++b3 (atL d.next[s] k).toNat:=by
 unfold zek
 rw[List.take_succ_eq_append_getElem h,List.flatMap_append];simp
theorem zij (d:DfaT) (k:Nat): ∀s,s≤d.next.length→(zek d k s).length=3 * s
 |0,_=>by simp [zek]
 |s+1,h=>by rw[zgV d k Ko,List.length_append,zij d k s Ko];simp [b3];omega
theorem zzt {n m:Nat} (hn:n<16777216) (hm:m<16777216) (h:b3 n=b3 m):n=m:=by
 unfold b3 at h
 simp only[List.cons.injEq,and_true] at h
 obtain⟨h1,h2,h3⟩:=h
 have g1:=congrArg UInt8.toNat h1
 have g2:=congrArg UInt8.toNat h2
 have g3:=congrArg UInt8.toNat h3
 simp only[UInt8.toNat_ofNat'] at g1 g2 g3
 omega
theorem zkI {d:DfaT} {k k':Nat} (hs: ∀s (h:s<d.next.length),(atL d.next[s] k).toNat<16777216∧(atL d.next[s] k').toNat<16777216): ∀n,n≤d.next.length→(zek d k n=zek d k' n↔ ∀s (h:s<d.next.length),s<n→(atL d.next[s] k).toNat=(atL d.next[s] k').toNat)
 |0,_=>⟨fun _ s _ h=>by omega,fun _=>rfl⟩
 |n+1,hn=>by
  have ih:=zkI hs n Ko
  rw[zgV d k Ko,zgV d k' Ko]
  constructor
  ·intro h
   have hl:(zek d k n).length=(zek d k' n).length:=by rw[zij d k n Ko,zij d k' n Ko]
   obtain⟨h1,h2⟩:=List.append_inj h hl
   intro s hs1 hsn
   by_cases e:s=n
   ·subst e;exact zzt (hs s hs1).1 (hs s hs1).2 h2
   ·exact ih.1 h1 s hs1 Ko
  ·intro h
   rw[ih.2 fun s h1 h2=>h s h1 Ko,h n Ko Ko]
theorem zo2 (n:Nat):IntKind.u8.wrap (n:Int)=((UInt8.ofNat n).toNat:Int):=by
 rw[UInt8.toNat_ofNat']
 simp only[IntKind.wrap,IntKind.bits,IntKind.signed]
 simp
theorem zAz {d:DfaT} (hsm:zx d) (hok:zc d) {C:List Value} {an al ay:Option Addr} {cn cl cs:Nat} {rs:List Value} {G:za} (O:OpenD G d C an al ay cn cl cs rs) {b1:Nat} {k:Nat} (hk:(k:Int) <d.width)
  {H:zb} {R:Value→za→zb→Prop} (hg:G b1=none) (hf:zq H b1=some (.cells C [] 27)) (hR:R (str (zwO d k)) G H):FnT Tryz.prog 138 [.int .i64 (k:Nat), .pointer (some ⟨b1,0,none⟩)] G H R:=by
 obtain⟨hk1,hk2,hk3,hk4,hk5,hk6,hk7⟩:=id hok
 have hCl:=O.len
 have hCn:=O.n
 have hrnl:=O.rnl
 refine FnT.sep ?_
 refine FnT.body tok [0,1,3,4,6,13,14,15,16] Tryz.func138 rfl Kk Kk (by show _≤42;simp) fun hsep=>?_
 rw[Tryz.results138]
 have hE:=hsep
 try simp only[zzs] at hE
 repeat(obtain⟨hx',hE⟩:=hE)
 repeat' first
  |with_reducible first|refine Nx.go ?_ |refine Bk.go (fun _=>?_) fun _=>?_ |refine Nb fun nb hnb hnb1 hnb2=>?_ |refine Nr fun nb nsp ncap hnb hncap hnb1 hnb2=>?_
  |simp -dsimp -implicitDefEqProofs (disch:=first|exact Kd|fail) only[go_sem,↓reduceIte,seval, -List.reduceReplicate,hf,hCl,hCn,List.replicate_zero]
 have hne:=zQ.neFind hnb2 hf
 repeat' first
  |with_reducible first|refine Nx.go ?_ |refine Bk.go (fun _=>?_) fun _=>?_ |refine Nb fun nb hnb hnb1 hnb2=>?_ |refine Nr fun nb nsp ncap hnb hncap hnb1 hnb2=>?_
  |simp -dsimp -implicitDefEqProofs (disch:=first|exact Kd|fail) only[go_sem,↓reduceIte,seval, -List.reduceReplicate,hf,hCl,hCn,List.replicate_zero]
 refine Tri.loopU tok [0,1,3,4,6,13,14,15,16] Kk [0,1,3,4,13,14,15] (fun q G' fr H'=> ∃ (s br c:Nat) (sp:List Value),s+q=d.next.length∧3 * s+sp.length=c∧G'=G∧H'=(br, .cells ((zek d k s).map zB) sp 5)::H∧fr=[(0, .int .i64 (k:Nat)),(1, .pointer (some ⟨b1,0,none⟩)),(3, .string ⟨#[]⟩),(4, .slice (some ⟨br,0,none⟩) (3 * s) c),(13, .slice an d.next.length cn),(14, .int .i64 (d.next.length:Nat)),(15, .int .i64 (s:Nat))]) (d.next.length) ?_ ?_
 ·refine Upd.now ?_
  exact⟨0,nb,_,_,by omega,by rw[List.length_replicate];omega,rfl,rfl,rfl⟩
 ·rintro q G1 fr H' hle hs1 ⟨s,br,c,sp,hsq,hc,rfl,rfl,rfl⟩
  have hE:=hs1
  try simp only[zzs] at hE
  repeat(obtain⟨hx',hE⟩:=hE)
  have hcl:=zij d k s Ko
  have hml:((zek d k s).map zB).length=3 * s:=by rw[List.length_map,hcl]
  by_cases hsn:s<d.next.length
  ·have had:Adr an:=O.rn.adr Ko
   obtain⟨b,cc,e1,e2,e3⟩:=O.rs s hsn Ko
   obtain⟨hw1,hw2,hw3,hw4⟩:=hk7 s hsn Ko
   have hrl:=hsm.2.1 _ (List.getElem_mem hsn)
   have hkr:k< (d.next[s]).length:=by omega
   have had2:Adr b:=e2.adr (by rw[List.length_map];omega)
   have hx:=hw4 _ (List.getElem_mem hkr)
   obtain⟨t,ht⟩:=Int.eq_ofNat_of_zero_le hx.1
   have hat:(atL d.next[s] k).toNat=t:=by rw[zU (by simpa using hkr)];simp only[Int.toNat_natCast,ht]
   have hsucc:=zgV d k hsn
   rw[hat] at hsucc
   have w0:=zo2 t
   have w1:IntKind.u8.wrap ((t:Int) / 256)=((UInt8.ofNat (t / 256)).toNat:Int):=by rw[←zo2];rfl
   have w2:IntKind.u8.wrap ((t:Int) / 65536)=((UInt8.ofNat (t / 65536)).toNat:Int):=by rw[←zo2];rfl
   have hm2:(zek d k s).map zB++[.int .u8 ((UInt8.ofNat t).toNat:Int), .int .u8 ((UInt8.ofNat (t / 256)).toNat:Int), .int .u8 ((UInt8.ofNat (t / 65536)).toNat:Int)]=(zek d k (s+1)).map zB:=by rw[hsucc,List.map_append];rfl
   have hr3: ∀x:Value,List.replicate 3 x=[x,x,x]:=fun _=>rfl
   repeat' first
    |with_reducible first|refine Nx.go ?_ |refine Bk.go (fun _=>?_) fun _=>?_ |refine Nb fun nb hnb hnb1 hnb2=>?_ |refine Nr fun nb nsp ncap hnb hncap hnb1 hnb2=>?_
    |simp -dsimp -implicitDefEqProofs (disch:=first|exact Kd|fail) only[go_sem,↓reduceIte,seval, -List.reduceReplicate,Row.obj O.rn,e1,Row.obj e2,List.getElem_map,ht,w0,w1,w2,hr3]
    |with_reducible refine Tri.drawH tok mixed [0,1,3,4,6,13,14,15,16] 5 [4,9,15] (.op 0 .plain (.op 1 .plain (.op 2 .plain (.op 3 .plain (.op 4 .held (.op 5 .plain (.op 6 .plain (.op 7 .plain (.op 8 .plain (.op 9 .held (.op 10 .plain (.op 11 .plain (.op 12 .plain (.op 13 .plain (.op 14 .plain (.op 15 .held (.op 16 .plain (.op 17 .plain (.op 18 .keeps (.op 19 .keeps (.op 20 .plain .nil))))))))))))))))))))) Kk [6] ?_
   rw[hm2]
   refine Upd.go (H':=(nb, .cells ((zek d k (s+1)).map zB) nsp 5)::H) Ks (Upd.now ⟨q - 1,by omega,s+1,nb,ncap,nsp,by omega,by omega,rfl,rfl,rfl⟩)
  ·obtain rfl:s=d.next.length:=by omega
   repeat' first
    |with_reducible first|refine Nx.go ?_ |refine Bk.go (fun _=>?_) fun _=>?_ |refine Nb fun nb hnb hnb1 hnb2=>?_ |refine Nr fun nb nsp ncap hnb hncap hnb1 hnb2=>?_
    |simp -dsimp -implicitDefEqProofs (disch:=first|exact Kd|fail) only[go_sem,↓reduceIte,seval, -List.reduceReplicate]
   unfold zv
   refine Upd.go (H':=H) Ks (Upd.now fun hle hs=>hR)
end Go.Proofs.YtomdbjfdbkejoaaGreatDoor
namespace Go.Proofs.YtomdbjfdbkejoaaGreatDoor
open Go Go.V Go.Proofs
def zce (d:DfaT):List (List UInt8):=(List.range d.width.toNat).map (zwO d)
theorem zwP (d:DfaT):(zce d).length=d.width.toNat:=by simp [zce]
theorem zht {d:DfaT} {k:Nat} (h:k< (zce d).length):(zce d)[k]=zwO d k:=by simp [zce]
theorem zgW {d:DfaT} (hok:zc d):d.width=((zce d).length:Nat):=by
 obtain⟨hk1,hk2,hk3,hk4,hk5,hk6,hk7⟩:=hok
 rw[zwP];omega
theorem zo3 {d:DfaT} (hok:zc d) (hl:d.of.length=256):(zce d).length≤256:=by
 have:=zgW hok
 obtain⟨hk1,hk2,hk3,hk4,hk5,hk6,hk7⟩:=hok
 have:=zai d.of
 omega
def clL (d:DfaT):List Int:=d.of.map fun o=>atL (zg (zce d)) o
theorem zbG {d:DfaT} (hl:d.of.length=256):(clL d).length=256:=by unfold clL;rw[List.length_map,hl]
theorem zjb {d:DfaT} (hok:zc d) {i:Nat} (hi:i<d.of.length): ∃ (h:(d.of[i]).toNat< (zg (zce d)).length) (h2:i< (clL d).length),(clL d)[i]=(zg (zce d))[(d.of[i]).toNat]∧0≤(clL d)[i]∧(clL d)[i] < (zce d).length:=by
 obtain⟨h1,h2⟩:=zbs hok (List.getElem_mem hi)
 have hw:=zgW hok
 have h3:(d.of[i]).toNat< (zg (zce d)).length:=by rw[zr];omega
 have h4:i< (clL d).length:=by unfold clL;rw[List.length_map];exact hi
 have e:(clL d)[i]=(zg (zce d))[(d.of[i]).toNat]:=by simp only[clL,List.getElem_map];rw[zU h3]
 obtain⟨b1,b2⟩:=zbd (List.getElem_mem h3)
 have:=zai (zce d)
 exact⟨h3,h4,e,by rw[e];exact b1,by rw[e];omega⟩
def clU (d:DfaT) (c k:Nat):Int:=if k<c then atL (clL d) k else 0
theorem zwQ (d:DfaT):u8F (fun _=>0)=u8F (clU d 0):=zdz fun k _=>by unfold clU;rw[if_neg Ko]
theorem zwR {d:DfaT} {c:Nat} {x:Int} (h:x=atL (clL d) c):u8F (upd (clU d c) c x)=u8F (clU d (c+1)):=zdz fun k _=>by
 by_cases e:k=c
 ·subst e;simp only[clU,upd];rw[if_pos (show k<k+1 by omega),h];simp
 ·simp only[clU,upd]
  rw[if_neg e]
  by_cases hk:k<c
  ·rw[if_pos hk,if_pos Ko]
  ·rw[if_neg hk,if_neg Ko]
theorem zyr {d:DfaT} (hl:d.of.length=256):u8F (clU d 256)=u8L (clL d):=by
 apply List.ext_getElem (by rw[zay,List.length_map,zbG hl])
 intro k h1 h2
 rw[zay] at h1
 have h3:k< (clL d).length:=by rw[zbG hl];exact h1
 rw[zll,List.getElem_map]
 unfold clU
 rw[if_pos h1,zU (by simpa using h3)]
 simp
theorem zzu {d:DfaT} (hsm:zx d) (hok:zc d) {C:List Value} {an al ay:Option Addr} {cn cl cs:Nat} {rs:List Value} {G:za} (O:OpenD G d C an al ay cn cl cs rs)
  {H:zb} {R:Value→za→zb→Prop} (hR: ∀G' v,PLe G G'→Sep G' (zm H)→Sl G' (Value.int .i64) v (zg (zce d))→R v G' H):FnT Tryz.prog 107 [.agg C.toArray] G H R:=by
 have hCl:=O.len
 have hCw:=O.w
 have hCa:=O.all
 have hw:=zgW hok
 have hle:=zo3 hok O.ofl
 rw[hw] at hCw
 refine FnT.sep ?_
 refine FnT.body tok [0,1,2] Tryz.func107 rfl Kk Kk (by show _≤7;simp) fun hsep=>?_
 rw[Tryz.results107]
 have hE:=hsep
 try simp only[zzs] at hE
 repeat(obtain⟨hx',hE⟩:=hE)
 repeat' first
  |with_reducible first|refine Nx.go ?_ |refine Bk.go (fun _=>?_) fun _=>?_ |refine Nb fun nb hnb hnb1 hnb2=>?_
  |simp -dsimp -implicitDefEqProofs (disch:=first|exact Kd|fail) only[go_sem,↓reduceIte,seval, -List.reduceReplicate,List.toList_toArray,hCl,hCw,hCa]
  |with_reducible refine zzr (l:=zce d) Ko (fun i hi H1 R1 hg hf hR1=>?_) fun G2 v2 hle2 hs2 hsl2=>?_
 ·refine zAz hsm hok O Ko hg hf ?_
  rw[←zht hi];exact hR1
 ·unfold zv
  refine Upd.leave (H':=H) Ks ?_
  exact fun hle hs=>hR G2 v2 hle2 hs2 hsl2
theorem zuI {d:DfaT} (hsm:zx d) {G:za} {H:zb} {R:Value→za→zb→Prop} {v:Value} (hv:IsD G d v)
  (hR: ∀G',PLe G G'→Sep G' (zm H)→R (if zaF (zc d)=true then .tuple #[zbO (zg (clL d)), .int .i64 (zk (clL d)).length] else .tuple #[zbO (List.replicate 256 0), .int .i64 0]) G' H):FnT Tryz.prog 68 [v] G H R:=by
 obtain⟨C,an,al,ay,cn,cl,cs,rs,rfl,O⟩:=hv.opened
 have hCl:=O.len
 have hCa:=O.all
 have hCo:=O.of
 refine FnT.sep ?_
 by_cases hok:zc d
 ·have hb:=zK hok
  rw[if_pos hb] at hR
  have hcl:=zbG O.ofl
  have hu8:(u8L (clL d)).length=256:=by rw[List.length_map,hcl]
  have htk:List.take 256 (u8L (clL d))=u8L (clL d):=List.take_of_length_le Ko
  refine FnT.body tok [0,1,2,3,4,5,6,7,10,15,16,17] Tryz.func68 rfl Kk Kk (by show _≤32;simp) fun hsep=>?_
  rw[Tryz.results68]
  have hE:=hsep
  try simp only[zzs] at hE
  repeat(obtain⟨hx',hE⟩:=hE)
  repeat' first
   |with_reducible first|refine Nx.go ?_ |refine Bk.go (fun _=>?_) fun _=>?_ |refine Nb fun nb hnb hnb1 hnb2=>?_ |refine Nr fun nb nsp ncap hnb hncap hnb1 hnb2=>?_
   |simp -dsimp -implicitDefEqProofs (disch:=first|exact Kd|fail) only[go_sem,↓reduceIte,seval, -List.reduceReplicate,List.toList_toArray,hCl,hCa,hCo,hb,zc4,zay,zcS,zbE,zc5]
   |with_reducible refine zaE hsm O.is ?_
  rename_i b1 hb1 hb11 hb12 b2 hb2 hb21 hb22
  refine zzu hsm hok O fun G2 v2 hle2 hs2 hsl2=>?_
  obtain⟨a2,c2,rfl,hr2,hc2⟩:=hsl2
  have hE:=hs2
  try simp only[zzs] at hE
  repeat(obtain⟨hx',hE⟩:=hE)
  repeat' first
   |with_reducible first|refine Nx.go ?_ |refine Bk.go (fun _=>?_) fun _=>?_ |refine Nb fun nb hnb hnb1 hnb2=>?_ |refine Nr fun nb nsp ncap hnb hncap hnb1 hnb2=>?_
   |simp -dsimp -implicitDefEqProofs (disch:=first|exact Kd|fail) only[go_sem,↓reduceIte,seval, -List.reduceReplicate,List.toList_toArray,hCl,hCa,hCo,hb,zc4,zay,zcS,zbE,zc5]
  have hnl:=zr (zce d)
  have hnu8:(u8L (zg (clL d))).length=256:=by rw[List.length_map,zr,hcl]
  have hno1:(u8L (zg (clL d))).all zaL=true:=by rw[List.all_map];exact List.all_eq_true.2 fun _ _=>rfl
  have hns:zf (u8F fun _=>0) 0 (u8L (zg (clL d)))=u8L (zg (clL d)):=by rw[←zhV hcl,zbE]
  have hnt:List.take 256 (u8L (zg (clL d)))=u8L (zg (clL d)):=List.take_of_length_le Ko
  have had:Adr a2:=hr2.adr (by rw[List.length_map,hnl];have:=zgW hok;have:=zbs hok (List.getElem_mem (l:=d.of) (n:=0) (by rw[O.ofl];omega));omega)
  have hofl:=O.ofl
  have hu8o:(u8L d.of).length=256:=by rw[List.length_map,hofl]
  have hw8:=zo3 hok O.ofl
  refine Tri.loopU tok [0,1,2,3,4,5,6,7,10,15,16,17] Kk [1,2,3,4,5,15,16] (fun q G' fr H'=> ∃ (c:Nat),c+q=256∧G'=G2∧H'=(nb, .cells (u8F (clU d c)) [] 22):: (b2, .cells (u8F fun _=>0) [] 22):: (b1, .cells C [] 27)::H∧fr=[(1, .pointer (some ⟨b1,0,none⟩)),(2, .pointer (some ⟨b2,0,none⟩)),(3, .int .i64 0),(4, .pointer (some ⟨nb,0,none⟩)),(5, .slice a2 (zg (zce d)).length c2),(15,zbO d.of),(16, .int .i64 (c:Nat))]) (256) ?_ ?_
  ·exact Upd.now ⟨0,by omega,rfl,by rw[zwQ],rfl⟩
  ·rintro q G1 fr H' hle hs1 ⟨c,hc,rfl,rfl,rfl⟩
   have hE:=hs1
   try simp only[zzs] at hE
   repeat(obtain⟨hx',hE⟩:=hE)
   by_cases hc2:c<256
   ·obtain⟨h3,h4,e,e1,e2⟩:=zjb hok (i:=c) Ko
    obtain⟨q1,q2⟩:=O.ofb _ (List.getElem_mem (l:=d.of) (n:=c) Ko)
    have hw:IntKind.u8.wrap ((zg (zce d))[(d.of[c]).toNat])=(clL d)[c]:=by
     rw[e];obtain⟨t,ht⟩:=Int.eq_ofNat_of_zero_le (e▸e1);rw[ht];exact zeO Ko
    have hput:zf (u8F (clU d c)) c [.int .u8 (clL d)[c]]=u8F (clU d (c+1)):=by
     rw[zkl hc2];exact zwR (by rw[zU (by simpa using h4)];simp)
    have hget:(u8L d.of)[c]? =some (.int .u8 d.of[c]):=by rw[List.getElem?_map,List.getElem?_eq_getElem Ko];rfl
    repeat' first
     |with_reducible first|refine Nx.go ?_ |refine Bk.go (fun _=>?_) fun _=>?_ |refine Nb fun nb hnb hnb1 hnb2=>?_ |refine Nr fun nb nsp ncap hnb hncap hnb1 hnb2=>?_
     |simp -dsimp -implicitDefEqProofs (disch:=first|exact Kd|fail) only[go_sem,↓reduceIte,seval, -List.reduceReplicate,List.toList_toArray,hCl,hCa,hCo,hb,zay,zcS,zbE,zc5,hu8o,List.getElem_map,hofl,Row.obj hr2,hw,hput,hget,zhx]
    exact Upd.now ⟨q - 1,by omega,c+1,by omega,rfl,rfl,rfl⟩
   ·obtain rfl:c=256:=by omega
    rw[zyr hofl]
    repeat' first
     |with_reducible first|refine Nx.go ?_ |refine Bk.go (fun _=>?_) fun _=>?_ |refine Nb fun nb hnb hnb1 hnb2=>?_ |refine Nr fun nb nsp ncap hnb hncap hnb1 hnb2=>?_
     |simp -dsimp -implicitDefEqProofs (disch:=first|exact Kd|fail) only[go_sem,↓reduceIte,seval, -List.reduceReplicate,List.toList_toArray,hCl,hCa,hCo,hb,zay,zcS,zbE,zc5,hu8,htk,hnu8,hno1,hns,hnt]
     |with_reducible refine zl6 hcl ?_
    unfold zv
    refine Upd.leave (H':=H) Ks ?_
    exact fun _ hs=>hR G1 hle2 hs
 ·have hb:=zA hok
  rw[hb,if_neg (by simp)] at hR
  have h8:(List.replicate 256 (Value.int .u8 0))=u8L (List.replicate 256 0):=by rw[u8L,List.map_replicate]
  refine FnT.body tok [0,1,2,3,4,5,6,7,10,15,16,17] Tryz.func68 rfl Kk Kk (by show _≤32;simp) fun hsep=>?_
  rw[Tryz.results68]
  have hE:=hsep
  try simp only[zzs] at hE
  repeat(obtain⟨hx',hE⟩:=hE)
  repeat' first
   |with_reducible first|refine Nx.go ?_ |refine Bk.go (fun _=>?_) fun _=>?_ |refine Nb fun nb hnb hnb1 hnb2=>?_ |refine Nr fun nb nsp ncap hnb hncap hnb1 hnb2=>?_
   |simp -dsimp -implicitDefEqProofs (disch:=first|exact Kd|fail) only[go_sem,↓reduceIte,seval, -List.reduceReplicate,List.toList_toArray,hCl,hCa,hCo,hb,zc4,zay,zcS,zbE,zc5]
   |with_reducible refine zaE hsm O.is ?_
  unfold zv
  refine Upd.leave (H':=H) Ks ?_
  rw[←zc4,h8]
  exact fun _ hs=>hR G (PLe.refl _) hs
end Go.Proofs.YtomdbjfdbkejoaaGreatDoor
namespace Go.Proofs.YtomdbjfdbkejoaaGreatDoor
open Go Go.V Go.Proofs
section
variable {α β:Type} [DecidableEq α] [DecidableEq β]
theorem zuJ {l:List α} {m:List β} (h:zg l=zg m):(zk m).length≤(zk l).length:=by
 rcases Nat.lt_or_ge (zk l).length (zk m).length with hlt|hge
 ·obtain⟨c,hc,e⟩:=List.getElem_of_mem ((zN m).1 (List.getElem_mem hlt))
  have hp:=zdx (zc2 m) hlt
  have hx:(zg m)[c]'(by rw[zr];exact hc)=((zk l).length:Nat):=by rw[zca hc,e,zH hp]
  have hcl:c< (zg m).length:=by rw[zr];exact hc
  have hmem:(zg m)[c]∈zg l:=by rw[h];exact List.getElem_mem hcl
  have:=zbd hmem
  omega
 ·exact hge
theorem zo4 {l:List α} {m:List β} (h:zg l=zg m):(zk l).length=(zk m).length:=Nat.le_antisymm (zuJ h.symm) (zuJ h)
end
end Go.Proofs.YtomdbjfdbkejoaaGreatDoor
namespace Go.Proofs.YtomdbjfdbkejoaaGreatDoor
open Go Go.V Go.Proofs
theorem zwS (l:List Int) (hlen:l.length≤2000000) {G:za} {H:zb} {R:Value→za→zb→Prop} {v:Value} (hv:Sl G (Value.int .i64) v l)
  (hR: ∀G' v',PLe G G'→Sep G' (zm H)→Sl G' (Value.int .i64) v' l→R v' G' H):FnT Tryz.prog 69 [v] G H R:=by
 obtain⟨a,cap,rfl,hrow,hcap⟩:=hv
 refine FnT.sep ?_
 rcases a with _|a
 ·have h0:l=[]:=List.eq_nil_of_length_eq_zero (by
   rcases Nat.eq_zero_or_pos l.length with h|h
   ·exact h
   ·have:=hrow.adr (by rw[List.length_map];exact h)
    cases this)
  subst h0
  refine FnT.body tok [0,2,4] Tryz.func69 rfl Kk Kk (by show _≤8;simp) fun hsep=>?_
  rw[Tryz.results69]
  have hE:=hsep
  try simp only[zzs] at hE
  repeat(obtain⟨hx',hE⟩:=hE)
  repeat' first
   |with_reducible first|refine Nx.go ?_ |refine Bk.go (fun _=>?_) fun _=>?_ |refine Nb fun nb hnb hnb1 hnb2=>?_ |refine Nr fun nb nsp ncap hnb hncap hnb1 hnb2=>?_
   |simp -dsimp -implicitDefEqProofs (disch:=first|exact Kd|fail) only[go_sem,↓reduceIte,seval]
  unfold zv
  refine Upd.leave (H':=H) Ks ?_
  exact fun hle hs=>hR G _ (PLe.refl _) hs (Sl.nil _ _)
 ·refine FnT.body tok [0,2,4] Tryz.func69 rfl Kk Kk (by show _≤8;simp) fun hsep=>?_
  rw[Tryz.results69]
  have hE:=hsep
  try simp only[zzs] at hE
  repeat(obtain⟨hx',hE⟩:=hE)
  repeat' first
   |with_reducible first|refine Nx.go ?_ |refine Bk.go (fun _=>?_) fun _=>?_ |refine Nb fun nb hnb hnb1 hnb2=>?_ |refine Nr fun nb nsp ncap hnb hncap hnb1 hnb2=>?_
   |simp -dsimp -implicitDefEqProofs (disch:=first|exact Kd|fail) only[go_sem,↓reduceIte,seval,Row.rdSlAll hrow,List.length_map]
  ·rename_i h0
   have h0:l=[]:=List.eq_nil_of_length_eq_zero h0
   subst h0
   unfold zv
   refine Upd.leave (H':=H) Ks ?_
   exact fun hle hs=>hR G _ (PLe.refl _) hs ⟨_,0,rfl,Row.nil _ _,Nat.le_refl _⟩
  ·unfold zv
   refine Upd.go (H':=(nb, .cells (l.map (Value.int .i64)) nsp 3)::H) Ks (Upd.shareRow Ka fun G2 hle2 hs2 hr2=>?_)
   exact fun hle hs=>hR G2 _ hle2 hs ⟨some ⟨nb,0,none⟩,ncap,rfl,hr2,by omega⟩
theorem zgX (l:List Int):zg (zg l)=zg l:=zfl (zr l) fun i j hi hj=>by
 rw[zr] at hi hj
 exact zcF hi hj
def zfA (d:DfaT) (row:List Int):List Int:=(zag (zg (clL d))).map fun b=>atL row (atL d.of b)
def zbA (d:DfaT):List (List Int):=d.next.map (zfA d)
def zO (d:DfaT):DfaT:={of:=zg (clL d),width:=(zk (clL d)).length,next:=zbA d,label:=d.label,names:=d.names}
noncomputable def zdg (d:DfaT):DfaT×Int:=if zaF (zc d)=true then(zO d,0) else(zao,6)
theorem zgY {d:DfaT} (h:zc d):zdg d=(zO d,0):=by unfold zdg;rw[if_pos (zK h)]
theorem zik {d:DfaT} (h: ¬zc d):zdg d=(zao,6):=by unfold zdg;rw[zA h,if_neg (by simp)]
theorem zm4 (d:DfaT):(zag (zg (clL d))).length=(zk (clL d)).length:=by rw[zdc,zo4 (zgX (clL d))]
theorem zj4 {d:DfaT} (hl:d.of.length=256) {k:Nat} (hk:k< (zag (zg (clL d))).length): ∃x:Nat,(zag (zg (clL d)))[k]=(x:Nat)∧x<256:=by
 have hin:(zk (zg (clL d)))[k]'(by rw[zdc] at hk;exact hk)∈zg (clL d):=(zN _).1 (List.getElem_mem _)
 obtain⟨x,hx⟩:=zab hin
 obtain⟨hx1,hx2⟩:=z6 hx
 exact⟨x,by simp only[zag,List.getElem_map];exact zH hx,by rw[zr,zbG hl] at hx1;exact hx1⟩
theorem zkJ (d:DfaT) (row:List Int):(zfA d row).length=(zk (clL d)).length:=by unfold zfA;rw[List.length_map,zm4]
def zml (rows:List (List Int)) (G':za) (j:Nat) (vn:Value) (kn:zb):Prop:=
 (j=0∧vn= .slice none 0 0∧kn=[])∨ ∃bn c1 rv sp1,vn= .slice (some ⟨bn,0,none⟩) j c1∧kn=[(bn, .cells rv sp1 24)]∧rv.length=j∧j+sp1.length=c1∧
  ∀i (h:i<j) (h2:i<rv.length) (h3:i<rows.length),∃b c,rv[i]= .slice b rows[i].length c∧Row G' b (rows[i].map (Value.int .i64))∧rows[i].length≤c
theorem zml.vn {rows:List (List Int)} {G':za} {j:Nat} {vn:Value} {kn:zb} (h:zml rows G' j vn kn): ∃a c,vn= .slice a j c:=by
 rcases h with ⟨rfl,rfl,_⟩| ⟨bn,c1,rv,sp1,rfl,_⟩
 ·exact⟨none,0,rfl⟩
 ·exact⟨_,_,rfl⟩
theorem zml.mono {rows:List (List Int)} {G G':za} (hle:PLe G G') {j:Nat} {vn:Value} {kn:zb} (h:zml rows G j vn kn):zml rows G' j vn kn:=by
 rcases h with h| ⟨bn,c1,rv,sp1,h1,h2,h3,h4,h5⟩
 ·exact .inl h
 ·exact .inr ⟨bn,c1,rv,sp1,h1,h2,h3,h4,fun i a b c=>by
   obtain⟨x,y,e1,e2,e3⟩:=h5 i a b c
   exact⟨x,y,e1,e2.mono hle,e3⟩⟩
end Go.Proofs.YtomdbjfdbkejoaaGreatDoor
namespace Go.Proofs.YtomdbjfdbkejoaaGreatDoor
open Go Go.V Go.Proofs
theorem zfR {d:DfaT} (hok:zc d) (hl:d.of.length=256) {s c:Nat} (hs:s<d.next.length) (hc:c<256):toD (zO d) (s:Nat) c=toD d (s:Nat) c:=by
 obtain⟨hk1,hk2,hk3,hk4,hk5,hk6,hk7⟩:=id hok
 have hcl:=zbG hl
 obtain⟨l,hld⟩: ∃l,l=zg (clL d):=⟨_,rfl⟩
 have hll:l.length=256:=by rw[hld,zr,hcl]
 obtain⟨k,hk,e1,e2⟩:=zuu (l:=l) (c:=c) Ko
 have hnn:zg l=l:=by rw[hld];exact zgX _
 have e1':l[c]'Ko=(k:Nat):=by
  have:(zg l)[c]'(by rw[hnn];omega)=l[c]'Ko:=by simp only[hnn]
  rw[←this];exact e1
 obtain⟨x,hx⟩:=zab (List.getElem_mem (l:=l) (n:=c) Ko)
 obtain⟨hx1,hx2⟩:=z6 hx
 rw[List.getElem?_eq_getElem hx1,Option.some.injEq] at hx2
 have hkl:k< (zag l).length:=by rw[zdc];exact hk
 have hlk:(zag l)[k]=(x:Nat):=by simp only[zag,List.getElem_map];rw[e2];exact zH hx
 have hsr:s< (zO d).next.length:=by show s< (zbA d).length;unfold zbA;rw[List.length_map];exact hs
 have hco:c< (zO d).of.length:=by show c< (zg (clL d)).length;rw[←hld];omega
 have hcd:c<d.of.length:=by omega
 have hxd:x<d.of.length:=by omega
 rw[zhs hsr hco,zhs hs hcd]
 have g1:(zO d).of[c]=(k:Nat):=by rw[←e1'];simp only[hld];rfl
 have g2:(zO d).next[s]=zfA d d.next[s]:=by simp only[zO,zbA,List.getElem_map]
 rw[g1,g2]
 have g3:atL (zfA d d.next[s]) ((k:Nat):Int)=atL d.next[s] d.of[x]:=by
  have hkr:k< (zfA d d.next[s]).length:=by unfold zfA;rw[List.length_map,←hld];exact hkl
  rw[zU (by simpa using hkr)]
  simp only[Int.toNat_natCast,zfA,List.getElem_map,←hld,hlk]
  rw[zU (x:=((x:Nat):Int)) (by simpa using hxd)]
  simp only[Int.toNat_natCast]
 rw[g3]
 have q1:(clL d)[x]'Ko=(clL d)[c]'Ko:=(zcF Ko Ko).1 (by simp only[←hld];exact hx2)
 obtain⟨a1,a2,a3,_⟩:=zjb hok hxd
 obtain⟨b1,b2,b3',_⟩:=zjb hok hcd
 rw[a3,b3'] at q1
 have a1':(d.of[x]).toNat< (zce d).length:=by rw[zr] at a1;exact a1
 have b1':(d.of[c]).toNat< (zce d).length:=by rw[zr] at b1;exact b1
 have q2:=(zcF a1' b1').1 q1
 rw[zht a1',zht b1'] at q2
 have hox:=zbs hok (List.getElem_mem hxd)
 have hoc:=zbs hok (List.getElem_mem hcd)
 obtain⟨y,hy⟩:=Int.eq_ofNat_of_zero_le hox.1
 obtain⟨z,hz⟩:=Int.eq_ofNat_of_zero_le hoc.1
 rw[hy,hz] at q2⊢
 simp only[Int.toNat_natCast] at q2
 have hpos: ∀s' (h:s'<d.next.length),(0≤atL d.next[s'] y∧0≤atL d.next[s'] z)∧(atL d.next[s'] y).toNat<16777216∧(atL d.next[s'] z).toNat<16777216:=fun s' h=>by
  obtain⟨hw1,hw2,hw3,hw4⟩:=hk7 s' h Ko
  have f1:((y:Int)).toNat< (d.next[s']).length:=by omega
  have f2:((z:Int)).toNat< (d.next[s']).length:=by omega
  rw[zU f1,zU f2]
  have x1:=hw4 _ (List.getElem_mem f1)
  have x2:=hw4 _ (List.getElem_mem f2)
  omega
 have:=(zkI (fun s' h=>(hpos s' h).2) d.next.length (Nat.le_refl _)).1 q2 s hs hs
 have h0:=(hpos s hs).1
 omega
theorem zuK {d:DfaT} (hok:zc d) (hl:d.of.length=256) (w:List UInt8):zaj (zO d) w=zaj d w:=by
 have key: ∀i,i≤w.length→zaj (zO d) (w.take i)=zaj d (w.take i):=by
  intro i
  induction i with
  |zero=>intro _;rw[List.take_zero];rfl
  |succ i ih=>
   intro h
   rw[zdA (zO d) w h,zdA d w h,ih Ko]
   obtain⟨h1,h2⟩:=za6 hok hl (w.take i)
   obtain⟨t,ht⟩:=Int.eq_ofNat_of_zero_le h1
   rw[ht] at h2⊢
   exact zfR hok hl (by have:=hok.2.2.1;omega) w[i].toNat_lt
 have:=key w.length (Nat.le_refl _)
 rwa [List.take_length] at this
theorem zil {d:DfaT} (hok:zc d) (hl:d.of.length=256) (w:List UInt8):zX (zO d) w=zX d w:=by
 unfold zX;rw[zuK hok hl];rfl
theorem zcM {d:DfaT} (hok:zc d) (hl:d.of.length=256):zc (zO d):=by
 obtain⟨hk1,hk2,hk3,hk4,hk5,hk6,hk7⟩:=id hok
 have hcl:=zbG hl
 have hnl:(zbA d).length=d.next.length:=by unfold zbA;rw[List.length_map]
 refine⟨hk1,hk2,hnl.trans hk3,zgX _,by show((zk (zg (clL d))).length:Int)=_;rw[zo4 (zgX (clL d))];rfl,hk6,fun s h h2=>?_⟩
 have hs:s<d.next.length:=by have:s< (zbA d).length:=h;omega
 obtain⟨hw1,hw2,hw3,hw4⟩:=hk7 s hs h2
 have g2:(zO d).next[s]=zfA d d.next[s]:=by simp only[zO,zbA,List.getElem_map]
 rw[g2]
 refine⟨by rw[zkJ];rfl,hw2,hw3,fun t ht=>?_⟩
 unfold zfA at ht
 obtain⟨b,hb,rfl⟩:=List.mem_map.1 ht
 obtain⟨i,hi,e⟩:=List.getElem_of_mem hb
 obtain⟨x,e2,hx⟩:=zj4 hl hi
 rw[←e,e2]
 have hxd:x<d.of.length:=by omega
 have hox:=zbs hok (List.getElem_mem hxd)
 rw[zU (x:=((x:Nat):Int)) (by simpa using hxd)]
 simp only[Int.toNat_natCast]
 have f1:(d.of[x]).toNat< (d.next[s]).length:=by omega
 rw[zU f1]
 exact hw4 _ (List.getElem_mem f1)
end Go.Proofs.YtomdbjfdbkejoaaGreatDoor
namespace Go.Proofs.YtomdbjfdbkejoaaGreatDoor
open Go Go.V Go.Proofs
def zfS (d:DfaT):DfaT:=zjE d (za7 d)
noncomputable def za8 (d:DfaT):DfaT:=zL (zO (zau (zfS (zL d))).1)
theorem zcz {d:DfaT} (hok:zc d):zc (zfS d):=zqc hok (zj3 hok)
theorem zuL {d:DfaT} (hok:zc d) (hof:d.of.length=256) (w:List UInt8):zX (zfS d) w=if 0<zX d w then zz (za7 d) (zaT d (zX d w))+1 else 0:=zsu hok hof _ _ w
theorem zqe {d:DfaT} (hok:zc d):zM (zau d).1=zZ (zau d).1.label.length:=by
 have htk:zc (zL d):=zeH hok (zbL hok)
 have hst:=zdQ htk
 have hm:zg (zbh (zL d) 65536)=zbh (zL d) 65536:=by rw[zeW htk];exact zcH _ _
 rw[zdC hok]
 show zM (ofD (zL d) (zbh (zL d) 65536))=zZ (ofD (zL d) (zbh (zL d) 65536)).label.length
 rw[zgr]
 exact zlC (zeh hok) hm hst
theorem ze3 {d:DfaT} (hok:zc d):(zau d).1.of=d.of∧(zau d).1.names=d.names:=by
 rw[zdC hok]
 exact⟨rfl,rfl⟩
theorem zqf {d:DfaT} (hok:zc d) (hof:d.of.length=256):zcX (zau d).1:=by
 obtain⟨o1,_,_,o4,_⟩:=zes hok
 exact zwy o1 (by rw[(ze3 hok).1];exact hof) o4
theorem zgZ {d:DfaT} (hok:zc d) (hof:d.of.length=256) (w:List UInt8):zX (zL d) w=zX d w:=zmR hok hof (zbL hok) w
end Go.Proofs.YtomdbjfdbkejoaaGreatDoor
namespace Go.Proofs.YtomdbjfdbkejoaaGreatDoor
open Go Go.V Go.Proofs
section bare
variable {α:Type}
end bare
section plain
variable {α:Type} [DecidableEq α]
end plain
end Go.Proofs.YtomdbjfdbkejoaaGreatDoor
namespace Go.Proofs.YtomdbjfdbkejoaaGreatDoor
open Go Go.V Go.Proofs
section lists
variable {α:Type} [DecidableEq α] (z:α)
def zAS (next:List (List Int)) (f:List α) (k:Nat):List α:=next.map fun row=>f.getD (row.getD k 0).toNat z
def zxc (next:List (List Int)) (w:Nat) (f:List α):List (List α):=(List.range w).map (zAS z next f)
def zzv (ls:List (List α)) (x:List α):List (List α):=if x∈ls then ls else ls++[x]
def lsA (next:List (List Int)) (w:Nat) (f0:List α):Nat→List (List α)
 |0=>[f0]
 |i+1=>match (lsA next w f0 i)[i]? with
  |some f=>(zxc z next w f).foldl zzv (lsA next w f0 i)
  |none=>lsA next w f0 i
end lists
section plain
variable {α:Type} [DecidableEq α] {z:α}
end plain
end Go.Proofs.YtomdbjfdbkejoaaGreatDoor
namespace Go.Proofs.YtomdbjfdbkejoaaGreatDoor
open Go Go.V Go.Proofs
section maps
variable {α β:Type} [DecidableEq α] [DecidableEq β] {g:α→β} (hg: ∀a b,g a=g b→a=b) {z:α}
include hg
end maps
def zA2 (d:DfaT) (s:Int) (w:List UInt8):Int:=w.foldl (fun s b=>toD d s b.toNat) s
end Go.Proofs.YtomdbjfdbkejoaaGreatDoor
namespace Go.Proofs.YtomdbjfdbkejoaaGreatDoor
open Go Go.V Go.Proofs
def RwB (G:za) (av:List Value) (ls:List (List UInt8)):Prop:=av.length=ls.length∧ ∀i (h:i<ls.length) (h2:i<av.length),∃b c,av[i]= .slice b ls[i].length c∧Row G b (ls[i].map zB)∧ls[i].length≤c
theorem RwB.nil (G:za):RwB G [] []:=⟨rfl,fun i h=>by cases h⟩
theorem RwB.mono {G G':za} (hle:PLe G G') {av:List Value} {ls:List (List UInt8)} (h:RwB G av ls):RwB G' av ls:=by
 refine⟨h.1,fun i h1 h2=>?_⟩
 obtain⟨b,c,e1,e2,e3⟩:=h.2 i h1 h2
 exact⟨b,c,e1,e2.mono hle,e3⟩
theorem RwB.snoc {G:za} {av:List Value} {ls:List (List UInt8)} (h:RwB G av ls) {b:Option Addr} {c:Nat} {r:List UInt8} (hr:Row G b (r.map zB)) (hc:r.length≤c):RwB G (av++[.slice b r.length c]) (ls++[r]):=by
 have h1:=h.1
 refine⟨by simp [h1],fun i hi hi2=>?_⟩
 rcases Nat.lt_or_ge i ls.length with g|g
 ·obtain⟨b',c',e1,e2,e3⟩:=h.2 i g Ko
  refine⟨b',c',?_,?_,?_⟩
  ·rw[List.getElem_append_left Ko,List.getElem_append_left g];exact e1
  ·rw[List.getElem_append_left g];exact e2
  ·rw[List.getElem_append_left g];exact e3
 ·rw[List.length_append,List.length_singleton] at hi
  obtain rfl:i=ls.length:=by omega
  refine⟨b,c,?_,?_,?_⟩
  ·rw[List.getElem_append_right Ko,List.getElem_append_right Ko];simp [h1]
  ·rw[List.getElem_append_right Ko];simp;exact hr
  ·rw[List.getElem_append_right Ko];simp;exact hc
theorem RwB.one {G:za} {av:List Value} {ls:List (List UInt8)} (h:RwB G av ls):av.all zaL=true:=by
 refine List.all_eq_true.2 fun v hv=>?_
 obtain⟨i,hi,rfl⟩:=List.getElem_of_mem hv
 obtain⟨a,c,e,_⟩:=h.2 i (by have:=h.1;omega) hi
 rw[e];rfl
end Go.Proofs.YtomdbjfdbkejoaaGreatDoor
namespace Go.Proofs.YtomdbjfdbkejoaaGreatDoor
open Go Go.V Go.Proofs
end Go.Proofs.YtomdbjfdbkejoaaGreatDoor
namespace Go.Proofs.YtomdbjfdbkejoaaGreatDoor
open Go Go.V Go.Proofs
section fill
variable {α:Type} (z:α) (enc:α→Value)
end fill
def RwI (G:za) (rv:List Value) (M:List (List Int)):Prop:=rv.length=M.length∧ ∀i (h:i<M.length) (h2:i<rv.length),∃b c,rv[i]= .slice b M[i].length c∧Row G b (M[i].map (Value.int .i64))∧M[i].length≤c
theorem RwI.nil (G:za):RwI G [] []:=⟨rfl,fun i h=>by cases h⟩
theorem RwI.mono {G G':za} (hle:PLe G G') {rv:List Value} {M:List (List Int)} (h:RwI G rv M):RwI G' rv M:=by
 refine⟨h.1,fun i h1 h2=>?_⟩
 obtain⟨b,c,e1,e2,e3⟩:=h.2 i h1 h2
 exact⟨b,c,e1,e2.mono hle,e3⟩
theorem RwI.snoc {G:za} {rv:List Value} {M:List (List Int)} (h:RwI G rv M) {b:Option Addr} {c:Nat} {r:List Int} (hr:Row G b (r.map (Value.int .i64))) (hc:r.length≤c):RwI G (rv++[.slice b r.length c]) (M++[r]):=by
 have h1:=h.1
 refine⟨by simp [h1],fun i hi hi2=>?_⟩
 rcases Nat.lt_or_ge i M.length with g|g
 ·obtain⟨b',c',e1,e2,e3⟩:=h.2 i g Ko
  refine⟨b',c',?_,?_,?_⟩
  ·rw[List.getElem_append_left Ko,List.getElem_append_left g];exact e1
  ·rw[List.getElem_append_left g];exact e2
  ·rw[List.getElem_append_left g];exact e3
 ·rw[List.length_append,List.length_singleton] at hi
  obtain rfl:i=M.length:=by omega
  refine⟨b,c,?_,?_,?_⟩
  ·rw[List.getElem_append_right Ko,List.getElem_append_right Ko];simp [h1]
  ·rw[List.getElem_append_right Ko];simp;exact hr
  ·rw[List.getElem_append_right Ko];simp;exact hc
theorem RwI.one {G:za} {rv:List Value} {M:List (List Int)} (h:RwI G rv M):rv.all zaL=true:=by
 refine List.all_eq_true.2 fun v hv=>?_
 obtain⟨i,hi,rfl⟩:=List.getElem_of_mem hv
 obtain⟨a,c,e,_⟩:=h.2 i (by have:=h.1;omega) hi
 rw[e];rfl
def zAT (d:DfaT):List UInt8:=d.label.map fun k=>UInt8.ofNat k.toNat
def zxd (d:DfaT) (m:Nat):List (List UInt8):=lsA 0 d.next d.width.toNat (zAT d) m
def midB (d:DfaT) (i k:Nat):List (List UInt8):=((zxc 0 d.next d.width.toNat ((zxd d i).getD i [])).take k).foldl zzv (zxd d i)
end Go.Proofs.YtomdbjfdbkejoaaGreatDoor
namespace Go.Proofs.YtomdbjfdbkejoaaGreatDoor
open Go Go.V Go.Proofs
end Go.Proofs.YtomdbjfdbkejoaaGreatDoor
namespace Go.Proofs.YtomdbjfdbkejoaaGreatDoor
open Go Go.V Go.Proofs
end Go.Proofs.YtomdbjfdbkejoaaGreatDoor
namespace Go.Proofs.YtomdbjfdbkejoaaGreatDoor
open Go Go.V Go.Proofs
def zkK (xs L:List UInt8) (i:Nat):Prop:= ∃h:L.length=xs.length,∀p (hp:p<xs.length),L[p]'(by rw[h];exact hp)=if p<i∨xs.length≤p+i then xs[xs.length - 1 - p]'Ko else xs[p]
theorem zkK.zero (xs:List UInt8):zkK xs xs 0:=⟨rfl,fun p hp=>by rw[if_neg Ko]⟩
theorem zkK.done {xs L:List UInt8} {i:Nat} (h:zkK xs L i) (hi:xs.length≤2 * i+1):L=xs.reverse:=by
 obtain⟨hl,hp⟩:=h
 apply List.ext_getElem
 ·rw[hl,List.length_reverse]
 ·intro p h1 h2
  rw[hp p Ko,List.getElem_reverse]
  by_cases hc:p<i∨xs.length≤p+i
  ·rw[if_pos hc]
  ·rw[if_neg hc]
   congr 1
   omega
theorem zkK.step {xs L:List UInt8} {i:Nat} (h:zkK xs L i) (hi:2 * i+1<xs.length):zkK xs ((L.set i (L[xs.length - 1 - i]'(by obtain⟨hl,_⟩:=h;omega))).set (xs.length - 1 - i) (L[i]'(by obtain⟨hl,_⟩:=h;omega))) (i+1):=by
 obtain⟨hl,hp⟩:=h
 refine⟨by rw[List.length_set,List.length_set,hl],fun p hpl=>?_⟩
 rw[List.getElem_set,List.getElem_set]
 by_cases e1:xs.length - 1 - i=p
 ·rw[if_pos e1,hp i Ko,if_neg Ko,if_pos Ko]
  congr 1
  omega
 ·rw[if_neg e1]
  by_cases e2:i=p
  ·rw[if_pos e2,hp (xs.length - 1 - i) Ko,if_neg Ko,if_pos Ko]
   congr 1
   omega
  ·rw[if_neg e2,hp p hpl]
   by_cases hc:p<i∨xs.length≤p+i
   ·rw[if_pos hc,if_pos Ko]
   ·rw[if_neg hc,if_neg Ko]
end Go.Proofs.YtomdbjfdbkejoaaGreatDoor
namespace Go.Proofs.YtomdbjfdbkejoaaGreatDoor
open Go Go.V Go.Proofs
theorem zys {d:DfaT} (hsm:zx d) {G:za} {H:zb} {R:Value→za→zb→Prop} {v:Value} (hg:zcy G) (hv:IsD G d v)
  (hR: ∀G' v',PLe G G'→Sep G' (zm H)→IsD G' (zdg d).1 v'→R (.tuple #[v', .int .i64 (zdg d).2]) G' H):FnT Tryz.prog 43 [v] G H R:=by
 obtain⟨C,an,al,ay,cn,cl,cs,rs,rfl,O⟩:=hv.opened
 obtain⟨hm1,hm2,hm3,hm4,hm5⟩:=id hsm
 have hCl:=O.len
 have hCa:=O.all
 have hCn:=O.n
 have hCx:=O.l
 have hCs:=O.s
 refine FnT.sep ?_
 by_cases hok:zc d
 ·have hb:=zK hok
  rw[zgY hok] at hR
  have hol:(zg (clL d)).length=256:=by rw[zr,zbG O.ofl]
  have hu8:(u8L (zg (clL d))).length=256:=by rw[List.length_map,hol]
  have hno1:(u8L (zg (clL d))).all zaL=true:=by rw[List.all_map];exact List.all_eq_true.2 fun _ _=>rfl
  have hns:zf (List.replicate 256 (Value.int .u8 0)) 0 (u8L (zg (clL d)))=u8L (zg (clL d)):=by rw[zc4,←zhV (zbG O.ofl),zbE]
  have bu1:zf zI 0 (u8L (zg (clL d)))=u8L (zg (clL d))++[Value.int .i64 0,Value.slice none 0 0,Value.slice none 0 0,Value.slice none 0 0]:=zhX (d:=zO d) hol
  have bu2:zf (u8L (zg (clL d))++[Value.int .i64 0,Value.slice none 0 0,Value.slice none 0 0,Value.slice none 0 0]) 256 [Value.int .i64 ((zk (clL d)).length:Nat)]=zd (zO d) (.slice none 0 0) (.slice none 0 0) (.slice none 0 0):=zfX (d:=zO d) hol
  have bu3: ∀x,zf (zd (zO d) (.slice none 0 0) (.slice none 0 0) (.slice none 0 0)) 258 [x]=zd (zO d) (.slice none 0 0) x (.slice none 0 0):=fun x=>zbK (d:=zO d) hol _ _ _ _
  have bu4: ∀vl x,zf (zd (zO d) (.slice none 0 0) vl (.slice none 0 0)) 259 [x]=zd (zO d) (.slice none 0 0) vl x:=fun vl x=>zeQ (d:=zO d) hol _ _ _ _
  have bu5: ∀vn vl vs x,zf (zd (zO d) vn vl vs) 257 [x]=zd (zO d) x vl vs:=fun vn vl vs x=>zcG (d:=zO d) hol _ _ _ _
  have hl1:(u8L (zg (clL d))++[Value.int .i64 0,Value.slice none 0 0,Value.slice none 0 0,Value.slice none 0 0]).length=260:=by rw[List.length_append,hu8];rfl
  have hl2: ∀a b c:Value,(zd (zO d) a b c).length=260:=fun a b c=>zat (d:=zO d) hol _ _ _
  have hg2: ∀a b c:Value,(zd (zO d) a b c)[257]? =some a:=fun a b c=>zeb (d:=zO d) hol _ _ _
  have hputz: ∀vn vl vs,zf zI 0 (zd (zO d) vn vl vs)=zd (zO d) vn vl vs:=fun vn vl vs=>by
   unfold zf
   rw[List.take_zero,List.nil_append,List.drop_of_length_le (by rw[zn,hl2];omega),List.append_nil]
  have hone: ∀ (a a' a'':Option Addr) (b c b' c' b'' c'':Nat),(zd (zO d) (.slice a'' b'' c'') (.slice a b c) (.slice a' b' c')).all zaL=true:=fun a a' a'' b c b' c' b'' c''=>zbe rfl rfl rfl
  have htk2: ∀vn vl vs,List.take 260 (zd (zO d) vn vl vs)=zd (zO d) vn vl vs:=fun vn vl vs=>List.take_of_length_le (by rw[hl2];omega)
  have hnt:List.take 256 (u8L (zg (clL d)))=u8L (zg (clL d)):=List.take_of_length_le Ko
  refine FnT.body tok [0,1,2,3,4,5,6,7,9,10,11,12,15,34,35,36,37,42,43,44,45] Tryz.func43 rfl Kk Kk (by show _≤68;simp) fun hsep=>?_
  rw[Tryz.results43]
  have hE:=hsep
  try simp only[zzs] at hE
  repeat(obtain⟨hx',hE⟩:=hE)
  repeat' first
   |with_reducible first|refine Nx.go ?_ |refine Bk.go (fun _=>?_) fun _=>?_ |refine Nb fun nb hnb hnb1 hnb2=>?_ |refine Nr fun nb nsp ncap hnb hncap hnb1 hnb2=>?_
   |simp -dsimp -implicitDefEqProofs (disch:=first|exact Kd|fail) only[go_sem,↓reduceIte,seval, -List.reduceReplicate,List.toList_toArray,hCl,hCa,hb,zn]
   |with_reducible refine zaE hsm O.is ?_
  rename_i b1 hb1 hb11 hb12
  revert nb
  intro b2 hb2 hb21 hb22
  refine zuI hsm O.is fun G2 hle2 hs2=>?_
  rw[if_pos hb]
  have hE:=hs2
  try simp only[zzs] at hE
  repeat(obtain⟨hx',hE⟩:=hE)
  repeat' first
   |with_reducible first|refine Nx.go ?_ |refine Bk.go (fun _=>?_) fun _=>?_ |refine Nb fun nb hnb hnb1 hnb2=>?_ |refine Nr fun nb nsp ncap hnb hncap hnb1 hnb2=>?_
   |simp -dsimp -implicitDefEqProofs (disch:=first|exact Kd|fail) only[go_sem,↓reduceIte,seval, -List.reduceReplicate,List.toList_toArray,hCl,hCa,hb,List.length_replicate,hns,hu8,hno1,hnt]
  revert nb
  intro b4 hb4 hb41 hb42
  refine zja hol (hg.mono hle2) fun G3 v3 hle3 hs3 hsl3=>?_
  obtain⟨a3,c3,rfl,hr3,hc3⟩:=hsl3
  have hE:=hs3
  try simp only[zzs] at hE
  repeat(obtain⟨hx',hE⟩:=hE)
  have O3:=O.mono (hle2.trans hle3)
  have hlab3:=O3.label
  have hnam3:=O3.names
  repeat' first
   |with_reducible first|refine Nx.go ?_ |refine Bk.go (fun _=>?_) fun _=>?_ |refine Nb fun nb hnb hnb1 hnb2=>?_ |refine Nr fun nb nsp ncap hnb hncap hnb1 hnb2=>?_
   |simp -dsimp -implicitDefEqProofs (disch:=first|exact Kd|fail) only[go_sem,↓reduceIte,seval, -List.reduceReplicate,List.toList_toArray,hCl,hCa,hCn,hCx,hCs,hnt,hu8,bu1,bu2,bu3,bu4,hl1,hl2,hputz,hone,zn]
   |with_reducible refine Tri.drawS tok mixed [0,1,2,3,4,5,6,7,9,10,11,12,15,34,35,36,37,42,43,44,45] 5 [0,3,6] (.op 0 .held (.op 1 .plain (.op 2 .plain (.op 3 .held (.op 5 .plain (.op 6 .held (.both (.op 4 .keeps (.both (.op 7 .keeps (.op 8 .plain (.op 9 .keeps (.op 10 .plain .nil)))) (.op 9 .keeps (.op 7 .keeps (.op 8 .plain (.op 10 .plain .nil)))))) (.op 9 .keeps (.op 4 .keeps (.op 7 .keeps (.op 8 .plain (.op 10 .plain .nil)))))))))))) Kk [(b4, .cells (u8L (zg (clL d))) [] 22),(b1, .cells C [] 27)] Ks ?_
   | ((with_reducible refine zwS d.label hm3 (by first|exact hlab3|exact hlab3.mono Ka) fun G8 v8 hle8 hs8 hsl8=>?_);obtain⟨a8,c8,rfl,hr8,hc8⟩:=hsl8;(have hE:=hs8;try simp only[zzs] at hE;repeat(obtain⟨hx',hE⟩:=hE)))
   | ((with_reducible refine zhW d.names hm4 (by first|exact hnam3|exact hnam3.mono Ka) fun G9 v9 hle9 hs9 hsl9=>?_);obtain⟨a9,c9,rfl,hr9,hc9⟩:=hsl9;(have hE:=hs9;try simp only[zzs] at hE;repeat(obtain⟨hx',hE⟩:=hE)))
   | (with_reducible refine And.intro ?_ ?_)
  all_goals (first
   | (have hx9:PLe G8 G9:=hle9;have hr8:=hr8.mono hle9;have hle5:PLe G3 G9:=hle8.trans hle9;rename za=>G5)
   | (have hx9:PLe G9 G8:=hle8;have hr9:=hr9.mono hle8;have hle5:PLe G3 G8:=hle9.trans hle8;rename za=>G5))
  all_goals have O5:=O3.mono hle5
  all_goals have hr35:=hr3.mono hle5
  all_goals (revert nb;intro b7 hb7 hb71 hb72;intros)
  all_goals clear hr3 O3 hlab3 hnam3
  all_goals try clear hE
  all_goals
   refine Tri.loopU tok [0,1,2,3,4,5,6,7,9,10,11,12,15,34,35,36,37,42,43,44,45] Kk [1,2,5,6,7,34,35,36] (fun q G' fr H'=> ∃ (s:Nat) (vn:Value) (kn:zb),s+q=d.next.length∧PLe G5 G'∧zml (zbA d) G' s vn kn∧H'=(b7, .cells (zd (zO d) vn (.slice a8 d.label.length c8) (.slice a9 d.names.length c9)) [] 27):: (b4, .cells (u8L (zg (clL d))) [] 22):: (b2, .cells zI [] 27):: (b1, .cells C [] 27):: (kn++H)∧fr=[(1, .pointer (some ⟨b1,0,none⟩)),(2, .pointer (some ⟨b2,0,none⟩)),(5, .int .i64 (zk (clL d)).length),(6, .slice a3 (zag (zg (clL d))).length c3),(7, .pointer (some ⟨b7,0,none⟩)),(34, .slice an d.next.length cn),(35, .int .i64 d.next.length),(36, .int .i64 (s:Nat))]) (d.next.length) ?_ ?_
   ·exact Upd.now ⟨0,_,[],by omega,PLe.refl _, .inl ⟨rfl,rfl,rfl⟩,rfl,rfl⟩
   ·rintro q G1 fr H' hle hs1 ⟨s,vn,kn,hsq,hle6,hX,rfl,rfl⟩
    by_cases hsn:s<d.next.length
    ·have O6:=O5.mono hle6
     have hr36:=hr35.mono hle6
     have had:Adr an:=O6.rn.adr (by have:=O.rnl;omega)
     obtain⟨b,cc,e1,e2,e3⟩:=O6.rs s hsn (by have:=O.rnl;omega)
     obtain⟨hw1,hw2,hw3,hw4⟩:=hok.2.2.2.2.2.2 s hsn (by have:=hok.2.2.1;omega)
     obtain⟨row,hrow⟩: ∃row,row=d.next[s]:=⟨_,rfl⟩
     rw[←hrow] at e1 e2 e3 hw1 hw4
     obtain⟨r,hr⟩: ∃r,r=zfA d row:=⟨_,rfl⟩
     have hrl:r.length=(zk (clL d)).length:=by rw[hr,zkJ]
     have hll:=zm4 d
     have hrnl:=O.rnl
     have htl:=zai (clL d)
     have hcl:=zbG O.ofl
     have hrs:(zbA d)[s]'(by unfold zbA;rw[List.length_map];exact hsn)=r:=by simp only[zbA,List.getElem_map];rw[hr,hrow]
     have hE:=hs1
     try simp only[zzs] at hE
     repeat(obtain⟨hx',hE⟩:=hE)
     repeat' first
      |with_reducible first|refine Nx.go ?_ |refine Bk.go (fun _=>?_) fun _=>?_ |refine Nb fun nb hnb hnb1 hnb2=>?_ |refine Nr fun nb nsp ncap hnb hncap hnb1 hnb2=>?_
      |simp -dsimp -implicitDefEqProofs (disch:=first|exact Kd|fail) only[go_sem,↓reduceIte,seval, -List.reduceReplicate,Row.obj O6.rn,e1,Nat.sub_self,List.replicate_zero]
     revert nb
     intro br hbr hbr1 hbr2
     rw[show List.replicate (zk (clL d)).length (Value.int .i64 0)=(zbr r 0).map (Value.int .i64) by rw[←hrl,zfK]]
     refine Tri.loopU tok [0,1,2,3,4,5,6,7,9,10,11,12,15,34,35,36,37,42,43,44,45] Kk [1,2,5,6,7,9,10,34,35,36,42,43,44] (fun q2 G' fr H'=> ∃k:Nat,k+q2=r.length∧G'=G1∧H'=(br, .cells ((zbr r k).map (Value.int .i64)) [] 3):: (b7, .cells (zd (zO d) vn (.slice a8 d.label.length c8) (.slice a9 d.names.length c9)) [] 27):: (b4, .cells (u8L (zg (clL d))) [] 22):: (b2, .cells zI [] 27):: (b1, .cells C [] 27):: (kn++H)∧fr=[(1, .pointer (some ⟨b1,0,none⟩)),(2, .pointer (some ⟨b2,0,none⟩)),(5, .int .i64 (zk (clL d)).length),(6, .slice a3 (zag (zg (clL d))).length c3),(7, .pointer (some ⟨b7,0,none⟩)),(9, .slice b row.length cc),(10, .slice (some ⟨br,0,none⟩) (zk (clL d)).length (zk (clL d)).length),(34, .slice an d.next.length cn),(35, .int .i64 d.next.length),(36, .int .i64 (s:Nat)),(42, .slice a3 (zag (zg (clL d))).length c3),(43, .int .i64 (zag (zg (clL d))).length),(44, .int .i64 (k:Nat))]) (r.length) ?_ ?_
     ·exact Upd.now ⟨0,by omega,rfl,rfl,rfl⟩
     ·rintro q2 G2' fr H' hle2' hs2' ⟨k,hkq,rfl,rfl,rfl⟩
      have hpl:(zbr r k).length=r.length:=zgL r Ko
      by_cases hkl:k<r.length
      ·have hE:=hs2'
       try simp only[zzs] at hE
       repeat(obtain⟨hx',hE⟩:=hE)
       obtain⟨x,hx1,hx2⟩:=zj4 O.ofl (d:=d) (k:=k) Ko
       have hxl:x<d.of.length:=by rw[O.ofl];exact hx2
       have had3:Adr a3:=hr36.adr (by rw[List.length_map,hll,←hrl];omega)
       have hoc:=zbs hok (List.getElem_mem (l:=d.of) (n:=x) (by rw[O.ofl];exact hx2))
       obtain⟨y,hy⟩:=Int.eq_ofNat_of_zero_le hoc.1
       have hyr:y<row.length:=by omega
       have hadb:Adr b:=e2.adr (by rw[List.length_map];omega)
       have hgetC:C[x]? =some (.int .u8 (y:Nat)):=by
        have h1:(C.take 256)[x]? =some (.int .u8 d.of[x]):=by rw[O.of,List.getElem?_map,List.getElem?_eq_getElem (by rw[O.ofl];exact hx2)];rfl
        rw[List.getElem?_take,if_pos hx2,hy] at h1
        exact h1
       have hval:row[y]=r[k]:=by
        simp only[hr,zfA,List.getElem_map]
        have h1:atL d.of ((x:Nat):Int)=(y:Nat):=by rw[zU (by simp only[Int.toNat_natCast];rw[O.ofl];exact hx2)];simp only[Int.toNat_natCast];exact hy
        rw[hx1,h1,zU (by simpa using hyr)];simp only[Int.toNat_natCast]
       have hput:=zgM hkl
       repeat' first
        |with_reducible first|refine Nx.go ?_ |refine Bk.go (fun _=>?_) fun _=>?_ |refine Nb fun nb hnb hnb1 hnb2=>?_ |refine Nr fun nb nsp ncap hnb hncap hnb1 hnb2=>?_
        |simp -dsimp -implicitDefEqProofs (disch:=first|exact Kd|fail) only[go_sem,↓reduceIte,seval, -List.reduceReplicate,List.length_map,hCl,Row.obj hr36,Row.obj e2,List.getElem_map,hx1,hgetC,hval,hput,hpl,Int.toNat_natCast]
       exact Upd.now ⟨q2 - 1,by omega,k+1,by omega,rfl,rfl,rfl⟩
      ·obtain rfl:k=r.length:=by omega
       rw[ziR r] at hs2'⊢
       rcases hX with ⟨hj0,rfl,rfl⟩| ⟨bn,c1,rv,sp1,rfl,rfl,hrv,hc1,hrws⟩
       ·have hE:=hs2'
        try simp only[zzs] at hE
        repeat(obtain⟨hx',hE⟩:=hE)
        repeat' first
         |with_reducible first|refine Nx.go ?_ |refine Bk.go (fun _=>?_) fun _=>?_ |refine Nb fun nb hnb hnb1 hnb2=>?_ |refine Nr fun nb nsp ncap hnb hncap hnb1 hnb2=>?_
         |simp -dsimp -implicitDefEqProofs (disch:=first|exact Kd|fail) only[go_sem,↓reduceIte,seval, -List.reduceReplicate,hl2,hg2,bu5,List.replicate_one]
        refine Upd.go (H':=(br, .cells (r.map (Value.int .i64)) [] 3):: (b7, .cells (zd (zO d) (.slice (some ⟨nb,0,none⟩) 1 ncap) (.slice a8 d.label.length c8) (.slice a9 d.names.length c9)) [] 27):: (b4, .cells (u8L (zg (clL d))) [] 22):: (b2, .cells zI [] 27):: (b1, .cells C [] 27):: ([(nb, .cells [.slice (some ⟨br,0,none⟩) (zk (clL d)).length (zk (clL d)).length] nsp 24)]++H)) Ks (Upd.shareRow Ka fun G6 hle7 hs7 hr7=>?_)
        refine⟨q - 1,by omega,s+1,_,_,by omega,hle6.trans hle7, .inr ⟨nb,ncap,_,nsp,by rw[hj0],rfl,by rw[hj0];rfl,by omega,fun i h h2 h3=>?_⟩,rfl,rfl⟩
        obtain rfl:i=0:=by omega
        obtain rfl:s=0:=hj0
        refine⟨some ⟨br,0,none⟩,(zk (clL d)).length,?_,?_,?_⟩
        ·rw[hrs,hrl];rfl
        ·rw[hrs];exact hr7
        ·rw[hrs,hrl];exact Nat.le_refl _
       ·have hE:=hs2'
        try simp only[zzs] at hE
        repeat(obtain⟨hx',hE⟩:=hE)
        repeat' first
         |with_reducible first|refine Nx.go ?_ |refine Bk.go (fun _=>?_) fun _=>?_ |refine Nb fun nb hnb hnb1 hnb2=>?_ |refine Nr fun nb nsp ncap hnb hncap hnb1 hnb2=>?_
         |simp -dsimp -implicitDefEqProofs (disch:=first|exact Kd|fail) only[go_sem,↓reduceIte,seval, -List.reduceReplicate,hl2,hg2,bu5,List.replicate_one]
        refine Upd.go (H':=(br, .cells (r.map (Value.int .i64)) [] 3):: (b7, .cells (zd (zO d) (.slice (some ⟨nb,0,none⟩) (s+1) ncap) (.slice a8 d.label.length c8) (.slice a9 d.names.length c9)) [] 27):: (b4, .cells (u8L (zg (clL d))) [] 22):: (b2, .cells zI [] 27):: (b1, .cells C [] 27):: ([(nb, .cells (rv++[.slice (some ⟨br,0,none⟩) (zk (clL d)).length (zk (clL d)).length]) nsp 24)]++H)) Ks (Upd.shareRow Ka fun G6 hle7 hs7 hr7=>?_)
        refine⟨q - 1,by omega,s+1,_,_,by omega,hle6.trans hle7, .inr ⟨nb,ncap,_,nsp,rfl,rfl,by rw[List.length_append,hrv];rfl,by omega,fun i h h2 h3=>?_⟩,rfl,rfl⟩
        rcases Nat.lt_or_ge i s with hij|hij
        ·obtain⟨b',c',f1,f2,f3⟩:=hrws i hij Ko h3
         exact⟨b',c',by rw[List.getElem_append_left Ko];exact f1,f2.mono hle7,f3⟩
        ·obtain rfl:i=s:=by omega
         refine⟨some ⟨br,0,none⟩,(zk (clL d)).length,?_,?_,?_⟩
         ·rw[hrs,hrl,List.getElem_append_right Ko];simp [hrv]
         ·rw[hrs];exact hr7
         ·rw[hrs,hrl];exact Nat.le_refl _
    ·obtain rfl:s=d.next.length:=by omega
     have hnl:(zbA d).length=d.next.length:=by unfold zbA;rw[List.length_map]
     have hob: ∀x∈(zO d).of,0≤x∧x≤255:=fun x hx=>by
      have h1:=zbd (l:=clL d) hx
      have h2:=zai (clL d)
      have h3:=zbG O.ofl
      omega
     have hr86:=hr8.mono hle6
     have hr96:=hr9.mono hle6
     rcases hX with ⟨hj0,rfl,rfl⟩| ⟨bn,c1,rv,sp1,rfl,rfl,hrv,hc1,hrws⟩
     ·have:=hok.1
      have:=hok.2.2.1
      omega
     ·have hE:=hs1
      try simp only[zzs] at hE
      repeat(obtain⟨hx',hE⟩:=hE)
      repeat' first
       |with_reducible first|refine Nx.go ?_ |refine Bk.go (fun _=>?_) fun _=>?_ |refine Nb fun nb hnb hnb1 hnb2=>?_ |refine Nr fun nb nsp ncap hnb hncap hnb1 hnb2=>?_
       |simp -dsimp -implicitDefEqProofs (disch:=first|exact Kd|fail) only[go_sem,↓reduceIte,seval, -List.reduceReplicate,List.toList_toArray,hl2,hputz,hone,htk2,zn]
      unfold zv
      refine Upd.go (H':=(bn, .cells rv sp1 24)::H) Ks (Upd.shareRow Ka fun G6 hle7 hs7 hr7=>?_)
      exact fun _ hs=>hR G6 _ (((hle2.trans hle3).trans hle5).trans (hle6.trans hle7)) hs ⟨hol,hob,_,_,_,rfl,⟨some ⟨bn,0,none⟩,c1,rv,by show _=Value.slice _ (zbA d).length _;rw[hnl],hr7,by show _=(zbA d).length;omega,by show(zbA d).length≤_;omega,fun i h h2=>by
       obtain⟨b',c',f1,f2,f3⟩:=hrws i (by have:i< (zbA d).length:=h;omega) h2 h
       exact⟨b',c',f1,f2.mono hle7,f3⟩⟩,⟨a8,c8,rfl,hr86.mono hle7,hc8⟩,⟨a9,c9,rfl,hr96.mono hle7,hc9⟩⟩
 ·have hb:=zA hok
  rw[zik hok] at hR
  refine FnT.body tok [0,1,2,3,4,5,6,7,9,10,11,12,15,34,35,36,37,42,43,44,45] Tryz.func43 rfl Kk Kk (by show _≤68;simp) fun hsep=>?_
  rw[Tryz.results43]
  have hE:=hsep
  try simp only[zzs] at hE
  repeat(obtain⟨hx',hE⟩:=hE)
  repeat' first
   |with_reducible first|refine Nx.go ?_ |refine Bk.go (fun _=>?_) fun _=>?_ |refine Nb fun nb hnb hnb1 hnb2=>?_ |refine Nr fun nb nsp ncap hnb hncap hnb1 hnb2=>?_
   |simp -dsimp -implicitDefEqProofs (disch:=first|exact Kd|fail) only[go_sem,↓reduceIte,seval, -List.reduceReplicate,List.toList_toArray,hCl,hCa,hb,zn,zad,zaf,zaw]
   |with_reducible refine zaE hsm O.is ?_
  unfold zv
  refine Upd.leave (H':=H) Ks ?_
  exact fun _ hs=>hR G _ (PLe.refl _) hs (za2 _)
end Go.Proofs.YtomdbjfdbkejoaaGreatDoor
namespace Go.Proofs.YtomdbjfdbkejoaaGreatDoor
open Go Go.V Go.Proofs
theorem zet {d:DfaT} (hl:d.of.length=256):(zO d).of.length=256:=by
 show(zg (clL d)).length=256
 rw[zr,zbG hl]
theorem zjc {d:DfaT} (hl:d.of.length=256) (hsm:zx d):zx (zO d):=by
 obtain⟨h1,h2,h3,h4,h5⟩:=hsm
 refine⟨?_,fun r hr=>?_,h3,h4,h5⟩
 ·show(zbA d).length≤_
  unfold zbA;rw[List.length_map];exact h1
 ·have hr:r∈zbA d:=hr
  unfold zbA at hr
  obtain⟨row,_,rfl⟩:=List.mem_map.1 hr
  rw[zkJ]
  have:=zai (clL d)
  rw[zbG hl] at this
  omega
end Go.Proofs.YtomdbjfdbkejoaaGreatDoor
namespace Go.Proofs.YtomdbjfdbkejoaaGreatDoor
open Go Go.V Go.Proofs
def zaD (d:DfaT) (w:List UInt8):Tx:=zaT d (zX d w)
theorem zsx {d:DfaT} (hok:zc d) (hof:d.of.length=256) (w:List UInt8):0≤zX d w∧zX d w≤d.names.length:=by
 have h:=za6 hok hof w
 obtain⟨v,hv⟩:=Int.eq_ofNat_of_zero_le h.1
 have h3:=hok.2.2.1
 have h7:=hok.2.2.2.2.2.2 v Ko Ko
 unfold zX
 rw[hv,zP Ko]
 exact⟨h7.2.1,h7.2.2.1⟩
theorem zm5 {d:DfaT} {w:List UInt8} (h: ¬0<zX d w):zaD d w=[]:=by unfold zaD zaT;rw[if_neg h]
theorem zm6 {d:DfaT} (hok:zc d) (hof:d.of.length=256) {w:List UInt8} (h:0<zX d w):zaD d w≠[]:=fun e=>by
 obtain⟨h0,h1⟩:=zsx hok hof w
 obtain⟨k,hk⟩: ∃k:Nat,zX d w=(k:Int)+1:=⟨(zX d w - 1).toNat,by omega⟩
 unfold zaD at e
 rw[hk,ze1 Ko] at e
 have:=(hok.2.2.2.2.2.1.2 k Ko).1
 rw[e] at this
 exact absurd (zep.1 this).1 (by decide)
theorem zg0 {d:DfaT} (hok:zc d) (hof:d.of.length=256) (w:List UInt8):zaD (zL d) w=zaD d w:=by
 unfold zaD
 rw[zgZ hok hof]
 rfl
theorem zjd {d:DfaT} (hok:zc d) (hof:d.of.length=256) (hr:zM d=zZ d.label.length) (s:Tx):s∈za7 d↔s≠[]∧ ∃w,zaD d w=s:=by
 rw[←zqO hok,zig _ (Nat.le_refl _)]
 constructor
 ·rintro⟨i,hi,_,h0,rfl⟩
  obtain⟨w,hw⟩:=zlF hok hof hr hi
  have e:zX d w=d.label[i]:=by unfold zX;rw[hw,zP hi]
  exact⟨by have:=zm6 hok hof (w:=w) (by rw[e];exact h0);unfold zaD at this;rwa [e] at this,w,by unfold zaD;rw[e]⟩
 ·rintro⟨hne,w,rfl⟩
  have h0:0<zX d w:=Classical.byContradiction fun h=>hne (zm5 h)
  have h:=za6 hok hof w
  obtain⟨v,hv⟩:=Int.eq_ofNat_of_zero_le h.1
  have hvl:v<d.label.length:=by omega
  have e:zX d w=d.label[v]:=by unfold zX;rw[hv,zP hvl]
  exact⟨v,hvl,hvl,by rw[←e];exact h0,by unfold zaD;rw[e]⟩
theorem zwT {a b:DfaT} (ha:zc a) (hb:zc b) (fa:a.of.length=256) (fb:b.of.length=256) (h: ∀w,zaD a w=zaD b w):za7 (zL a)=za7 (zL b):=
 zi8 (zgu (zav ha)) (zgu (zav hb)) fun x=>by
  rw[zjd (zav ha) fa (zeh ha),zjd (zav hb) fb (zeh hb)]
  simp only[zg0 ha fa,zg0 hb fb,h]
noncomputable def zdr (d:DfaT):DfaT:=(zau (zfS (zL d))).1
theorem zfT {d:DfaT} (hok:zc d):zc (zdr d):=(zes (zcz (zav hok))).1
theorem zdS {d:DfaT} (hok:zc d):(zdr d).of=d.of∧(zdr d).names=za7 (zL d):=by
 obtain⟨h1,h2⟩:=ze3 (zcz (zav hok))
 exact⟨h1,h2⟩
theorem zje {d:DfaT} (hok:zc d) (hof:d.of.length=256) (w:List UInt8):zX (zdr d) w=if zaD d w=[] then 0 else zz (za7 (zL d)) (zaD d w)+1:=by
 have hT:=zav hok
 have hN:=zcz hT
 have e:=zuL hT hof w
 have hs:=zg0 hok hof w
 unfold zdr
 rw[zsm hN hof,e]
 by_cases h:0<zX (zL d) w
 ·have h2:=zm6 hT hof h
  rw[hs] at h2
  rw[if_pos h,if_neg h2,←hs]
  rfl
 ·rw[if_neg h,if_pos (by rw[←hs];exact zm5 h)]
theorem zlI {d:DfaT} (hok:zc d) (hof:d.of.length=256):zcX (zdr d):=zqf (zcz (zav hok)) hof
theorem zlJ {d:DfaT} (hok:zc d):zM (zdr d)=zZ (zdr d).label.length:=zqe (zcz (zav hok))
theorem zqS {d:DfaT} (hok:zc d) (hl:d.of.length=256) {c e:Nat} (hc:c< (clL d).length) (he:e< (clL d).length):(clL d)[c]=(clL d)[e]↔ ∀s,s<d.next.length→toD d (s:Nat) c=toD d (s:Nat) e:=by
 have hcl:=zbG hl
 rw[hcl] at hc he
 have hcd:c<d.of.length:=by omega
 have hed:e<d.of.length:=by omega
 constructor
 ·intro h s hs
  rw[←zfR hok hl hs hc,←zfR hok hl hs he]
  have g:(zO d).of.getD c 0=(zO d).of.getD e 0:=by
   have hn:=(zcF (l:=clL d) Ko Ko).2 h
   show(zg (clL d)).getD c 0=(zg (clL d)).getD e 0
   rw[List.getD_eq_getElem?_getD,List.getD_eq_getElem?_getD,List.getElem?_eq_getElem (by rw[zr];omega),List.getElem?_eq_getElem (by rw[zr];omega),hn]
  unfold toD
  rw[g]
 ·intro h
  obtain⟨hk1,hk2,hk3,hk4,hk5,hk6,hk7⟩:=id hok
  obtain⟨a1,a2,a3,_⟩:=zjb hok hcd
  obtain⟨b1,b2,b3',_⟩:=zjb hok hed
  rw[a3,b3']
  have a1':(d.of[c]).toNat< (zce d).length:=by rw[zr] at a1;exact a1
  have b1':(d.of[e]).toNat< (zce d).length:=by rw[zr] at b1;exact b1
  refine(zcF a1' b1').2 ?_
  rw[zht a1',zht b1']
  have hox:=zbs hok (List.getElem_mem hcd)
  have hoc:=zbs hok (List.getElem_mem hed)
  obtain⟨y,hy⟩:=Int.eq_ofNat_of_zero_le hox.1
  obtain⟨z,hz⟩:=Int.eq_ofNat_of_zero_le hoc.1
  rw[hy] at hox⊢
  rw[hz] at hoc⊢
  simp only[Int.toNat_natCast]
  have hpos: ∀s' (h:s'<d.next.length),(atL d.next[s'] y).toNat<16777216∧(atL d.next[s'] z).toNat<16777216:=fun s' h=>by
   obtain⟨hw1,hw2,hw3,hw4⟩:=hk7 s' h Ko
   have f1:((y:Int)).toNat< (d.next[s']).length:=by omega
   have f2:((z:Int)).toNat< (d.next[s']).length:=by omega
   rw[zU f1,zU f2]
   have x1:=hw4 _ (List.getElem_mem f1)
   have x2:=hw4 _ (List.getElem_mem f2)
   omega
  refine(zkI hpos d.next.length (Nat.le_refl _)).2 fun s hs _=>?_
  have:=h s hs
  rw[zhs hs hcd,zhs hs hed,hy,hz] at this
  rw[this]
theorem zqT {d:DfaT} (hok:zc d) (hl:d.of.length=256) (hr:zM d=zZ d.label.length) (ap:zcX d) {c e:Nat} (hc:c<256) (he:e<256):(∀s,s<d.next.length→toD d (s:Nat) c=toD d (s:Nat) e)↔ ∀u v,zX d (u++UInt8.ofNat c::v)=zX d (u++UInt8.ofNat e::v):=by
 have h3:=hok.2.2.1
 have bc:(UInt8.ofNat c).toNat=c:=by rw[UInt8.toNat_ofNat'];omega
 have be:(UInt8.ofNat e).toNat=e:=by rw[UInt8.toNat_ofNat'];omega
 constructor
 ·intro h u v
  have hu:=za6 hok hl u
  obtain⟨s,hs⟩:=Int.eq_ofNat_of_zero_le hu.1
  rw[zc0,zc0]
  unfold zdR zfz
  rw[List.foldl_cons,List.foldl_cons,bc,be,hs,h s Ko]
 ·intro h s hs
  obtain⟨u,hu⟩:=zlF hok hl hr (s:=s) Ko
  obtain⟨x0,x1⟩:=zhm hok hl (s:=(s:Nat)) Ko hc
  obtain⟨y0,y1⟩:=zhm hok hl (s:=(s:Nat)) Ko he
  obtain⟨x,hx⟩:=Int.eq_ofNat_of_zero_le x0
  obtain⟨y,hy⟩:=Int.eq_ofNat_of_zero_le y0
  rw[hx,hy]
  have:=ap x y Ko Ko fun v=>by
   have:=h u v
   rw[zc0,zc0,hu] at this
   unfold zdR zfz at this⊢
   rw[List.foldl_cons,List.foldl_cons,bc,be,hx,hy] at this
   exact this
  rw[this]
theorem zim {d:DfaT} (hok:zc d) (hl:d.of.length=256): ∀ (w:List UInt8) {s:Nat},s<d.label.length→zfz (zO d) (s:Nat) w=zfz d (s:Nat) w
 | [],_,_=>rfl
 |b::w,s,hs=>by
  have h3:=hok.2.2.1
  obtain⟨x0,x1⟩:=zhm hok hl (s:=(s:Nat)) Ko b.toNat_lt
  obtain⟨x,hx⟩:=Int.eq_ofNat_of_zero_le x0
  have e:=zfR hok hl (s:=s) Ko b.toNat_lt
  unfold zfz
  rw[List.foldl_cons,List.foldl_cons,e,hx]
  exact zim hok hl w Ko
theorem zj5 {d:DfaT} (hok:zc d) (hl:d.of.length=256) (ap:zcX d):zcX (zO d):=fun s t hs ht h=>ap s t hs ht fun w=>by
 have:=h w
 unfold zdR at this⊢
 rw[zim hok hl w hs,zim hok hl w ht] at this
 exact this
theorem zkL {A B:DfaT} (hA:zc A) (hof:A.of.length=256) (ho:A.of=B.of) {f:Nat→Nat} (h:HomP A B f): ∀ (w:List UInt8) {s:Nat},s<A.label.length→ ∃x:Nat,x<A.label.length∧zfz A (s:Nat) w=(x:Nat)∧zfz B (f s:Nat) w=(f x:Nat)
 | [],s,hs=>⟨s,hs,rfl,rfl⟩
 |b::w,s,hs=>by
  have hb:=b.toNat_lt
  have hco:b.toNat<A.of.length:=by omega
  have hox:=zbs hA (List.getElem_mem hco)
  obtain⟨k,hk⟩:=Int.eq_ofNat_of_zero_le hox.1
  obtain⟨t,ht,g1,g2⟩:=h.nxt s hs k Ko
  have ek:A.of.getD b.toNat 0=(k:Nat):=by rw[List.getD_eq_getElem?_getD,List.getElem?_eq_getElem hco];exact hk
  have e1:toD A (s:Nat) b.toNat=(t:Nat):=by rw[zei ek];exact g1
  have e2:toD B (f s:Nat) b.toNat=(f t:Nat):=by rw[zei (by rw[←ho];exact ek)];exact g2
  obtain⟨x,hx,e3,e4⟩:=zkL hA hof ho h w ht
  unfold zfz at e3 e4⊢
  exact⟨x,hx,by rw[List.foldl_cons,e1];exact e3,by rw[List.foldl_cons,e2];exact e4⟩
theorem zlK {d:DfaT} (hok:zc d) (hl:d.of.length=256) (ap:zcX d):zcX (zL d):=fun s t hs ht h=>by
 have hh:=zwx hok
 have hT:=zav hok
 have hln:(zL d).label.length=(zM d).length:=(zcw d (zM d)).2
 have hO:=zdl hok
 have:=ap _ _ (hh.dom s hs) (hh.dom t ht) fun w=>by
  obtain⟨x,hx,e1,e2⟩:=zkL (B:=d) hT hl rfl hh w hs
  obtain⟨y,hy,e3,e4⟩:=zkL (B:=d) hT hl rfl hh w ht
  have h2:=h w
  unfold zdR at h2⊢
  rw[e1,e3,hh.lab x hx,hh.lab y hy] at h2
  rw[e2,e4]
  exact h2
 rw[hln] at hs ht
 rw[zP hs,zP ht] at this
 have b1:=hO.2 _ (List.getElem_mem hs)
 have b2:=hO.2 _ (List.getElem_mem ht)
 exact(List.getElem_inj hO.1).1 (show(zM d)[s]=(zM d)[t] by omega)
theorem zeL (d:DfaT):za8 d=zL (zO (zdr d)):=rfl
theorem zj6 {d:DfaT} (hok:zc d) (hof:d.of.length=256):zc (za8 d):=by
 have hcf:(zdr d).of.length=256:=by rw[(zdS hok).1];exact hof
 exact zav (zcM (zfT hok) hcf)
theorem zsy {d:DfaT} (hok:zc d) (hof:d.of.length=256) (w:List UInt8):zX (za8 d) w=zX (zdr d) w:=by
 have hc:=zfT hok
 have hcf:(zdr d).of.length=256:=by rw[(zdS hok).1];exact hof
 rw[zeL,zgZ (zcM hc hcf) (zet hcf),zil hc hcf]
theorem zlL {d:DfaT} (hok:zc d) (hof:d.of.length=256) (w:List UInt8):zaD (za8 d) w=zaD d w:=by
 have h1:=zsy hok hof w
 have h2:=zje hok hof w
 have hn:(za8 d).names=za7 (zL d):=(zdS hok).2
 have hT:=zav hok
 unfold zaD
 rw[h1,h2]
 by_cases h:zaD d w=[]
 ·rw[if_pos h]
  have:zaT d (zX d w)=[]:=h
  rw[this]
  unfold zaT
  rw[if_neg Ko]
 ·rw[if_neg h]
  have hm:zaD d w∈za7 (zL d):=(zjd hT hof (zeh hok) _).2 ⟨h,w,zg0 hok hof w⟩
  obtain⟨i,hi⟩:=zab hm
  obtain⟨g1,g2⟩:=z6 hi
  rw[zH hi,ze1 (by rw[hn];exact g1)]
  rw[List.getElem?_eq_getElem g1,Option.some.injEq] at g2
  simp only[hn]
  exact g2
theorem zuM {A B:DfaT} (ca:zc A) (cb:zc B) (cfa:A.of.length=256) (cfb:B.of.length=256) (ra:zM A=zZ A.label.length) (rb:zM B=zZ B.label.length) (pa:zcX A) (pb:zcX B) (hn:A.names=B.names) (ht: ∀w,zX A w=zX B w):zL (zO A)=zL (zO B):=by
 have hla:=zbG cfa
 have hlb:=zbG cfb
 have ho:zg (clL A)=zg (clL B):=zfl (by rw[hla,hlb]) fun i j hi hj=>by
  rw[zqS ca cfa hi hj,zqS cb cfb Ko Ko,zqT ca cfa ra pa Ko Ko,zqT cb cfb rb pb Ko Ko]
  simp only[ht]
 have qa:=zcM ca cfa
 have qb:=zcM cb cfb
 have mfa:=zet cfa
 have mfb:=zet cfb
 refine zwz (zav qa) (zav qb) mfa ho hn (zeh qa) (zeh qb) (zlK qa mfa (zj5 ca cfa pa)) (zlK qb mfb (zj5 cb cfb pb)) fun w=>?_
 rw[zgZ qa mfa,zgZ qb mfb,zil ca cfa,zil cb cfb,ht]
theorem zuN {a b:DfaT} (ha:zc a) (hb:zc b) (fa:a.of.length=256) (fb:b.of.length=256) (h: ∀w,zaD a w=zaD b w):za8 a=za8 b:=by
 have hu:=zwT ha hb fa fb h
 rw[zeL,zeL]
 exact zuM (zfT ha) (zfT hb) (by rw[(zdS ha).1];exact fa) (by rw[(zdS hb).1];exact fb) (zlJ ha) (zlJ hb) (zlI ha fa) (zlI hb fb) (by rw[(zdS ha).2,(zdS hb).2,hu]) fun w=>by rw[zje ha fa,zje hb fb,h,hu]
theorem zuO {a b:DfaT} (ha:zc a) (hb:zc b) (fa:a.of.length=256) (fb:b.of.length=256):za8 a=za8 b↔ ∀w,zaD a w=zaD b w:=
 ⟨fun e w=>by rw[←zlL ha fa,←zlL hb fb,e],zuN ha hb fa fb⟩
end Go.Proofs.YtomdbjfdbkejoaaGreatDoor
namespace Go.Proofs.YtomdbjfdbkejoaaGreatDoor
open Go Go.V Go.Proofs
structure UInv (n:Nat) (up least m rank:Nat→Nat) (B:Nat):Prop where
 up_lt: ∀i,i<n→up i<n
 up_m: ∀i,i<n→m (up i)=m i
 rk: ∀i,i<n→up i≠i→rank i<rank (up i)
 bd: ∀i,i<n→rank i≤B
 root: ∀i j,i<n→j<n→up i=i→up j=j→m i=m j→i=j
 lst: ∀i,i<n→up i=i→least i=m i
 mle: ∀i,i<n→m i≤i
 mid: ∀i,i<n→m (m i)=m i
theorem UInv.new (n:Nat):UInv n id id id (fun _=>0) 0 where
 up_lt i h:=h
 up_m i h:=rfl
 rk i h h2:=absurd rfl h2
 bd i h:=Nat.le_refl _
 root i j _ _ _ _ h:=h
 lst i h _:=rfl
 mle i h:=Nat.le_refl _
 mid i h:=rfl
theorem UInv.halve {n:Nat} {up least m rank:Nat→Nat} {B:Nat} (h:UInv n up least m rank B) {k:Nat} (hk:k<n):UInv n (upd up k (up (up k))) least m rank B where
 up_lt i hi:=by
  by_cases e:i=k
  ·subst e;rw[zaR];exact h.up_lt _ (h.up_lt _ hi)
  ·rw[zbo _ _ e];exact h.up_lt _ hi
 up_m i hi:=by
  by_cases e:i=k
  ·subst e;rw[zaR,h.up_m _ (h.up_lt _ hi),h.up_m _ hi]
  ·rw[zbo _ _ e];exact h.up_m _ hi
 rk i hi hn:=by
  by_cases e:i=k
  ·subst e
   rw[zaR] at hn⊢
   have h1:up i≠i:=fun e=>hn (by rw[e,e])
   have h2:=h.rk i hi h1
   by_cases h3:up (up i)=up i
   ·rw[h3];exact h2
   ·exact Nat.lt_trans h2 (h.rk _ (h.up_lt _ hi) h3)
  ·rw[zbo _ _ e] at hn⊢;exact h.rk _ hi hn
 bd:=h.bd
 root i j hi hj hui huj hm:=by
  have key: ∀x,x<n→upd up k (up (up k)) x=x→up x=x:=fun x hx e=>by
   by_cases ex:x=k
   ·subst ex
    rw[zaR] at e
    by_cases h1:up x=x
    ·exact h1
    ·have h2:=h.rk x hx h1
     by_cases h3:up (up x)=up x
     ·rw[h3] at e;exact e
     ·have:=h.rk _ (h.up_lt _ hx) h3
      rw[e] at this;omega
   ·rw[zbo _ _ ex] at e;exact e
  exact h.root i j hi hj (key i hi hui) (key j hj huj) hm
 lst i hi e:=by
  by_cases ex:i=k
  ·subst ex
   rw[zaR] at e
   by_cases h1:up i=i
   ·exact h.lst i hi h1
   ·have h2:=h.rk i hi h1
    by_cases h3:up (up i)=up i
    ·rw[h3] at e;exact absurd e h1
    ·have:=h.rk _ (h.up_lt _ hi) h3
     rw[e] at this;omega
  ·rw[zbo _ _ ex] at e;exact h.lst i hi e
 mle:=h.mle
 mid:=h.mid
def zaK (m:Nat→Nat) (a b:Nat):Nat→Nat:=fun i=>if m i=max (m a) (m b) then min (m a) (m b) else m i
theorem UInv.join {n:Nat} {up least m rank:Nat→Nat} {B:Nat} (h:UInv n up least m rank B) {a b:Nat} (ha:a<n) (hb:b<n) (hra:up a=a) (hrb:up b=b) (hab:m a≠m b):
  UInv n (upd up b a) (upd least a (min (least a) (least b))) (zaK m a b) (fun x=>rank x+if m x=m a then B+1 else 0) (B+(B+1)) where
 up_lt i hi:=by
  by_cases e:i=b
  ·subst e;rw[zaR];exact ha
  ·rw[zbo _ _ e];exact h.up_lt _ hi
 up_m i hi:=by
  by_cases e:i=b
  ·subst e;rw[zaR];unfold zaK;split <;> split <;> omega
  ·rw[zbo _ _ e];unfold zaK;rw[h.up_m _ hi]
 rk i hi hn:=by
  by_cases e:i=b
  ·subst e
   rw[zaR]
   have:=h.bd i hi
   simp only[if_pos,if_neg (Ne.symm hab)]
   omega
  ·rw[zbo _ _ e] at hn⊢
   have:=h.rk _ hi hn
   simp only[h.up_m _ hi]
   omega
 bd i hi:=by
  have:=h.bd i hi
  show rank i+(if m i=m a then B+1 else 0)≤_
  split <;> omega
 root i j hi hj hui huj hm:=by
  have hib:i≠b:=fun e=>by subst e;rw[zaR] at hui;rw[hui] at hab;exact hab rfl
  have hjb:j≠b:=fun e=>by subst e;rw[zaR] at huj;rw[huj] at hab;exact hab rfl
  rw[zbo _ _ hib] at hui
  rw[zbo _ _ hjb] at huj
  have ki:m i≠m b:=fun e=>hib (h.root i b hi hb hui hrb e)
  have kj:m j≠m b:=fun e=>hjb (h.root j b hj hb huj hrb e)
  refine h.root i j hi hj hui huj ?_
  unfold zaK at hm
  split at hm <;> split at hm <;> omega
 lst i hi e:=by
  have hib:i≠b:=fun e2=>by subst e2;rw[zaR] at e;rw[e] at hab;exact hab rfl
  rw[zbo _ _ hib] at e
  have ki:m i≠m b:=fun e2=>hib (h.root i b hi hb e hrb e2)
  by_cases ea:i=a
  ·subst ea
   rw[zaR,h.lst i hi e,h.lst b hb hrb]
   unfold zaK;split <;> omega
  ·rw[zbo _ _ ea,h.lst i hi e]
   have ka:m i≠m a:=fun e2=>ea (h.root i a hi ha e hra e2)
   unfold zaK;split <;> omega
 mle i hi:=by
  have:=h.mle i hi
  unfold zaK;split <;> omega
 mid i hi:=by
  have h1:=h.mid i hi
  have h2:=h.mid a ha
  have h3:=h.mid b hb
  unfold zaK
  split
  ·rcases Nat.le_total (m a) (m b) with hl|hl
   ·rw[Nat.min_eq_left hl,h2];split <;> omega
   ·rw[Nat.min_eq_right hl,h3];split <;> omega
  ·rw[h1];split <;> omega
end Go.Proofs.YtomdbjfdbkejoaaGreatDoor
namespace Go.Proofs.YtomdbjfdbkejoaaGreatDoor
open Go Go.V Go.Proofs
def zgv (up least:Nat→Nat) (many:Nat→Int) (i:Nat):List Value:=[.int .i64 (up i), .int .i64 (least i), .int .i64 (many i)]
def zaN (n:Nat) (up least:Nat→Nat) (many:Nat→Int):List Value:=(List.range n).flatMap (zgv up least many)
theorem zdd (n:Nat) (up least:Nat→Nat) (many:Nat→Int):(zaN n up least many).length=n * 3:=by
 unfold zaN;rw[zbq (m:=3) (fun _=>rfl),List.length_range]
theorem zg1 (n:Nat) (up least:Nat→Nat) (many:Nat→Int):zaN (n+1) up least many=zaN n up least many++zgv up least many n:=by
 unfold zaN;rw[List.range_succ,List.flatMap_append];simp
theorem zkM {n:Nat} {up least:Nat→Nat} {many:Nat→Int} {sp:List Value} {i j:Nat} (hi:i<n) (hj:j<3):(zaN n up least many++sp)[i * 3+j]? =(zgv up least many i)[j]? :=by
 induction n with
 |zero=>omega
 |succ n ih=>
  rw[zg1,List.append_assoc]
  have hl:=zdd n up least many
  by_cases e:i=n
  ·subst e
   rw[List.getElem?_append_right Ko,hl,show i * 3+j - i * 3=j by omega,List.getElem?_append_left (by simp [zgv];omega)]
  ·have:=ih Ko
   rw[List.getElem?_append_left (by rw[hl];omega)] at this⊢
   exact this
theorem zsz {n:Nat} {up least up' least':Nat→Nat} {many many':Nat→Int} (h: ∀i,i<n→up i=up' i∧least i=least' i∧many i=many' i):zaN n up least many=zaN n up' least' many':=by
 unfold zaN
 rw[List.flatMap_def,List.flatMap_def]
 congr 1
 refine List.map_congr_left fun i hi=>?_
 obtain⟨h1,h2,h3⟩:=h i (List.mem_range.1 hi)
 unfold zgv;rw[h1,h2,h3]
theorem zkN (n:Nat) (up least:Nat→Nat) (many:Nat→Int) {i:Nat} (hi:i<n) (up' least':Nat→Nat) (many':Nat→Int) (he: ∀k,k≠i→up k=up' k∧least k=least' k∧many k=many' k)
  {j:Nat} {v:Value} (hv:(zgv up least many i).set j v=zgv up' least' many' i) (hj:j<3):(zaN n up least many).set (i * 3+j) v=zaN n up' least' many':=by
 induction n with
 |zero=>omega
 |succ n ih=>
  have hl:=zdd n up least many
  rw[zg1,zg1]
  by_cases e:i=n
  ·subst e
   rw[List.set_append_right _ _ Ko,hl,show i * 3+j - i * 3=j by omega,hv]
   rw[zsz fun k hk=>he k Ko]
  ·rw[List.set_append_left _ _ Ko,ih Ko]
   congr 1
   obtain⟨h1,h2,h3⟩:=he n Ko
   unfold zgv;rw[h1,h2,h3]
theorem zjF {n:Nat} {up least:Nat→Nat} {many:Nat→Int} {sp:List Value} {i:Nat} (hi:i<n):(zaN n up least many++sp)[i * 3]? =some (.int .i64 (up i)):=zkM (j:=0) hi Ko
theorem zqU {n:Nat} {up least:Nat→Nat} {many:Nat→Int} {sp:List Value} {i:Nat} (hi:i<n):(zaN n up least many++sp)[i * 3+1]? =some (.int .i64 (least i)):=zkM (j:=1) hi Ko
theorem zqV {n:Nat} {up least:Nat→Nat} {many:Nat→Int} {sp:List Value} {i:Nat} (hi:i<n):(zaN n up least many++sp)[i * 3+2]? =some (.int .i64 (many i)):=zkM (j:=2) hi Ko
theorem zyt {n:Nat} {up least:Nat→Nat} {many:Nat→Int} {i:Nat} (hi:i<n) (x:Nat):(zaN n up least many).set (i * 3) (.int .i64 x)=zaN n (upd up i x) least many:=
 zkN n up least many hi _ _ _ (fun k hk=>⟨(zbo _ _ hk).symm,rfl,rfl⟩) (j:=0) (by simp [zgv,zaR]) Ko
theorem zyu {n:Nat} {up least:Nat→Nat} {many:Nat→Int} {i:Nat} (hi:i<n) (x:Nat):(zaN n up least many).set (i * 3+1) (.int .i64 x)=zaN n up (upd least i x) many:=
 zkN n up least many hi _ _ _ (fun k hk=>⟨rfl,(zbo _ _ hk).symm,rfl⟩) (j:=1) (by simp [zgv,zaR]) Ko
theorem zyv {n:Nat} {up least:Nat→Nat} {many:Nat→Int} {i:Nat} (hi:i<n) (x:Int):(zaN n up least many).set (i * 3+2) (.int .i64 x)=zaN n up least (upd many i x):=
 zkN n up least many hi _ _ _ (fun k hk=>⟨rfl,rfl,(zbo _ _ hk).symm⟩) (j:=2) (by simp [zgv,zaR]) Ko
theorem zhg {xs:List Value} {o:Nat} {v:Value} (h:o<xs.length):zf xs o [v]=xs.set o v:=by
 unfold zf
 rw[List.set_eq_take_append_cons_drop,if_pos h]
 simp
theorem zqW {n:Nat} {up least:Nat→Nat} {many:Nat→Int} {i:Nat} (hi:i<n) (x:Nat):zf (zaN n up least many) (i * 3) [.int .i64 x]=zaN n (upd up i x) least many:=by
 rw[zhg (by rw[zdd];omega),zyt hi]
theorem zqX {n:Nat} {up least:Nat→Nat} {many:Nat→Int} {i:Nat} (hi:i<n) (x:Nat):zf (zaN n up least many) (i * 3+1) [.int .i64 x]=zaN n up (upd least i x) many:=by
 rw[zhg (by rw[zdd];omega),zyu hi]
theorem zqY {n:Nat} {up least:Nat→Nat} {many:Nat→Int} {i:Nat} (hi:i<n) (x:Int):zf (zaN n up least many) (i * 3+2) [.int .i64 x]=zaN n up least (upd many i x):=by
 rw[zhg (by rw[zdd];omega),zyv hi]
end Go.Proofs.YtomdbjfdbkejoaaGreatDoor
namespace Go.Proofs.YtomdbjfdbkejoaaGreatDoor
open Go Go.V Go.Proofs
theorem zzw (n:Nat) (bu bt:Nat) (cap:Nat) (c:Int) {G:za} {H:zb} {R:Value→za→zb→Prop}
  (hR:R (.int .i64 n) G ((bu, .cells [.slice (some ⟨bt,0,none⟩) n cap, .int .i64 c] [] 108)::H)):FnT Tryz.prog 144 [.pointer (some ⟨bu,0,none⟩)] G ((bu, .cells [.slice (some ⟨bt,0,none⟩) n cap, .int .i64 c] [] 108)::H) R:=by
 refine FnT.body tok [0,2,4] Tryz.func144 rfl Kk Kk (by show _≤10;simp) fun hsep=>?_
 rw[Tryz.results144]
 have hE:=hsep
 try simp only[zzs] at hE
 repeat(obtain⟨hx',hE⟩:=hE)
 repeat' first
  |with_reducible first|refine Nx.go ?_ |refine Bk.go (fun _=>?_) fun _=>?_
  |simp -dsimp -implicitDefEqProofs (disch:=first|exact Kd|fail) only[go_sem,↓reduceIte,seval]
 all_goals refine Upd.finL ?_ hR ?_
 any_goals first|exact Ks|skip
 rfl
theorem zyw (n k:Nat) (bx bu bt:Nat) (cap:Nat) (c:Int) (up least:Nat→Nat) (many:Nat→Int) (sp:List Value) (hk:k<n) (hku:up k<n) (hn:n≤1048576) {G:za} {H:zb} {R:Value→za→zb→Prop}
  (hR:R (.int .i64 (up (up k))) G ((bx, .cells [.pointer (some ⟨bu,0,none⟩)] [] 68):: (bu, .cells [.slice (some ⟨bt,0,none⟩) n cap, .int .i64 c] [] 108):: (bt, .cells (zaN n (upd up k (up (up k))) least many) sp 110)::H)):
  FnT Tryz.prog 145 [.int .i64 k, .pointer (some ⟨bx,0,none⟩)] G ((bx, .cells [.pointer (some ⟨bu,0,none⟩)] [] 68):: (bu, .cells [.slice (some ⟨bt,0,none⟩) n cap, .int .i64 c] [] 108):: (bt, .cells (zaN n up least many) sp 110)::H) R:=by
 refine FnT.body tok [0,1,3,4] Tryz.func145 rfl Kk Kk (by show _≤36;simp) fun hsep=>?_
 rw[Tryz.results145]
 have hE:=hsep
 try simp only[zzs] at hE
 repeat(obtain⟨hx',hE⟩:=hE)
 repeat' first
  |with_reducible first|refine Nx.go ?_ |refine Bk.go (fun _=>?_) fun _=>?_
  |with_reducible refine Tri.drawM tok mixed [0,1,3,4] 2 [0,3,5,8,12] (.op 0 .held (.op 1 .plain (.op 2 .plain (.op 3 .held (.op 4 .plain (.op 5 .held (.op 6 .plain (.op 7 .plain (.op 8 .held (.op 9 .plain (.op 10 .plain (.op 11 .plain (.op 12 .held (.op 13 .plain (.op 14 .plain (.op 15 .plain .nil)))))))))))))))) Kk _ (List.Sublist.refl _) ?_
  |simp -dsimp -implicitDefEqProofs (disch:=first|exact Kd|fail) only[go_sem,↓reduceIte,seval,zjF,zqU,zqV,zqW,zqX,zqY,zdd]
 all_goals refine Upd.finL ?_ hR ?_
 any_goals first|exact Ks|skip
 rw[zaR]
theorem UInv.step {n:Nat} {up least m rank:Nat→Nat} {B:Nat} (h:UInv n up least m rank B) {k:Nat} (hk:k<n) (hn:up k≠k):up (up k) <n∧m (up (up k))=m k∧B - rank (up (up k)) <B - rank k:=by
 have h1:=h.up_lt k hk
 refine⟨h.up_lt _ h1,by rw[h.up_m _ h1,h.up_m _ hk],?_⟩
 have h2:=h.rk k hk hn
 have h3:=h.bd _ (h.up_lt _ h1)
 have h4:rank (up k)≤rank (up (up k)):=by
  by_cases e:up (up k)=up k
  ·rw[e];exact Nat.le_refl _
  ·exact Nat.le_of_lt (h.rk _ h1 e)
 omega
theorem zo5 (n:Nat) (i:Int) (bu bt:Nat) (cap:Nat) (c:Int) {up least m rank:Nat→Nat} {B:Nat} (many:Nat→Int) (sp:List Value) (hu:UInv n up least m rank B) (hn:n≤1048576) {G:za} {H:zb} {R:Value→za→zb→Prop}
  (h1: ∀ (t:Nat) (up':Nat→Nat),t<n→0≤i→i<n→UInv n up' least m rank B→up' t=t→m t=m i.toNat→(∀x,up x=x→up' x=x)→R (.int .i64 t) G ((bu, .cells [.slice (some ⟨bt,0,none⟩) n cap, .int .i64 c] [] 108):: (bt, .cells (zaN n up' least many) sp 110)::H))
  (h2:(i<0∨(n:Int)≤i)→R (.int .i64 (-1)) G ((bu, .cells [.slice (some ⟨bt,0,none⟩) n cap, .int .i64 c] [] 108):: (bt, .cells (zaN n up least many) sp 110)::H)):
  FnT Tryz.prog 121 [.pointer (some ⟨bu,0,none⟩), .int .i64 i] G ((bu, .cells [.slice (some ⟨bt,0,none⟩) n cap, .int .i64 c] [] 108):: (bt, .cells (zaN n up least many) sp 110)::H) R:=by
 refine FnT.body tok [0,1,2,4,5,13,24] Tryz.func121 rfl Kk Kk (by show _≤29;simp) fun hsep=>?_
 rw[Tryz.results121]
 have hE:=hsep
 try simp only[zzs] at hE
 repeat(obtain⟨hx',hE⟩:=hE)
 repeat' first
  |with_reducible first|refine Nx.go ?_ |refine Bk.go (fun _=>?_) fun _=>?_ |refine Nb fun nb hnb hnb1 hnb2=>?_
  |simp -dsimp -implicitDefEqProofs (disch:=first|exact Kd|fail) only[go_sem,↓reduceIte,seval]
  |refine FnT.leave (H':=(bu, .cells [.slice (some ⟨bt,0,none⟩) n cap, .int .i64 c] [] 108):: (nb, .cells [.pointer (some ⟨bu,0,none⟩)] [] 68):: (bt, .cells (zaN n up least many) sp 110)::H) (zzw n bu bt cap c ?_) Ks
 ·all_goals refine Upd.finL ?_ (h2 Ko) ?_
  any_goals first|exact Ks|skip
  rfl
 ·all_goals refine Upd.finL ?_ (h2 Ko) ?_
  any_goals first|exact Ks|skip
  rfl
 ·rename_i bx hbx1 hbx2
  refine Tri.loopU tok [0,1,2,4,5,13,24] Kk [0,1,2,4,5] (fun q G' fr H'=> ∃ (j:Nat) (up':Nat→Nat),j<n∧m j=m i.toNat∧q=B - rank j∧UInv n up' least m rank B∧(∀x,up x=x→up' x=x)∧G'=G∧H'=(bu, .cells [.slice (some ⟨bt,0,none⟩) n cap, .int .i64 c] [] 108):: (nb, .cells [.pointer (some ⟨bu,0,none⟩)] [] 68):: (bt, .cells (zaN n up' least many) sp 110)::H∧fr=[(0, .pointer (some ⟨bu,0,none⟩)),(1, .int .i64 j),(2, .pointer (some ⟨nb,0,none⟩)),(4, .int .i64 0),(5, .func (.func 145) #[] #[.pointer (some ⟨nb,0,none⟩)])]) (B - rank i.toNat) (Upd.now ?_) ?_
  ·refine⟨i.toNat,up,by omega,rfl,rfl,hu,fun _ h=>h,rfl,rfl,?_⟩
   rw[show((i.toNat:Nat):Int)=i by omega];rfl
  ·rintro q G' fr H' hle hs ⟨j,up',hj,hmj,rfl,hu',hroot,rfl,rfl,rfl⟩
   have hE:=hs
   try simp only[zzs] at hE
   repeat(obtain⟨hx',hE⟩:=hE)
   have hju:=hu'.up_lt j hj
   by_cases hr:up' j=j
   ·repeat' first
     |with_reducible first|refine Nx.go ?_ |refine Bk.go (fun _=>?_) fun _=>?_ |refine Nb fun nb hnb hnb1 hnb2=>?_
     |simp -dsimp -implicitDefEqProofs (disch:=first|exact Kd|fail) only[go_sem,↓reduceIte,seval,zjF,hr]
    refine Upd.leave (H':=(bu, .cells [.slice (some ⟨bt,0,none⟩) n cap, .int .i64 c] [] 108):: (bt, .cells (zaN n up' least many) sp 110)::H) Ks (h1 j up' hj Ko Ko hu' hr hmj hroot)
   ·repeat' first
     |with_reducible first|refine Nx.go ?_ |refine Bk.go (fun _=>?_) fun _=>?_ |refine Nb fun nb hnb hnb1 hnb2=>?_
     |simp -dsimp -implicitDefEqProofs (disch:=first|exact Kd|fail) only[go_sem,↓reduceIte,seval,zjF]
     |refine FnT.leave (H':=(nb, .cells [.pointer (some ⟨bu,0,none⟩)] [] 68):: (bu, .cells [.slice (some ⟨bt,0,none⟩) n cap, .int .i64 c] [] 108):: (bt, .cells (zaN n up' least many) sp 110)::H) (zyw n j nb bu bt cap c up' least many sp hj hju hn ?_) Ks
    obtain⟨s1,s2,s3⟩:=hu'.step hj hr
    refine Upd.leave (H':=(bu, .cells [.slice (some ⟨bt,0,none⟩) n cap, .int .i64 c] [] 108):: (nb, .cells [.pointer (some ⟨bu,0,none⟩)] [] 68):: (bt, .cells (zaN n (upd up' j (up' (up' j))) least many) sp 110)::H) Ks ⟨_,s3,up' (up' j),upd up' j (up' (up' j)),s1,s2.trans hmj,rfl,hu'.halve hj,fun x hx=>?_,rfl,rfl,rfl⟩
    by_cases e:x=j
    ·subst e;exact absurd (hroot x hx) hr
    ·rw[zbo _ _ e];exact hroot x hx
end Go.Proofs.YtomdbjfdbkejoaaGreatDoor
namespace Go.Proofs.YtomdbjfdbkejoaaGreatDoor
open Go Go.V Go.Proofs
def zde (n:Nat) (m:Nat→Nat):Nat:=(List.range n).countP fun i=>m i==i
def zgw (hb:zb) (pt:Value) (n:Nat) (m:Nat→Nat):Prop:=
 n≤1048576∧ ∃bu bt cap up least rank B many sp,pt= .pointer (some ⟨bu,0,none⟩)∧hb=[(bu, .cells [.slice (some ⟨bt,0,none⟩) n cap, .int .i64 (zde n m)] [] 108),(bt, .cells (zaN n up least many) sp 110)]∧UInv n up least m rank B
end Go.Proofs.YtomdbjfdbkejoaaGreatDoor
