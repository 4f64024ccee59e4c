/- A part of the proof, joined of several texts: the verification layer, contracts of functions, plain law. -/
import Derived.Test.YtefkpedhbijhkaaGreatDoorW7
import Derived.Lib.Overlaps
set_option maxHeartbeats 64000000
set_option linter.unusedSimpArgs false
set_option linter.unusedVariables false
set_option linter.unusedSectionVars false
namespace Go.Proofs.YtefkpedhbijhkaaGreatDoor
open Go Go.V Go.Proofs
section fill
variable {α:Type} (z:α) (enc:α→Value)
def za9 (B:List α) (s:Nat):List α:=B.take s++List.replicate (B.length - s) z
theorem zsF (B:List α) {s:Nat} (h:s≤B.length):(za9 z B s).length=B.length:=by unfold za9;simp;omega
theorem zqY (B:List α):List.replicate B.length (enc z)=(za9 z B 0).map enc:=by
 unfold za9
 rw[List.take_zero,List.nil_append,List.map_replicate,Nat.sub_zero]
theorem zsG (B:List α):za9 z B B.length=B:=by unfold za9;simp
theorem zsH {B:List α} {s:Nat} (h:s<B.length):zi ((za9 z B s).map enc) s [enc B[s]]=(za9 z B (s+1)).map enc:=by
 have hr:List.replicate (B.length - s) z=z::List.replicate (B.length - (s+1)) z:=by
  rw[show B.length - s=(B.length - (s+1))+1 by omega,List.replicate_succ]
 have hl:(B.take s).length=s:=by rw[List.length_take];omega
 unfold zi za9
 rw[List.take_succ_eq_append_getElem h,hr,List.map_append,List.take_left' (by rw[List.length_map];exact hl),List.drop_append,List.length_map,hl]
 rw[List.drop_of_length_le (by rw[List.length_map,hl];simp),List.nil_append]
 simp only[List.length_singleton,Nat.add_sub_cancel_left,List.map_append,List.map_cons,List.map_nil,List.drop_succ_cons,List.drop_zero,List.append_assoc,List.cons_append,List.nil_append]
end fill
def RwI (G:za) (rv:List Value) (M:List (List Int)):Prop:=rv.length=M.length∧ ∀i (h:i<M.length) (h2:i<rv.length),∃b c,rv[i]= .slice b M[i].length c∧Row G b (M[i].map (Value.int .i64))∧M[i].length≤c
theorem RwI.nil (G:za):RwI G [] []:=⟨rfl,fun i h=>by cases h⟩
theorem RwI.mono {G G':za} (hle:PLe G G') {rv:List Value} {M:List (List Int)} (h:RwI G rv M):RwI G' rv M:=by
 refine⟨h.1,fun i h1 h2=>?_⟩
 obtain⟨b,c,e1,e2,e3⟩:=h.2 i h1 h2
 exact⟨b,c,e1,e2.mono hle,e3⟩
theorem RwI.snoc {G:za} {rv:List Value} {M:List (List Int)} (h:RwI G rv M) {b:Option Addr} {c:Nat} {r:List Int} (hr:Row G b (r.map (Value.int .i64))) (hc:r.length≤c):RwI G (rv++[.slice b r.length c]) (M++[r]):=by
 have h1:=h.1
 refine⟨by simp [h1],fun i hi hi2=>?_⟩
 rcases Nat.lt_or_ge i M.length with g|g
 ·obtain⟨b',c',e1,e2,e3⟩:=h.2 i g Ko
  refine⟨b',c',?_,?_,?_⟩
  ·rw[List.getElem_append_left Ko,List.getElem_append_left g];exact e1
  ·rw[List.getElem_append_left g];exact e2
  ·rw[List.getElem_append_left g];exact e3
 ·rw[List.length_append,List.length_singleton] at hi
  obtain rfl:i=M.length:=by omega
  refine⟨b,c,?_,?_,?_⟩
  ·rw[List.getElem_append_right Ko,List.getElem_append_right Ko];simp [h1]
  ·rw[List.getElem_append_right Ko];simp;exact hr
  ·rw[List.getElem_append_right Ko];simp;exact hc
theorem RwI.one {G:za} {rv:List Value} {M:List (List Int)} (h:RwI G rv M):rv.all zax=true:=by
 refine List.all_eq_true.2 fun v hv=>?_
 obtain⟨i,hi,rfl⟩:=List.getElem_of_mem hv
 obtain⟨a,c,e,_⟩:=h.2 i (by have:=h.1;omega) hi
 rw[e];rfl
def zgw (b:UInt8):Int:=(b.toNat:Int)
theorem znp (a b:UInt8) (h:zgw a=zgw b):a=b:=by
 unfold zgw at h
 exact UInt8.toNat_inj.1 Ko
def zcM (d:DfaT):List UInt8:=d.label.map fun k=>UInt8.ofNat k.toNat
theorem zc2 (d:DfaT):(zcM d).length=d.label.length:=by unfold zcM;rw[List.length_map]
theorem znq {d:DfaT} (hok:zd d):(zcM d).map zgw=d.label:=by
 obtain⟨hk1,hk2,hk3,hk4,hk5,hk6,hk7⟩:=hok
 unfold zcM
 rw[List.map_map]
 conv=>rhs;rw[←List.map_id d.label]
 refine List.map_congr_left fun k hk=>?_
 obtain⟨i,hi,rfl⟩:=List.getElem_of_mem hk
 obtain⟨_,w2,w3,_⟩:=hk7 i Ko hi
 have h64:=hk6.1
 show((UInt8.ofNat (d.label[i]).toNat).toNat:Int)=d.label[i]
 rw[UInt8.toNat_ofNat']
 omega
theorem zws {d:DfaT} (hok:zd d) {i:Nat} (hi:i<d.label.length):d.label[i]=((((zcM d)[i]'(by rw[zc2];exact hi)).toNat:Nat):Int):=by
 have h:=znq hok
 have h2:((zcM d).map zgw)[i]'(by rw[List.length_map,zc2];exact hi)=d.label[i]:=by simp only[h]
 rw[List.getElem_map] at h2
 exact h2.symm
def zJ (d:DfaT) (m:Nat):List (List UInt8):=lsA 0 d.next d.width.toNat (zcM d) m
theorem znr {d:DfaT} (hok:zd d) (m:Nat):zm d m=(zJ d m).map (List.map zgw):=by
 unfold zm zJ
 rw[←zpo znp,znq hok];rfl
def zil (d:DfaT) (ls:List (List UInt8)):DfaT:=⟨d.of,d.width,ls.map fun f=>(zaj 0 d.next d.width.toNat f).map (zp ls),ls.map fun f=>(((f.headD 0).toNat:Nat):Int),d.names⟩
theorem zsI (d:DfaT) (ls:List (List UInt8)):zU d (ls.map (List.map zgw))=zil d ls:=by
 unfold zU zil
 congr 1
 ·rw[List.map_map]
  refine List.map_congr_left fun f _=>?_
  show(zaj 0 d.next d.width.toNat (f.map zgw)).map _=_
  unfold zaj
  rw[List.map_map,List.map_map]
  refine List.map_congr_left fun k _=>?_
  show zp _ (zaB (zgw 0) d.next (f.map zgw) k)=zp ls (zaB 0 d.next f k)
  rw[znh,zsq znp]
 ·rw[List.map_map]
  refine List.map_congr_left fun f _=>?_
  cases f <;> rfl
theorem zuJ {d:DfaT} (hok:zd d) {m:Nat} (h:(zJ d m).length≤m):zV d m=(zil d (zJ d m),true):=by
 unfold zV
 rw[znr hok,List.length_map,if_pos h,zsI]
theorem zuK {d:DfaT} (hok:zd d) {m:Nat} (h: ¬(zJ d m).length≤m):zV d m=(zal,false):=by
 unfold zV
 rw[znr hok,List.length_map,if_neg h]
theorem zqZ {d:DfaT} {i:Nat} (h:i< (zJ d i).length):zJ d (i+1)=(zaj 0 d.next d.width.toNat (zJ d i)[i]).foldl zaz (zJ d i):=zb9 h
theorem zc3 (d:DfaT) {i j:Nat} (h:i≤j):zJ d i <+: zJ d j:=zdd _ _ _ h
def zdA (d:DfaT) (i:Nat):List (List Int):=((zJ d i).take i).map fun f=>(zaj 0 d.next d.width.toNat f).map (zp (zJ d i))
def zcC (d:DfaT) (i:Nat):List Int:=((zJ d i).take i).map fun f=>(((f.headD 0).toNat:Nat):Int)
theorem zns {α:Type} {a b:List α} (h:a <+: b) {n:Nat} (hn:n≤a.length):b.take n=a.take n:=by
 obtain⟨r,rfl⟩:=h
 rw[List.take_append_of_le_length hn]
theorem zq0 {d:DfaT} {i:Nat} (h:i< (zJ d i).length):zdA d (i+1)=zdA d i++[(zaj 0 d.next d.width.toNat (zJ d i)[i]).map (zp (zJ d (i+1)))]:=by
 unfold zdA
 rw[zns (zc3 d (Nat.le_succ i)) Ko,List.take_succ_eq_append_getElem h,List.map_append]
 congr 1
 refine List.map_congr_left fun f hf=>?_
 refine List.map_congr_left fun x hx=>?_
 obtain⟨j,hj,rfl⟩:=List.getElem_of_mem hf
 rw[List.getElem_take] at hx
 obtain⟨k,hk,rfl⟩:=List.mem_map.1 hx
 have hji:j<i:=by rw[List.length_take] at hj;omega
 have hm:zaB 0 d.next ((zJ d i)[j]'Ko) k∈zJ d i:=zku hji (by show j< (zJ d i).length;omega) (List.mem_range.1 hk)
 obtain⟨r,hr⟩:=zc3 d (Nat.le_succ i)
 rw[←hr,zf6 hm]
theorem zq1 {d:DfaT} {i:Nat} (h:i< (zJ d i).length):zcC d (i+1)=zcC d i++[((((zJ d i)[i].headD 0).toNat:Nat):Int)]:=by
 unfold zcC
 rw[zns (zc3 d (Nat.le_succ i)) Ko,List.take_succ_eq_append_getElem h,List.map_append];rfl
theorem zsJ {d:DfaT} {i m:Nat} (h:(zJ d i).length=i) (hm:i≤m):zJ d m=zJ d i∧zil d (zJ d i)=⟨d.of,d.width,zdA d i,zcC d i,d.names⟩:=by
 refine⟨zfH (by show(zJ d i).length≤i;omega) m hm,?_⟩
 unfold zil zdA zcC
 rw[List.take_of_length_le Ko]
def zbr (d:DfaT) (i k:Nat):List (List UInt8):=((zaj 0 d.next d.width.toNat ((zJ d i).getD i [])).take k).foldl zaz (zJ d i)
theorem zeR (d:DfaT) (i:Nat):zbr d i 0=zJ d i:=by unfold zbr;rw[List.take_zero];rfl
theorem zsK {d:DfaT} {i k:Nat} (hk:k<d.width.toNat):zbr d i (k+1)=zaz (zbr d i k) (zaB 0 d.next ((zJ d i).getD i []) k):=by
 have hl:k< (zaj 0 d.next d.width.toNat ((zJ d i).getD i [])).length:=by unfold zaj;rw[List.length_map,List.length_range];exact hk
 unfold zbr
 rw[List.take_succ_eq_append_getElem hl,List.foldl_append,List.foldl_cons,List.foldl_nil]
 congr 1
 simp only[zaj,List.getElem_map,List.getElem_range]
theorem znt {d:DfaT} {i:Nat} (h:i< (zJ d i).length):zbr d i d.width.toNat=zJ d (i+1):=by
 rw[zqZ h]
 unfold zbr
 rw[List.take_of_length_le (by unfold zaj;rw[List.length_map,List.length_range];exact Nat.le_refl _),List.getD_eq_getElem?_getD,List.getElem?_eq_getElem h];rfl
theorem zjD {d:DfaT} {i j k:Nat} (h:j≤k):zbr d i j <+: zbr d i k:=by
 unfold zbr
 obtain⟨m,rfl⟩:=Nat.exists_eq_add_of_le h
 rw[List.take_add,List.foldl_append]
 exact zd0 _ _
theorem zx2 {d:DfaT} (hd:d.of.length=256) {i:Nat} (hi:i≤70000) {G:za} {H:zb} {v1 v2 v4 v5 v6 v7 v12 vn vl vs:Value} {a7:Option Addr} {n7 c7:Nat} {b4:Nat} {rv:List Value} {kn:zb} (hone:rv.all zax=true) (hkn:zH [] 24 1 vn i rv kn):
  Tri Tryz.prog Tryz.f21.ntmps (piece [1,1,1,1,1,1,1,0,1,0,0,1,0,0,1,1,1,0] Tryz.f21) G [(1,v1),(2,v2),(4,v4),(5,v5),(6,v6),(7,v7),(11, .pointer (some ⟨b4,0,none⟩)),(12,v12),(14, .slice a7 n7 c7)] ((b4, .cells (zc d vn vl vs) [] 27):: (kn++H)) (onlyN fun G' fr' H'=>
   ∃vn' kn',G'=G∧zH [] 24 1 vn' (i+1) (rv++[.slice a7 n7 c7]) kn'∧zy [1,2,4,5,6,7,11,12] fr'=[(1,v1),(2,v2),(4,v4),(5,v5),(6,v6),(7,v7),(11, .pointer (some ⟨b4,0,none⟩)),(12,v12)]∧H'=(b4, .cells (zc d vn' vl vs) [] 27):: (kn'++H)):=by
 have hr1: ∀x:Value,List.replicate 1 x=[x]:=fun _=>rfl
 have hl2: ∀a b c:Value,(zc d a b c).length=260:=fun a b c=>zab hd _ _ _
 have hg1: ∀a b c:Value,(zc d a b c)[257]? =some a:=fun a b c=>zdG hd _ _ _
 have hputN: ∀a b c x:Value,zi (zc d a b c) 257 [x]=zc d x b c:=fun a b c x=>zca hd _ _ _ _
 refine Tri.sepT fun hs0=>?_
 rcases hkn with ⟨aa,rfl,hi0,hx,rfl⟩| ⟨bl,cc,sp,rfl,rfl,hx,hcl⟩
 ·have hE:=hs0
  try simp only[zzs] at hE
  repeat(obtain⟨hx',hE⟩:=hE)
  refine Tri.piece (f:=Tryz.f21) rfl ?_
  refine Tri.run tok [0,1,2,4,5,6,7,8,9,10,11,12,13,14,15,24,25,26,27,51,59,60,61,74,96] Kk ?_
  repeat' first
   |with_reducible first|refine Nx.go ?_ |refine Bk.go (fun _=>?_) fun _=>?_ |refine Nb fun nb hnb hnb1 hnb2=>?_ |refine Nr fun nb nsp ncap hnb hncap hnb1 hnb2=>?_
   |simp -dsimp -implicitDefEqProofs (disch:=first|exact Kd|fail) only[go_sem,↓reduceIte,seval, -List.reduceReplicate,hl2,hg1,hputN,hr1,hone]
  refine Upd.leave (H':=(b4, .cells (zc d (.slice (some ⟨nb,0,none⟩) 1 ncap) vl vs) [] 27):: ([(nb, .cells [.slice a7 n7 c7] nsp 24)]++H)) Ks ?_
  exact⟨_,_,rfl, .inr ⟨nb,ncap,nsp,by rw[hi0],by rw[hx];rfl,by rw[hx,hi0];rfl,by rw[hx];simp at hncap⊢;omega⟩,rfl,rfl⟩
 ·rw[Nat.mul_one] at hx hcl
  have hE:=hs0
  try simp only[zzs] at hE
  repeat(obtain⟨hx',hE⟩:=hE)
  refine Tri.piece (f:=Tryz.f21) rfl ?_
  refine Tri.run tok [0,1,2,4,5,6,7,8,9,10,11,12,13,14,15,24,25,26,27,51,59,60,61,74,96] Kk ?_
  repeat' first
   |with_reducible first|refine Nx.go ?_ |refine Bk.go (fun _=>?_) fun _=>?_ |refine Nb fun nb hnb hnb1 hnb2=>?_ |refine Nr fun nb nsp ncap hnb hncap hnb1 hnb2=>?_
   |simp -dsimp -implicitDefEqProofs (disch:=first|exact Kd|fail) only[go_sem,↓reduceIte,seval, -List.reduceReplicate,hl2,hg1,hputN,hr1,hone]
  refine Upd.leave (H':=(b4, .cells (zc d (.slice (some ⟨nb,0,none⟩) (i+1) ncap) vl vs) [] 27):: ([(nb, .cells (rv++[.slice a7 n7 c7]) nsp 24)]++H)) Ks ?_
  exact⟨_,_,rfl, .inr ⟨nb,ncap,nsp,rfl,rfl,by rw[List.length_append,hx];simp,by rw[List.length_append,hx];simp at hncap⊢;omega⟩,rfl,rfl⟩
theorem zx3 {d:DfaT} (hd:d.of.length=256) {labs:List Int} {i:Nat} (hi:i≤70000) (hli:labs.length=i) {ks:List (List UInt8)} (hik:i<ks.length) (hkl:ks.length≤70000) (h0:0<ks[i].length) {av sp:List Value} {G:za} (hav:RwB G av ks) {H:zb} {v1 v2 v4 v5 v6 pt vn vl vs:Value} {b7 b11 b12 bl cc:Nat} {kl:zb} (hkll:zH [] 3 1 vl i (labs.map (Value.int .i64)) kl):
  Tri Tryz.prog Tryz.f21.ntmps (piece [1,1,1,1,1,1,1,0,1,0,0,1,0,0,1,1,1,1] Tryz.f21) G [(1,v1),(2,v2),(4,v4),(5,v5),(6,v6),(7, .pointer (some ⟨b7,0,none⟩)),(11, .pointer (some ⟨b11,0,none⟩)),(12, .pointer (some ⟨b12,0,none⟩))] ((b11, .cells (zc d vn vl vs) [] 27):: (b7, .cells [pt, .slice (some ⟨bl,0,none⟩) ks.length cc] [] 60):: (b12, .cells [.int .i64 (i:Nat)] [] 3):: (bl, .cells av sp 39):: (kl++H)) (onlyN fun G' fr' H'=>
   ∃vl' kl',G'=G∧zH [] 3 1 vl' (i+1) ((labs++[(((ks[i].headD 0).toNat:Nat):Int)]).map (Value.int .i64)) kl'∧zy [1,2,4,5,6,7,11,12] fr'=[(1,v1),(2,v2),(4,v4),(5,v5),(6,v6),(7, .pointer (some ⟨b7,0,none⟩)),(11, .pointer (some ⟨b11,0,none⟩)),(12, .pointer (some ⟨b12,0,none⟩))]∧H'=(b11, .cells (zc d vn vl' vs) [] 27):: (b7, .cells [pt, .slice (some ⟨bl,0,none⟩) ks.length cc] [] 60):: (b12, .cells [.int .i64 (i:Nat)] [] 3):: (bl, .cells av sp 39):: (kl'++H)):=by
 have hr1: ∀x:Value,List.replicate 1 x=[x]:=fun _=>rfl
 have hl2: ∀a b c:Value,(zc d a b c).length=260:=fun a b c=>zab hd _ _ _
 have hg2: ∀a b c:Value,(zc d a b c)[258]? =some b:=fun a b c=>zcX hd _ _ _
 have hputL: ∀a b c x:Value,zi (zc d a b c) 258 [x]=zc d a x c:=fun a b c x=>zbn hd _ _ _ _
 obtain⟨ba,ca,a1,a2,a3⟩:=hav.2 i hik (by have:=hav.1;omega)
 have hgv:(av++sp)[i]? =some (.slice ba ks[i].length ca):=by
  rw[List.getElem?_append_left (by have:=hav.1;omega),List.getElem?_eq_getElem (by have:=hav.1;omega),a1]
 have hada:Adr ba:=a2.adr (by rw[List.length_map];omega)
 have hhd:ks[i].headD 0=ks[i][0]:=by
  have hh: ∀ (l:List UInt8) (h:0<l.length),l.headD 0=l[0]:=fun l h=>by
   cases l with
   |nil=>cases h
   |cons a l=>rfl
  exact hh _ h0
 rw[hhd]
 have hb256:=ks[i][0].toNat_lt
 refine Tri.sepT fun hs0=>?_
 rcases hkll with ⟨aa,rfl,hi0,hx,rfl⟩| ⟨bk,ck,sk,rfl,rfl,hx,hcl⟩
 ·have hE:=hs0
  try simp only[zzs] at hE
  repeat(obtain⟨hx',hE⟩:=hE)
  refine Tri.piece (f:=Tryz.f21) rfl ?_
  refine Tri.run tok [0,1,2,4,5,6,7,8,9,10,11,12,13,14,15,24,25,26,27,51,59,60,61,74,96] Kk ?_
  repeat' first
   |with_reducible first|refine Nx.go ?_ |refine Bk.go (fun _=>?_) fun _=>?_ |refine Nb fun nb hnb hnb1 hnb2=>?_ |refine Nr fun nb nsp ncap hnb hncap hnb1 hnb2=>?_
   |simp -dsimp -implicitDefEqProofs (disch:=first|exact Kd|fail) only[go_sem,↓reduceIte,seval, -List.reduceReplicate,hl2,hg2,hputL,hr1,hgv,Row.obj0 a2,List.getElem_map,z7]
   |with_reducible refine Tri.drawS tok mixed [0,1,2,4,5,6,7,8,9,10,11,12,13,14,15,24,25,26,27,51,59,60,61,74,96] 24 [1,3,4,6,8] (.op 0 .plain (.op 1 .held (.op 2 .plain (.op 3 .held (.op 4 .held (.op 5 .plain (.op 6 .held (.op 7 .plain (.op 8 .held (.op 9 .plain (.op 10 .keeps (.op 11 .keeps (.op 12 .plain (.op 13 .plain .nil)))))))))))))) Kk [(b11, .cells (zc d vn (.slice aa 0 0) vs) [] 27),(b7, .cells [pt, .slice (some ⟨bl,0,none⟩) ks.length cc] [] 60),(b12, .cells [.int .i64 (i:Nat)] [] 3),(bl, .cells av sp 39)] Ks ?_
  refine Upd.leave (H':=(b11, .cells (zc d vn (.slice (some ⟨nb,0,none⟩) 1 ncap) vs) [] 27):: (b7, .cells [pt, .slice (some ⟨bl,0,none⟩) ks.length cc] [] 60):: (b12, .cells [.int .i64 (i:Nat)] [] 3):: (bl, .cells av sp 39):: ([(nb, .cells [.int .i64 (ks[i][0].toNat:Nat)] nsp 3)]++H)) Ks ?_
  exact⟨_,_,rfl, .inr ⟨nb,ncap,nsp,by rw[hi0],by rw[List.map_append,hx];rfl,by rw[List.map_append,hx];simp;omega,by rw[List.map_append,hx];simp at hncap⊢;omega⟩,rfl,rfl⟩
 ·rw[List.length_map,Nat.mul_one] at hx hcl
  have hE:=hs0
  try simp only[zzs] at hE
  repeat(obtain⟨hx',hE⟩:=hE)
  refine Tri.piece (f:=Tryz.f21) rfl ?_
  refine Tri.run tok [0,1,2,4,5,6,7,8,9,10,11,12,13,14,15,24,25,26,27,51,59,60,61,74,96] Kk ?_
  repeat' first
   |with_reducible first|refine Nx.go ?_ |refine Bk.go (fun _=>?_) fun _=>?_ |refine Nb fun nb hnb hnb1 hnb2=>?_ |refine Nr fun nb nsp ncap hnb hncap hnb1 hnb2=>?_
   |simp -dsimp -implicitDefEqProofs (disch:=first|exact Kd|fail) only[go_sem,↓reduceIte,seval, -List.reduceReplicate,hl2,hg2,hputL,hr1,hgv,Row.obj0 a2,List.getElem_map,z7,List.length_map,hli]
   |with_reducible refine Tri.drawS tok mixed [0,1,2,4,5,6,7,8,9,10,11,12,13,14,15,24,25,26,27,51,59,60,61,74,96] 24 [1,3,4,6,8] (.op 0 .plain (.op 1 .held (.op 2 .plain (.op 3 .held (.op 4 .held (.op 5 .plain (.op 6 .held (.op 7 .plain (.op 8 .held (.op 9 .plain (.op 10 .keeps (.op 11 .keeps (.op 12 .plain (.op 13 .plain .nil)))))))))))))) Kk [(b11, .cells (zc d vn (.slice (some ⟨bk,0,none⟩) i ck) vs) [] 27),(b7, .cells [pt, .slice (some ⟨bl,0,none⟩) ks.length cc] [] 60),(b12, .cells [.int .i64 (i:Nat)] [] 3),(bl, .cells av sp 39)] Ks ?_
  refine Upd.leave (H':=(b11, .cells (zc d vn (.slice (some ⟨nb,0,none⟩) (i+1) ncap) vs) [] 27):: (b7, .cells [pt, .slice (some ⟨bl,0,none⟩) ks.length cc] [] 60):: (b12, .cells [.int .i64 (i:Nat)] [] 3):: (bl, .cells av sp 39):: ([(nb, .cells (labs.map (Value.int .i64)++[.int .i64 (ks[i][0].toNat:Nat)]) nsp 3)]++H)) Ks ?_
  exact⟨_,_,rfl, .inr ⟨nb,ncap,nsp,rfl,by rw[List.map_append];rfl,by simp [hli],by simp at hncap⊢;omega⟩,rfl,rfl⟩
theorem zx4 {d:DfaT} (hsm:zt d) {C:List Value} {an al ay:Option Addr} {cn cl cs:Nat} {rs:List Value} {G:za} {H:zb} (O:OpenD G d C an al ay cn cl cs rs) {v1 v4 v5 v6 v7:Value} {b2:Nat}:
  Tri Tryz.prog Tryz.f21.ntmps (piece [1,1,1,1,1,1,0] Tryz.f21) G [(1,v1),(2, .pointer (some ⟨b2,0,none⟩)),(4,v4),(5,v5),(6,v6),(7,v7)] ((b2, .cells C [] 27)::H) (onlyN fun G' fr' H'=>
   ∃b11 vs,PLe G G'∧Sl G' str vs d.names∧zy [1,2,4,5,6,7,11] fr'=[(1,v1),(2, .pointer (some ⟨b2,0,none⟩)),(4,v4),(5,v5),(6,v6),(7,v7),(11, .pointer (some ⟨b11,0,none⟩))]∧H'=(b11, .cells (zc d (.slice none 0 0) (.slice none 0 0) vs) [] 27):: (b2, .cells C [] 27)::H):=by
 obtain⟨hm1,hm2,hm3,hm4,hm5⟩:=id hsm
 have hCl:=O.len
 have hCw:=O.w
 have hCo:=O.of
 have hCs:=O.s
 have hofl:(u8L d.of).length=256:=by rw[List.length_map,O.ofl]
 have hb1:=zeg O.ofl
 have hb2:=zeh O.ofl
 have hl1:(u8L d.of++[Value.int .i64 0,Value.slice none 0 0,Value.slice none 0 0,Value.slice none 0 0]).length=260:=by rw[List.length_append,hofl];rfl
 have hl2: ∀v:Value,(zc d (.slice none 0 0) (.slice none 0 0) v).length=260:=fun v=>zab O.ofl _ _ _
 have hb3:=zei O.ofl (.slice none 0 0) (.slice none 0 0) (.slice none 0 0)
 have hputz: ∀v:Value,zi zF 0 (zc d (.slice none 0 0) (.slice none 0 0) v)=zc d (.slice none 0 0) (.slice none 0 0) v:=fun v=>by
  unfold zi
  rw[List.take_zero,List.nil_append,List.drop_of_length_le (by rw[zn,hl2];omega),List.append_nil]
 have hnam:Sl G str (.slice ay d.names.length cs) d.names:=⟨ay,cs,rfl,O.ry,O.ryc⟩
 refine Tri.sepT fun hs0=>?_
 have hE:=hs0
 try simp only[zzs] at hE
 repeat(obtain⟨hx',hE⟩:=hE)
 refine Tri.piece (f:=Tryz.f21) rfl ?_
 refine Tri.run tok [0,1,2,4,5,6,7,8,9,10,11,12,13,14,15,24,25,26,27,51,59,60,61,74,96] Kk ?_
 repeat' first
  |with_reducible first|refine Nx.go ?_ |refine Bk.go (fun _=>?_) fun _=>?_ |refine Nb fun nb hnb hnb1 hnb2=>?_ |refine Nr fun nb nsp ncap hnb hncap hnb1 hnb2=>?_
  |with_reducible refine Tri.drawH tok mixed [0,1,2,4,5,6,7,8,9,10,11,12,13,14,15,24,25,26,27,51,59,60,61,74,96] 10 [1,3,5] (.op 0 .plain (.op 1 .held (.op 2 .plain (.op 3 .held (.op 4 .plain (.op 5 .held (.both (.op 6 .keeps (.op 7 .plain (.op 8 .keeps (.op 9 .plain .nil)))) (.op 8 .keeps (.op 6 .keeps (.op 7 .plain (.op 9 .plain .nil))))))))))) Kk [2] ?_
  |simp -dsimp -implicitDefEqProofs (disch:=first|exact Kd|fail) only[go_sem,↓reduceIte,seval, -List.reduceReplicate,List.toList_toArray,hCl,hCw,hCo,hCs,hofl,hb1,hb2,hb3,hl1,hl2,zn,zag,hputz]
  |with_reducible refine And.intro ?_ ?_
  | ((with_reducible refine zfI d.names hm4 hnam fun G4 v4 hle4 hs4 hsl4=>?_);obtain⟨ay4,cy4,rfl,hr4,hc4⟩:=hsl4;have hone:=za3 (d:=d) (vn:= .slice none 0 0) (vl:= .slice none 0 0) (vs:= .slice ay4 d.names.length cy4) rfl rfl rfl;(have hE:=hs4;try simp only[zzs] at hE;repeat(obtain⟨hx',hE⟩:=hE)))
 all_goals exact Upd.now ⟨nb,_,hle4,⟨ay4,cy4,rfl,hr4,hc4⟩,rfl,rfl⟩
end Go.Proofs.YtefkpedhbijhkaaGreatDoor
namespace Go.Proofs.YtefkpedhbijhkaaGreatDoor
open Go Go.V Go.Proofs
theorem zim:V.Callee Tryz.prog 43:=⟨_,_,Tryz.func43,rfl,by kernel_rfl⟩
theorem zx5 {d:DfaT} (hsm:zt d) (hok:zd d) {G:za} {H:zb} {C:List Value} {an al ay:Option Addr} {cn cl cs:Nat} {rs:List Value} (O:OpenD G d C an al ay cn cl cs rs) {b2 b6 b7 b12 br bt:Nat} {v1 v4 v5 v11 v59 v60:Value} {ks:List (List UInt8)} {i k W:Nat} (hi:i<ks.length) (hkl:ks.length≤70000) (hfl:ks[i].length=d.next.length) (hk:(k:Int) <d.width) {Ri:List Int} (hRl:Ri.length=W) (hkW:k<W) (hW:W≤256) (hval:zp (zaz ks (zaB 0 d.next ks[i] k)) (zaB 0 d.next ks[i] k)=Ri[k]'Ko) {vall:Value} {av:List Value} {ka tb:zb} (htb:zgo tb (.pointer (some ⟨bt,0,none⟩)) ks) (hka:zH [] 39 1 vall ks.length av ka) (hav:RwB G av ks):
  Tri Tryz.prog Tryz.f21.ntmps (piece [1,1,1,1,1,1,1,0,1,0,0,1,0,0,1,1,0,1,0,0,1,1,0,0,1,0] Tryz.f21) G [(1,v1),(2, .pointer (some ⟨b2,0,none⟩)),(4,v4),(5,v5),(6, .pointer (some ⟨b6,0,none⟩)),(7, .pointer (some ⟨b7,0,none⟩)),(11,v11),(12, .pointer (some ⟨b12,0,none⟩)),(13, .func (.func 45) #[] #[.pointer (some ⟨b6,0,none⟩), .pointer (some ⟨b2,0,none⟩), .pointer (some ⟨b7,0,none⟩), .pointer (some ⟨b12,0,none⟩)]),(14, .slice (some ⟨br,0,none⟩) W W),(15, .int .i64 (k:Nat)),(59,v59),(60,v60)] ((b7, .cells [.pointer (some ⟨bt,0,none⟩),vall] [] 60):: (b6, .cells [.int .i64 d.label.length] [] 3):: (b2, .cells C [] 27):: (b12, .cells [.int .i64 (i:Nat)] [] 3):: (br, .cells ((za9 0 Ri k).map (Value.int .i64)) [] 3):: (tb++(ka++H))) (onlyN fun G' fr' H'=>
   ∃vall' av' ka' tb',PLe G G'∧zgo tb' (.pointer (some ⟨bt,0,none⟩)) (zaz ks (zaB 0 d.next ks[i] k))∧zH [] 39 1 vall' (zaz ks (zaB 0 d.next ks[i] k)).length av' ka'∧RwB G' av' (zaz ks (zaB 0 d.next ks[i] k))∧zy [1,2,4,5,6,7,11,12,13,14,59,60] fr'=[(1,v1),(2, .pointer (some ⟨b2,0,none⟩)),(4,v4),(5,v5),(6, .pointer (some ⟨b6,0,none⟩)),(7, .pointer (some ⟨b7,0,none⟩)),(11,v11),(12, .pointer (some ⟨b12,0,none⟩)),(13, .func (.func 45) #[] #[.pointer (some ⟨b6,0,none⟩), .pointer (some ⟨b2,0,none⟩), .pointer (some ⟨b7,0,none⟩), .pointer (some ⟨b12,0,none⟩)]),(14, .slice (some ⟨br,0,none⟩) W W),(59,v59),(60,v60)]∧H'=(b7, .cells [.pointer (some ⟨bt,0,none⟩),vall'] [] 60):: (b6, .cells [.int .i64 d.label.length] [] 3):: (b2, .cells C [] 27):: (b12, .cells [.int .i64 (i:Nat)] [] 3):: (br, .cells ((za9 0 Ri (k+1)).map (Value.int .i64)) [] 3):: (tb'++(ka'++H))):=by
 have hk2:=hok.2.1
 have hk1:=hok.1
 have hk3:=hok.2.2.1
 rcases hka with ⟨_,_,h0,_,_⟩| ⟨bl2,cc2,sp2,rfl,rfl,hxb,hcb⟩
 ·omega
 refine Tri.sepT fun hs0=>?_
 have hE:=hs0
 try simp only[zzs] at hE
 repeat(obtain⟨hx',hE⟩:=hE)
 refine Tri.piece (f:=Tryz.f21) rfl ?_
 refine Tri.run tok [0,1,2,4,5,6,7,8,9,10,11,12,13,14,15,24,25,26,27,51,59,60,61,74,96] Kk ?_
 repeat' first
  |with_reducible first|refine Nx.go ?_ |refine Bk.go (fun _=>?_) fun _=>?_ |refine Nb fun nb hnb hnb1 hnb2=>?_ |refine Nr fun nb nsp ncap hnb hncap hnb1 hnb2=>?_
  |simp -dsimp -implicitDefEqProofs (disch:=first|exact Kd|fail) only[go_sem,↓reduceIte,seval, -List.reduceReplicate]
 refine FnT.sep (FnT.upd (FnT.leave (H':=(b6, .cells [.int .i64 d.label.length] [] 3):: (b2, .cells C [] 27):: (b7, .cells [.pointer (some ⟨bt,0,none⟩),(.slice (some ⟨bl2,0,none⟩) ks.length cc2)] [] 60):: (b12, .cells [.int .i64 (i:Nat)] [] 3):: (bl2, .cells av sp2 39):: ((br, .cells ((za9 0 Ri k).map (Value.int .i64)) [] 3):: (tb++H))) (zxb hsm hok O hi hkl hfl (k:=k) hk hav fun bx hx'=>?_) Ks))
 refine Upd.go (H':=(bx, .cells ((zaB 0 d.next ks[i] k).map z7) [] 5):: (b7, .cells [.pointer (some ⟨bt,0,none⟩),(.slice (some ⟨bl2,0,none⟩) ks.length cc2)] [] 60):: (tb++([(bl2, .cells av sp2 39)]++((b6, .cells [.int .i64 d.label.length] [] 3):: (b2, .cells C [] 27):: (b12, .cells [.int .i64 (i:Nat)] [] 3):: (br, .cells ((za9 0 Ri k).map (Value.int .i64)) [] 3)::H)))) Ks (Upd.now fun _ hs3=>?_)
 clear hx' hs0
 obtain⟨x,hx⟩: ∃x,x=zaB 0 d.next ks[i] k:=⟨_,rfl⟩
 have hbl:x.length=d.next.length:=by rw[hx,zjy]
 rw[←hx] at hval hs3⊢
 clear hx
 repeat' first
  |with_reducible first|refine Nx.go ?_ |refine Bk.go (fun _=>?_) fun _=>?_ |refine Nb fun nb hnb hnb1 hnb2=>?_ |refine Nr fun nb nsp ncap hnb hncap hnb1 hnb2=>?_
  |simp -dsimp -implicitDefEqProofs (disch:=first|exact Kd|fail) only[go_sem,↓reduceIte,seval, -List.reduceReplicate]
 refine FnT.sep (FnT.upd (FnT.pre zim (Upd.shareRow hs3.1.1 fun G3 hle3 hs4 hr3=>?_)))
 have hmm:=zni ks x
 refine zlJ Ko Ko Ko htb hkl hr3 Ko (.inr ⟨bl2,cc2,sp2,rfl,rfl,hxb,hcb⟩) (hav.mono hle3) fun tb3 vall3 av3 ka3 hs5 htb3 hka3 hav3=>?_
 rw[hmm.1] at htb3 hka3 hav3
 rw[hmm.2,hval]
 refine Upd.go (H':=(br, .cells ((za9 0 Ri k).map (Value.int .i64)) [] 3):: (b7, .cells [.pointer (some ⟨bt,0,none⟩),vall3] [] 60):: (b6, .cells [.int .i64 d.label.length] [] 3):: (b2, .cells C [] 27):: (b12, .cells [.int .i64 (i:Nat)] [] 3):: (tb3++(ka3++H))) Ks (Upd.now fun _ hs6=>?_)
 have hput:=zsH (z:=0) (enc:=Value.int .i64) (B:=Ri) (s:=k) Ko
 have hfL:(za9 0 Ri k).length=W:=by rw[zsF _ _ Ko,hRl]
 repeat' first
  |with_reducible first|refine Nx.go ?_ |refine Bk.go (fun _=>?_) fun _=>?_ |refine Nb fun nb hnb hnb1 hnb2=>?_ |refine Nr fun nb nsp ncap hnb hncap hnb1 hnb2=>?_
  |simp -dsimp -implicitDefEqProofs (disch:=first|exact Kd|fail) only[go_sem,↓reduceIte,seval, -List.reduceReplicate,hput,hfL,List.length_map]
 refine Upd.leave (H':=(b7, .cells [.pointer (some ⟨bt,0,none⟩),vall3] [] 60):: (b6, .cells [.int .i64 d.label.length] [] 3):: (b2, .cells C [] 27):: (b12, .cells [.int .i64 (i:Nat)] [] 3):: (br, .cells ((za9 0 Ri (k+1)).map (Value.int .i64)) [] 3):: (tb3++(ka3++H))) Ks ?_
 exact⟨_,_,_,_,hle3,htb3,hka3,hav3,rfl,rfl⟩
end Go.Proofs.YtefkpedhbijhkaaGreatDoor
namespace Go.Proofs.YtefkpedhbijhkaaGreatDoor
open Go Go.V Go.Proofs
theorem zyR {d:DfaT} (hsm:zt d) (hok:zd d) {most:Nat} (hm1:1≤most) (hm2:most≤65536) {G:za} {H:zb} {R:Value→za→zb→Prop} {C:List Value} {an al ay:Option Addr} {cn cl cs:Nat} {rs:List Value} (O:OpenD G d C an al ay cn cl cs rs) {b2 b4 b6 b7 b11 bt:Nat} {vs vall:Value} (hvs:Sl G str vs d.names) {tb ka:zb} {av:List Value} (htb:zgo tb (.pointer (some ⟨bt,0,none⟩)) (zJ d 0)) (hka:zH [] 39 1 vall (zJ d 0).length av ka) (hav:RwB G av (zJ d 0))
  (hR: ∀G' v',PLe G G'→IsD G' (zV d most).1 v'→R (.tuple #[v', .bool (zV d most).2]) G' H):
  Tri Tryz.prog Tryz.f21.ntmps (piece [1,1,1,1,1,1,1] Tryz.f21) G [(1, .int .i64 (most:Nat)),(2, .pointer (some ⟨b2,0,none⟩)),(4, .pointer (some ⟨b4,0,none⟩)),(5, .bool false),(6, .pointer (some ⟨b6,0,none⟩)),(7, .pointer (some ⟨b7,0,none⟩)),(11, .pointer (some ⟨b11,0,none⟩))] ((b7, .cells [.pointer (some ⟨bt,0,none⟩),vall] [] 60):: (b6, .cells [.int .i64 d.label.length] [] 3):: (b2, .cells C [] 27):: (b4, .cells zF [] 27):: (b11, .cells (zc d (.slice none 0 0) (.slice none 0 0) vs) [] 27):: (tb++(ka++H))) (zh3 T #[Go.ResultVar.cell 4 27,Go.ResultVar.tmp 5].toList (zz R) .mk):=by
 obtain⟨hs1,hs2,hs3,hs4,hs5⟩:=id hsm
 obtain⟨hk1,hk2,hk3,hk4,hk5,hk6,hk7⟩:=id hok
 have hCl:=O.len
 have hCw:=O.w
 have hl2: ∀a b c:Value,(zc d a b c).length=260:=fun a b c=>zab O.ofl _ _ _
 have ht2: ∀a b c:Value,List.take 260 (zc d a b c)=zc d a b c:=fun a b c=>zcz O.ofl _ _ _
 have hputz: ∀a b c:Value,zi zF 0 (zc d a b c)=zc d a b c:=fun a b c=>zdM zn (hl2 _ _ _)
 have hone: ∀ (a a' a'':Option Addr) (n c n' c' n'' c'':Nat),(zc d (.slice a n c) (.slice a' n' c') (.slice a'' n'' c'')).all zax=true:=fun a a' a'' n c n' c' n'' c''=>za3 rfl rfl rfl
 obtain⟨ay2,cy2,rfl,hry2,hcy2⟩:=id hvs
 obtain⟨W,hW⟩: ∃W:Nat,W=d.width.toNat:=⟨_,rfl⟩
 have hw1:1≤d.width:=by
  have h0:0<d.of.length:=by rw[O.ofl];omega
  have:=List.length_pos_of_mem ((zI d.of).2 (List.getElem_mem h0))
  omega
 have hww:d.width≤256:=by
  have h2:=zam d.of
  have h3:=O.ofl
  omega
 have hWd:d.width=(W:Int):=by omega
 refine Tri.sepT fun hs0=>?_
 have hE:=hs0
 try simp only[zzs] at hE
 repeat(obtain⟨hx',hE⟩:=hE)
 refine Tri.piece (f:=Tryz.f21) rfl ?_
 refine Tri.runS tok [0,1,2,4,5,6,7,8,9,10,11,12,13,14,15,24,25,26,27,51,59,60,61,74,96] (.seq .run .cut) Kk ?_
 repeat' first
  |with_reducible first|refine Nx.go ?_ |refine Bk.go (fun _=>?_) fun _=>?_ |refine Nb fun nb hnb hnb1 hnb2=>?_ |refine Nr fun nb nsp ncap hnb hncap hnb1 hnb2=>?_
  |simp -dsimp -implicitDefEqProofs (disch:=first|exact Kd|fail) only[go_sem,↓reduceIte,seval, -List.reduceReplicate]
 refine Tri.loopS tok [0,1,2,4,5,6,7,8,9,10,11,12,13,14,15,24,25,26,27,51,59,60,61,74,96] (.seq .run (.seq (.block (.seq .run (.seq .run (.seq .run (.seq .cut .cut))))) .cut)) Kk [1,2,4,5,6,7,11,12] (fun q G' fr H'=> ∃ (i:Nat) (vall:Value) (av:List Value) (ka tb:zb) (vn vl:Value) (rv:List Value) (kn kl:zb) (b12:Nat),i+q=most∧PLe G G'∧zgo tb (.pointer (some ⟨bt,0,none⟩)) (zJ d i)∧zH [] 39 1 vall (zJ d i).length av ka∧RwB G' av (zJ d i)∧i≤(zJ d i).length∧(zJ d i).length≤most∧RwI G' rv (zdA d i)∧zH [] 24 1 vn i rv kn∧zH [] 3 1 vl i ((zcC d i).map (Value.int .i64)) kl∧H'=(b7, .cells [.pointer (some ⟨bt,0,none⟩),vall] [] 60):: (b6, .cells [.int .i64 d.label.length] [] 3):: (b2, .cells C [] 27):: (b4, .cells zF [] 27):: (b11, .cells (zc d vn vl (.slice ay2 d.names.length cy2)) [] 27):: (b12, .cells [.int .i64 (i:Nat)] [] 3):: (tb++(ka++(kn++(kl++H))))∧fr=[(1, .int .i64 (most:Nat)),(2, .pointer (some ⟨b2,0,none⟩)),(4, .pointer (some ⟨b4,0,none⟩)),(5, .bool false),(6, .pointer (some ⟨b6,0,none⟩)),(7, .pointer (some ⟨b7,0,none⟩)),(11, .pointer (some ⟨b11,0,none⟩)),(12, .pointer (some ⟨b12,0,none⟩))]) (most) ?_ ?_
 ·exact Upd.leave (H':=(b7, .cells [.pointer (some ⟨bt,0,none⟩),vall] [] 60):: (b6, .cells [.int .i64 d.label.length] [] 3):: (b2, .cells C [] 27):: (b4, .cells zF [] 27):: (b11, .cells (zc d (.slice none 0 0) (.slice none 0 0) (.slice ay2 d.names.length cy2)) [] 27):: (nb, .cells [.int .i64 0] [] 3):: (tb++(ka++([]++([]++H))))) Ks ⟨0,vall,av,ka,tb,_,_,[],[],[],nb,by omega,PLe.refl _,htb,hka,hav,Nat.zero_le _,hm1,RwI.nil _, .inl ⟨none,rfl,rfl,rfl,rfl⟩, .inl ⟨none,rfl,rfl,rfl,rfl⟩,rfl,rfl⟩
 ·rintro q G1 fr H1 hle1 hsL ⟨i,vall,av,ka,tb,vn,vl,rv,kn,kl,b12,hiq,hle01,htb,hka,hav,hil,hlm,hrv,hkn,hkl,rfl,rfl⟩
  have O1:=OpenD.mono hle01 O
  have hpos:0< (zJ d i).length:=zlg _ _ _ _
  rcases hka with ⟨_,_,h0,_,_⟩| ⟨bl,cc,sp,rfl,rfl,hxa,hca⟩
  ·omega
  have hE:=hsL
  try simp only[zzs] at hE
  repeat(obtain⟨hx',hE⟩:=hE)
  by_cases hi:i< (zJ d i).length
  ·repeat' first
    |with_reducible first|refine Nx.go ?_ |refine Bk.go (fun _=>?_) fun _=>?_ |refine Nb fun nb hnb hnb1 hnb2=>?_ |refine Nr fun nb nsp ncap hnb hncap hnb1 hnb2=>?_
    |simp -dsimp -implicitDefEqProofs (disch:=first|exact Kd|fail) only[go_sem,↓reduceIte,seval, -List.reduceReplicate,List.toList_toArray,hCl,hCw,hWd]
   obtain⟨f,hf⟩: ∃f,f=(zJ d i).getD i []:=⟨_,rfl⟩
   have hfi:(zJ d i)[i]=f:=by rw[hf,List.getD_eq_getElem?_getD,List.getElem?_eq_getElem hi];rfl
   have hl0:(zcM d).length=d.next.length:=by rw[zc2];omega
   have hfl:f.length=d.next.length:=by rw[←hfi];exact ziU hl0 i _ (List.getElem_mem hi)
   obtain⟨Ri,hRi⟩: ∃Ri,Ri=(zaj 0 d.next d.width.toNat f).map (zp (zJ d (i+1))):=⟨_,rfl⟩
   have hRl:Ri.length=W:=by rw[hRi,List.length_map];unfold zaj;rw[List.length_map,List.length_range,hW]
   have hfz:List.replicate W (Value.int .i64 0)=(za9 0 Ri 0).map (Value.int .i64):=by rw[←hRl,zqY]
   rw[hfz,Nat.sub_self,List.replicate_zero]
   obtain⟨br,e14⟩: ∃x,x=nb:=⟨_,rfl⟩
   subst e14
   refine Tri.loopS tok [0,1,2,4,5,6,7,8,9,10,11,12,13,14,15,24,25,26,27,51,59,60,61,74,96] (.seq .run (.seq .run (.seq (.block (.seq .run (.seq .cut .cut))) .cut))) Kk [1,2,4,5,6,7,11,12,13,14,59,60] (fun q2 G' fr H'=> ∃ (k:Nat) (vall:Value) (av:List Value) (ka tb:zb),k+q2=W∧PLe G1 G'∧zgo tb (.pointer (some ⟨bt,0,none⟩)) (zbr d i k)∧zH [] 39 1 vall (zbr d i k).length av ka∧RwB G' av (zbr d i k)∧(zbr d i k).length≤most∧H'=(b7, .cells [.pointer (some ⟨bt,0,none⟩),vall] [] 60):: (b6, .cells [.int .i64 d.label.length] [] 3):: (b2, .cells C [] 27):: (b12, .cells [.int .i64 (i:Nat)] [] 3):: (br, .cells ((za9 0 Ri k).map (Value.int .i64)) [] 3):: (b4, .cells zF [] 27):: (b11, .cells (zc d vn vl (.slice ay2 d.names.length cy2)) [] 27):: (tb++(ka++(kn++(kl++H))))∧fr=[(1, .int .i64 (most:Nat)),(2, .pointer (some ⟨b2,0,none⟩)),(4, .pointer (some ⟨b4,0,none⟩)),(5, .bool false),(6, .pointer (some ⟨b6,0,none⟩)),(7, .pointer (some ⟨b7,0,none⟩)),(11, .pointer (some ⟨b11,0,none⟩)),(12, .pointer (some ⟨b12,0,none⟩)),(13, .func (.func 45) #[] #[.pointer (some ⟨b6,0,none⟩), .pointer (some ⟨b2,0,none⟩), .pointer (some ⟨b7,0,none⟩), .pointer (some ⟨b12,0,none⟩)]),(14, .slice (some ⟨br,0,none⟩) W W),(59, .int .i64 (W:Nat)),(60, .int .i64 (k:Nat))]) (W) ?_ ?_
   ·refine Upd.leave (H':=(b7, .cells [.pointer (some ⟨bt,0,none⟩),(.slice (some ⟨bl,0,none⟩) (zJ d i).length cc)] [] 60):: (b6, .cells [.int .i64 d.label.length] [] 3):: (b2, .cells C [] 27):: (b12, .cells [.int .i64 (i:Nat)] [] 3):: (br, .cells ((za9 0 Ri 0).map (Value.int .i64)) [] 3):: (b4, .cells zF [] 27):: (b11, .cells (zc d vn vl (.slice ay2 d.names.length cy2)) [] 27):: (tb++([(bl, .cells av sp 39)]++(kn++(kl++H))))) Ks ?_
    exact⟨0,_,av,[(bl, .cells av sp 39)],tb,by omega,PLe.refl _,by rw[zeR];exact htb,by rw[zeR];exact .inr ⟨bl,cc,sp,rfl,rfl,hxa,hca⟩,by rw[zeR];exact hav,by rw[zeR];exact hlm,rfl,rfl⟩
   ·rintro q2 G2 fr H2 hle2 hsI ⟨k,vall2,av2,ka2,tb2,hkq,hle12,htb2,hka2,hav2,hl2m,rfl,rfl⟩
    have O2:=OpenD.mono (hle01.trans hle12) O
    have hpre:zJ d i <+: zbr d i k:=by have:=zjD (d:=d) (i:=i) (Nat.zero_le k);rw[zeR] at this;exact this
    have hiM:i< (zbr d i k).length:=by have:=hpre.length_le;omega
    have hget:(zbr d i k)[i]=f:=by rw[←hfi];exact(hpre.getElem hi).symm
    by_cases hkW:k<W
    ·have hms:zaz (zbr d i k) (zaB 0 d.next f k)=zbr d i (k+1):=by rw[zsK Ko,hf]
     have hpr:zbr d i (k+1) <+: zJ d (i+1):=by
      have:=zjD (d:=d) (i:=i) (show k+1≤d.width.toNat by omega)
      rw[znt hi] at this;exact this
     have hval:zp (zbr d i (k+1)) (zaB 0 d.next f k)=Ri[k]'Ko:=by
      obtain⟨r,hr⟩:=hpr
      have hmem:zaB 0 d.next f k∈zbr d i (k+1):=by rw[←hms];exact zjw _ _
      simp only[hRi,zaj,List.getElem_map,List.getElem_range]
      rw[←hr,zf6 hmem]
     repeat' first
      |with_reducible first|refine Nx.go ?_ |refine Bk.go (fun _=>?_) fun _=>?_ |refine Nb fun nb hnb hnb1 hnb2=>?_ |refine Nr fun nb nsp ncap hnb hncap hnb1 hnb2=>?_
      |simp -dsimp -implicitDefEqProofs (disch:=first|exact Kd|fail) only[go_sem,↓reduceIte,seval, -List.reduceReplicate]
     refine Tri.live [1,2,4,5,6,7,11,12,13,14,15,59,60] ?_
     refine Tri.upd (Upd.go (H':=(b7, .cells [.pointer (some ⟨bt,0,none⟩),vall2] [] 60):: (b6, .cells [.int .i64 d.label.length] [] 3):: (b2, .cells C [] 27):: (b12, .cells [.int .i64 (i:Nat)] [] 3):: (br, .cells ((za9 0 Ri k).map (Value.int .i64)) [] 3):: (tb2++(ka2++((b4, .cells zF [] 27):: (b11, .cells (zc d vn vl (.slice ay2 d.names.length cy2)) [] 27):: (kn++(kl++H)))))) Ks (Upd.now ?_))
     refine Tri.isPiece [1,1,1,1,1,1,1,0,1,0,0,1,0,0,1,1,0,1,0,0,1,1,0,0,1,0] Tryz.f21 Kk ?_
     refine Tri.onlyN (zx5 hsm hok O2 hiM Ko (by rw[hget];exact hfl) (k:=k) Ko hRl hkW Ko (by rw[hget,hms];exact hval) htb2 hka2 hav2) fun G3 l3 H3 hle3 hs3 hM=>?_
     rw[hget,hms] at hM
     obtain⟨vall3,av3,ka3,tb3,hle23,htb3,hka3,hav3,hfr,rfl⟩:=hM
     simp only[go_sem]
     refine Tri.live [1,2,4,5,6,7,11,12,13,14,59,60] ?_
     rw[hfr]
     have hp3:0< (zbr d i (k+1)).length:=by have:=(zjD (d:=d) (i:=i) (show k≤k+1 by omega)).length_le;omega
     rcases hka3 with ⟨_,_,h0,_,_⟩| ⟨bl3,cc3,sp3,rfl,rfl,hxc3,hcc3⟩
     ·omega
     refine Tri.upd (Upd.go (H':=(b7, .cells [.pointer (some ⟨bt,0,none⟩),(.slice (some ⟨bl3,0,none⟩) (zbr d i (k+1)).length cc3)] [] 60):: (b4, .cells zF [] 27):: (b6, .cells [.int .i64 d.label.length] [] 3):: (b2, .cells C [] 27):: (b12, .cells [.int .i64 (i:Nat)] [] 3):: (br, .cells ((za9 0 Ri (k+1)).map (Value.int .i64)) [] 3):: (b11, .cells (zc d vn vl (.slice ay2 d.names.length cy2)) [] 27):: (tb3++([(bl3, .cells av3 sp3 39)]++(kn++(kl++H))))) Ks (Upd.now ?_))
     refine Tri.sepT fun hs4=>?_
     have hb74:b7≠b4:=hs4.1.2.1
     have hb47:b4≠b7:=Ne.symm hb74
     have hg7:=hs4.1.1
     have hg4:=hs4.2.1.1
     clear hs4 hs3
     refine Tri.run tok [0,1,2,4,5,6,7,8,9,10,11,12,13,14,15,24,25,26,27,51,59,60,61,74,96] Kk ?_
     repeat' first
      |with_reducible first|refine Nx.go ?_ |refine Bk.go (fun _=>?_) fun _=>?_ |refine Nb fun nb hnb hnb1 hnb2=>?_ |refine Nr fun nb nsp ncap hnb hncap hnb1 hnb2=>?_
      |simp -dsimp -implicitDefEqProofs (disch:=first|exact Kd|fail) only[go_sem,↓reduceIte,seval, -List.reduceReplicate,zn,zag,zan,zaA,List.toList_toArray]
     ·rename_i hbig
      have hno: ¬(zJ d most).length≤most:=by
       have h1:=hpr.length_le
       have h2:=(zc3 d (show i+1≤most by omega)).length_le
       omega
      rw[zuK hok hno] at hR
      unfold zz
      refine Upd.leave (H':=H) Ks ?_
      exact hR G3 _ (hle01.trans (hle12.trans hle23)) (zaR _)
     ·rename_i hbig
      refine Tri.run tok [0,1,2,4,5,6,7,8,9,10,11,12,13,14,15,24,25,26,27,51,59,60,61,74,96] Kk ?_
      repeat' first
       |with_reducible first|refine Nx.go ?_ |refine Bk.go (fun _=>?_) fun _=>?_ |refine Nb fun nb hnb hnb1 hnb2=>?_ |refine Nr fun nb nsp ncap hnb hncap hnb1 hnb2=>?_
       |simp -dsimp -implicitDefEqProofs (disch:=first|exact Kd|fail) only[go_sem,↓reduceIte,seval, -List.reduceReplicate]
      refine Upd.leave (H':=(b7, .cells [.pointer (some ⟨bt,0,none⟩),(.slice (some ⟨bl3,0,none⟩) (zbr d i (k+1)).length cc3)] [] 60):: (b6, .cells [.int .i64 d.label.length] [] 3):: (b2, .cells C [] 27):: (b12, .cells [.int .i64 (i:Nat)] [] 3):: (br, .cells ((za9 0 Ri (k+1)).map (Value.int .i64)) [] 3):: (b4, .cells zF [] 27):: (b11, .cells (zc d vn vl (.slice ay2 d.names.length cy2)) [] 27):: (tb3++([(bl3, .cells av3 sp3 39)]++(kn++(kl++H))))) Ks ?_
      exact⟨q2 - 1,by omega,k+1,_,av3,[(bl3, .cells av3 sp3 39)],tb3,by omega,hle12.trans hle23,htb3, .inr ⟨bl3,cc3,sp3,rfl,rfl,hxc3,hcc3⟩,hav3,by omega,rfl,rfl⟩
    ·obtain rfl:k=W:=by omega
     repeat' first
      |with_reducible first|refine Nx.go ?_ |refine Bk.go (fun _=>?_) fun _=>?_ |refine Nb fun nb hnb hnb1 hnb2=>?_ |refine Nr fun nb nsp ncap hnb hncap hnb1 hnb2=>?_
      |simp -dsimp -implicitDefEqProofs (disch:=first|exact Kd|fail) only[go_sem,↓reduceIte,seval, -List.reduceReplicate]
     have hmid:zbr d i k=zJ d (i+1):=by rw[hW];exact znt hi
     have hfa:za9 0 Ri k=Ri:=by rw[←hRl];exact zsG 0 Ri
     rw[hmid] at htb2 hka2 hav2 hl2m
     rw[hfa] at hsI⊢
     have hget1:(zJ d (i+1))[i]'(by have:=(zc3 d (show i≤i+1 by omega)).length_le;omega)=f:=by rw[←hfi];exact((zc3 d (show i≤i+1 by omega)).getElem hi).symm
     have hlen1:=(zc3 d (show i≤i+1 by omega)).length_le
     rcases hka2 with ⟨_,_,h0,_,_⟩| ⟨bl3,cc3,sp3,rfl,rfl,hxc3,hcc3⟩
     ·omega
     -- the row is written no more
     refine Tri.upd (Upd.go (H':=(br, .cells (Ri.map (Value.int .i64)) [] 3):: (b11, .cells (zc d vn vl (.slice ay2 d.names.length cy2)) [] 27):: (kn++((b7, .cells [.pointer (some ⟨bt,0,none⟩),(.slice (some ⟨bl3,0,none⟩) (zJ d (i+1)).length cc3)] [] 60):: (b12, .cells [.int .i64 (i:Nat)] [] 3):: (bl3, .cells av2 sp3 39):: (kl++((b6, .cells [.int .i64 d.label.length] [] 3):: (b2, .cells C [] 27):: (b4, .cells zF [] 27):: (tb2++H)))))) Ks (Upd.now ?_))
     refine Tri.sepT fun hs3=>?_
     refine Tri.upd (Upd.shareRow hs3.1.1 fun G3 hle3 hs4 hr3=>?_)
     have hrv3:=(hrv.mono (hle12.trans hle3)).snoc (b:=some ⟨br,0,none⟩) (c:=k) hr3 Ko
     rw[hRl] at hrv3
     have hrs:zdA d (i+1)=zdA d i++[Ri]:=by rw[zq0 hi,hfi,hRi]
     rw[←hrs] at hrv3
     refine Tri.live [1,2,4,5,6,7,11,12,14] ?_
     refine Tri.isPiece [1,1,1,1,1,1,1,0,1,0,0,1,0,0,1,1,1,0] Tryz.f21 Kk ?_
     refine Tri.onlyN (zx2 O.ofl Ko hrv.one hkn) fun G4 l4 H4 hle4 hs5 hM=>?_
     obtain⟨vn',kn',rfl,hkn',hfr,rfl⟩:=hM
     simp only[go_sem]
     refine Tri.live [1,2,4,5,6,7,11,12] ?_
     rw[hfr]
     refine Tri.upd (Upd.go (H':=(b11, .cells (zc d vn' vl (.slice ay2 d.names.length cy2)) [] 27):: (b7, .cells [.pointer (some ⟨bt,0,none⟩),(.slice (some ⟨bl3,0,none⟩) (zJ d (i+1)).length cc3)] [] 60):: (b12, .cells [.int .i64 (i:Nat)] [] 3):: (bl3, .cells av2 sp3 39):: (kl++(kn'++((b6, .cells [.int .i64 d.label.length] [] 3):: (b2, .cells C [] 27):: (b4, .cells zF [] 27):: (tb2++H))))) Ks (Upd.now ?_))
     refine Tri.isPiece [1,1,1,1,1,1,1,0,1,0,0,1,0,0,1,1,1,1] Tryz.f21 Kk ?_
     have hll:(zcC d i).length=i:=by unfold zcC;rw[List.length_map,List.length_take];omega
     refine Tri.onlyN (zx3 O.ofl Ko hll Ko Ko (by rw[hget1];omega) (hav2.mono hle3) hkl) fun G5 l5 H5 hle5 hs6 hM=>?_
     obtain⟨vl',kl',rfl,hkl',hfr2,rfl⟩:=hM
     have hls:zcC d (i+1)=zcC d i++[(((f.headD 0).toNat:Nat):Int)]:=by rw[zq1 hi,hfi]
     rw[hget1,←hls] at hkl'
     simp only[go_sem]
     refine Tri.live [1,2,4,5,6,7,11,12] ?_
     rw[hfr2]
     refine Tri.upd (Upd.go (H':=(b12, .cells [.int .i64 (i:Nat)] [] 3):: (b7, .cells [.pointer (some ⟨bt,0,none⟩),(.slice (some ⟨bl3,0,none⟩) (zJ d (i+1)).length cc3)] [] 60):: (b6, .cells [.int .i64 d.label.length] [] 3):: (b2, .cells C [] 27):: (b4, .cells zF [] 27):: (b11, .cells (zc d vn' vl' (.slice ay2 d.names.length cy2)) [] 27):: (tb2++([(bl3, .cells av2 sp3 39)]++(kn'++(kl'++H))))) Ks (Upd.now ?_))
     refine Tri.sepT fun hs7=>?_
     have hg12:=hs7.1.1
     clear hs7 hs6 hs5 hs4 hs3
     refine Tri.run tok [0,1,2,4,5,6,7,8,9,10,11,12,13,14,15,24,25,26,27,51,59,60,61,74,96] Kk ?_
     repeat' first
      |with_reducible first|refine Nx.go ?_ |refine Bk.go (fun _=>?_) fun _=>?_ |refine Nb fun nb hnb hnb1 hnb2=>?_ |refine Nr fun nb nsp ncap hnb hncap hnb1 hnb2=>?_
      |simp -dsimp -implicitDefEqProofs (disch:=first|exact Kd|fail) only[go_sem,↓reduceIte,seval, -List.reduceReplicate]
     refine Upd.leave (H':=(b7, .cells [.pointer (some ⟨bt,0,none⟩),(.slice (some ⟨bl3,0,none⟩) (zJ d (i+1)).length cc3)] [] 60):: (b6, .cells [.int .i64 d.label.length] [] 3):: (b2, .cells C [] 27):: (b4, .cells zF [] 27):: (b11, .cells (zc d vn' vl' (.slice ay2 d.names.length cy2)) [] 27):: (nb, .cells [.int .i64 ((i:Int)+1)] [] 3):: (tb2++([(bl3, .cells av2 sp3 39)]++(kn'++(kl'++H))))) Ks ?_
     exact⟨q - 1,by omega,i+1,_,av2,[(bl3, .cells av2 sp3 39)],tb2,vn',vl',_,kn',kl',nb,by omega,hle01.trans (hle12.trans hle3),htb2, .inr ⟨bl3,cc3,sp3,rfl,rfl,hxc3,hcc3⟩,hav2.mono hle3,by omega,hl2m,hrv3,hkn',hkl',rfl,rfl⟩
  ·have hie:(zJ d i).length=i:=by omega
   have hil':i≤most:=by omega
   obtain⟨e1,e2⟩:=zsJ hie hil'
   rw[zuJ hok (by rw[e1];exact hlm),e1,e2] at hR
   have hrl:(zdA d i).length=i:=by unfold zdA;rw[List.length_map,List.length_take];omega
   have hll:(zcC d i).length=i:=by unfold zcC;rw[List.length_map,List.length_take];omega
   rcases hkn with ⟨_,_,h0,_,_⟩| ⟨bn,cn2,spn,rfl,rfl,hx1,hxc⟩
   ·omega
   rcases hkl with ⟨_,_,h0,_,_⟩| ⟨bk,ck,spk,rfl,rfl,hy,hyc⟩
   ·omega
   rw[Nat.mul_one] at hxc hx1 hyc
   rw[List.length_map] at hyc
   have hE:=hsL
   try simp only[zzs] at hE
   repeat(obtain⟨hx',hE⟩:=hE)
   repeat' first
    |with_reducible first|refine Nx.go ?_ |refine Bk.go (fun _=>?_) fun _=>?_ |refine Nb fun nb hnb hnb1 hnb2=>?_ |refine Nr fun nb nsp ncap hnb hncap hnb1 hnb2=>?_
    |simp -dsimp -implicitDefEqProofs (disch:=first|exact Kd|fail) only[go_sem,↓reduceIte,seval, -List.reduceReplicate,List.toList_toArray,hCl]
   refine Tri.run tok [0,1,2,4,5,6,7,8,9,10,11,12,13,14,15,24,25,26,27,51,59,60,61,74,96] Kk ?_
   repeat' first
    |with_reducible first|refine Nx.go ?_ |refine Bk.go (fun _=>?_) fun _=>?_ |refine Nb fun nb hnb hnb1 hnb2=>?_ |refine Nr fun nb nsp ncap hnb hncap hnb1 hnb2=>?_
    |simp -dsimp -implicitDefEqProofs (disch:=first|exact Kd|fail) only[go_sem,↓reduceIte,seval, -List.reduceReplicate,List.toList_toArray,hCl,hl2,ht2,hputz,hone,zn]
   unfold zz
   refine Upd.go (H':=(bn, .cells rv spn 24):: (bk, .cells ((zcC d i).map (Value.int .i64)) spk 3)::H) Ks ?_
   refine Upd.trans (Upd.shareRow (hsL.none (by simp [zk])) fun G5 hle5 hs9 hr5=>?_)
   refine Upd.shareRow hs9.1.1 fun G6 hle6 hs10 hr6=>?_
   have k6:=hle5.trans hle6
   have hrv6:=hrv.mono k6
   refine hR G6 _ (hle01.trans k6) ⟨O.ofl,O.ofb,_,_,_,rfl,⟨some ⟨bn,0,none⟩,cn2,rv,?_,hr5.mono hle6,hrv6.1,?_,hrv6.2⟩,⟨some ⟨bk,0,none⟩,ck,?_,hr6,?_⟩,⟨ay2,cy2,rfl,hry2.mono (hle01.trans k6),hcy2⟩⟩
   ·show _=Value.slice _ (zdA d i).length _
    rw[hrl]
   ·show(zdA d i).length≤_
    omega
   ·show _=Value.slice _ (zcC d i).length _
    rw[hll]
   ·show(zcC d i).length≤_
    omega
theorem zuL {d:DfaT} (hsm:zt d) (hok:zd d) {most:Nat} (hm1:1≤most) (hm2:most≤65536) {G:za} {H:zb} {R:Value→za→zb→Prop} {v:Value} (hv:IsD G d v)
  (hR: ∀G' v',PLe G G'→Sep G' (zk H)→IsD G' (zV d most).1 v'→R (.tuple #[v', .bool (zV d most).2]) G' H):FnT Tryz.prog 21 [v, .int .i64 (most:Nat)] G H R:=by
 obtain⟨C,an,al,ay,cn,cl,cs,rs,rfl,O⟩:=hv.opened
 obtain⟨hs1,hs2,hs3,hs4,hs5⟩:=id hsm
 obtain⟨hk1,hk2,hk3,hk4,hk5,hk6,hk7⟩:=id hok
 have hCl:=O.len
 have hCa:=O.all
 have hCw:=O.w
 have hCn:=O.n
 have hCx:=O.l
 have hCs:=O.s
 have hCo:=O.of
 have hadl:Adr al:=O.rl.adr (by rw[List.length_map];omega)
 have hfz:List.replicate d.label.length (Value.int .u8 0)=(zcj (zcM d) 0).map z7:=by rw[←zc2,zkv]
 refine FnT.sep ?_
 refine FnT.bodyS tok [0,1,2,4,5,6,7,8,9,10,11,12,13,14,15,24,25,26,27,51,59,60,61,74,96] (.seq .run (.seq .run (.seq .run (.seq .run (.seq .run (.seq .run (.seq .cut .cut))))))) Tryz.func21 rfl Kk Kk (by show _≤98;simp) fun hsep=>?_
 rw[Tryz.results21]
 have hE:=hsep
 try simp only[zzs] at hE
 repeat(obtain⟨hx',hE⟩:=hE)
 repeat' first
  |with_reducible first|refine Nx.go ?_ |refine Bk.go (fun _=>?_) fun _=>?_ |refine Nb fun nb hnb hnb1 hnb2=>?_ |refine Nr fun nb nsp ncap hnb hncap hnb1 hnb2=>?_
  |simp -dsimp -implicitDefEqProofs (disch:=first|exact Kd|fail) only[go_sem,↓reduceIte,seval, -List.reduceReplicate,List.toList_toArray,hCl,hCa,hCx]
 rename_i b2 z1 z2 z3 b4 z4 z5 z6
 obtain⟨b6,e60⟩: ∃x,x=nb:=⟨_,rfl⟩
 subst e60
 refine FnT.sep (FnT.upd (zw9 fun tb pt hst htb=>?_))
 obtain⟨_,bt,bm,vk,kb,rfl,_,_⟩:=id htb
 have hz:List.replicate 256 (Value.int .u8 0)++[Value.int .i64 0,Value.slice none 0 0,Value.slice none 0 0,Value.slice none 0 0]=zF:=rfl
 rw[hz]
 refine Upd.go (H':=(b6, .cells [.int .i64 d.label.length] [] 3):: (b4, .cells zF [] 27):: (b2, .cells C [] 27):: (tb++H)) Ks (Upd.now fun _ hs2=>?_)
 have hE:=hs2
 try simp only[zzs] at hE
 repeat(obtain⟨hx',hE⟩:=hE)
 repeat' first
  |with_reducible first|refine Nx.go ?_ |refine Bk.go (fun _=>?_) fun _=>?_ |refine Nb fun nb hnb hnb1 hnb2=>?_ |refine Nr fun nb nsp ncap hnb hncap hnb1 hnb2=>?_
  |simp -dsimp -implicitDefEqProofs (disch:=first|exact Kd|fail) only[go_sem,↓reduceIte,seval, -List.reduceReplicate,List.toList_toArray,hCl,hCa,hCx,hfz,Nat.sub_self,List.replicate_zero]
 rename_i b7 y1 y2 y3
 obtain⟨bf,e80⟩: ∃x,x=nb:=⟨_,rfl⟩
 subst e80
 refine Tri.loopU tok [0,1,2,4,5,6,7,8,9,10,11,12,13,14,15,24,25,26,27,51,59,60,61,74,96] Kk [1,2,4,5,6,7,8,24,25,26] (fun q G' fr H'=> ∃s:Nat,s+q=d.label.length∧G'=G∧H'=(bf, .cells ((zcj (zcM d) s).map z7) [] 5):: (b7, .cells [.pointer (some ⟨bt,0,none⟩), .slice none 0 0] [] 60):: (b6, .cells [.int .i64 d.label.length] [] 3):: (b4, .cells zF [] 27):: (b2, .cells C [] 27):: (tb++H)∧fr=[(1, .int .i64 (most:Nat)),(2, .pointer (some ⟨b2,0,none⟩)),(4, .pointer (some ⟨b4,0,none⟩)),(5, .bool false),(6, .pointer (some ⟨b6,0,none⟩)),(7, .pointer (some ⟨b7,0,none⟩)),(8, .slice (some ⟨bf,0,none⟩) d.label.length d.label.length),(24, .slice al d.label.length cl),(25, .int .i64 d.label.length),(26, .int .i64 (s:Nat))]) (d.label.length) ?_ ?_
 ·exact Upd.now ⟨0,by omega,rfl,rfl,rfl⟩
 ·rintro q G1 fr H1 hle1 hs3 ⟨s,hsq,rfl,rfl,rfl⟩
  have hE:=hs3
  try simp only[zzs] at hE
  repeat(obtain⟨hx',hE⟩:=hE)
  by_cases hsl:s<d.label.length
  ·have hlb:=zws hok hsl
   have hsb:s< (zcM d).length:=by rw[zc2];exact hsl
   have hb256:=(zcM d)[s].toNat_lt
   have hput:=zlM (B:=zcM d) hsb
   have hfL:(zcj (zcM d) s).length=d.label.length:=by rw[zlK _ Ko,zc2]
   repeat' first
    |with_reducible first|refine Nx.go ?_ |refine Bk.go (fun _=>?_) fun _=>?_ |refine Nb fun nb hnb hnb1 hnb2=>?_ |refine Nr fun nb nsp ncap hnb hncap hnb1 hnb2=>?_
    |simp -dsimp -implicitDefEqProofs (disch:=first|exact Kd|fail) only[go_sem,↓reduceIte,seval, -List.reduceReplicate,List.toList_toArray,hCl,hCx,Row.obj O.rl,List.getElem_map,hlb,hput,hfL,List.length_map]
   exact Upd.now ⟨q - 1,by omega,s+1,by omega,rfl,rfl,rfl⟩
  ·obtain rfl:s=d.label.length:=by omega
   have hfa:zcj (zcM d) d.label.length=zcM d:=by rw[←zc2,zlL]
   rw[hfa]
   repeat' first
    |with_reducible first|refine Nx.go ?_ |refine Bk.go (fun _=>?_) fun _=>?_ |refine Nb fun nb hnb hnb1 hnb2=>?_ |refine Nr fun nb nsp ncap hnb hncap hnb1 hnb2=>?_
    |simp -dsimp -implicitDefEqProofs (disch:=first|exact Kd|fail) only[go_sem,↓reduceIte,seval, -List.reduceReplicate,List.toList_toArray,hCl,hCx]
   refine FnT.pre zim (Upd.go (H':=(bf, .cells ((zcM d).map z7) [] 5):: (b7, .cells [.pointer (some ⟨bt,0,none⟩), .slice none 0 0] [] 60):: (tb++([]++((b6, .cells [.int .i64 d.label.length] [] 3):: (b4, .cells zF [] 27):: (b2, .cells C [] 27)::H)))) Ks (Upd.shareRow Ka fun G2 hle2 hs4 hr2=>?_))
   have hll:=zc2 d
   refine zlJ (ks:=[]) Ko Ko hll.symm htb (Nat.zero_le _) hr2 Ko (.inl ⟨none,rfl,rfl,rfl,rfl⟩) (RwB.nil _) fun tb1 vall1 av1 ka1 hs5 htb1 hka1 hav1=>?_
   have hmet:(zdm [] (zcM d)).1=zJ d 0:=rfl
   rw[hmet] at htb1 hka1 hav1
   have hE:=hs5
   try simp only[zzs] at hE
   repeat(obtain⟨hx',hE⟩:=hE)
   repeat' first
    |with_reducible first|refine Nx.go ?_ |refine Bk.go (fun _=>?_) fun _=>?_ |refine Nb fun nb hnb hnb1 hnb2=>?_ |refine Nr fun nb nsp ncap hnb hncap hnb1 hnb2=>?_
    |simp -dsimp -implicitDefEqProofs (disch:=first|exact Kd|fail) only[go_sem,↓reduceIte,seval, -List.reduceReplicate,List.toList_toArray,hCl,hCx]
   refine Tri.live [1,2,4,5,6,7] ?_
   refine Tri.upd (Upd.go (H':=(b2, .cells C [] 27):: ((b7, .cells [.pointer (some ⟨bt,0,none⟩),vall1] [] 60):: (b6, .cells [.int .i64 d.label.length] [] 3):: (b4, .cells zF [] 27):: (tb1++(ka1++H)))) Ks (Upd.now ?_))
   refine Tri.isPiece [1,1,1,1,1,1,0] Tryz.f21 Kk ?_
   refine Tri.onlyN (zx4 hsm (O.mono hle2)) fun G3 l3 H3 hle3 hs6 hM=>?_
   obtain⟨b11,vs,hle4,hvs,hfr,rfl⟩:=hM
   simp only[go_sem]
   refine Tri.live [1,2,4,5,6,7,11] ?_
   rw[hfr]
   refine Tri.upd (Upd.go (H':=(b7, .cells [.pointer (some ⟨bt,0,none⟩),vall1] [] 60):: (b6, .cells [.int .i64 d.label.length] [] 3):: (b2, .cells C [] 27):: (b4, .cells zF [] 27):: (b11, .cells (zc d (.slice none 0 0) (.slice none 0 0) vs) [] 27):: (tb1++(ka1++H))) Ks (Upd.now ?_))
   refine Tri.isPiece [1,1,1,1,1,1,1] Tryz.f21 Kk ?_
   refine zyR hsm hok hm1 hm2 (O.mono (hle2.trans hle4)) hvs htb1 hka1 (hav1.mono hle4) ?_
   exact fun G' v' hle hI _ hs=>hR G' v' ((hle2.trans hle4).trans hle) hs hI
end Go.Proofs.YtefkpedhbijhkaaGreatDoor
namespace Go.Proofs.YtefkpedhbijhkaaGreatDoor
open Go Go.V Go.Proofs
noncomputable def zbO (d:DfaT) (most:Int):Int:=haveI:=Classical.propDecidable;if zd d then if 1≤most∧most≤65536 then 0 else 1 else 6
theorem zho {d:DfaT} {most:Int} (h: ¬zd d):zbO d most=6:=by unfold zbO;rw[if_neg h]
theorem zhp {d:DfaT} {most:Int} (h:zd d) (h2: ¬(1≤most∧most≤65536)):zbO d most=1:=by unfold zbO;rw[if_pos h,if_neg h2]
theorem zeS {d:DfaT} {most:Int} (h:zd d) (h2:1≤most∧most≤65536):zbO d most=0:=by unfold zbO;rw[if_pos h,if_pos h2]
noncomputable def zao (d:DfaT) (most:Int):DfaT×Int:=haveI:=Classical.propDecidable
 if zd d then if 1≤most∧most≤65536 then if (zV d most.toNat).2=true then((zV d most.toNat).1,0) else(zal,7) else(zal,1) else(zal,6)
theorem zuM {d:DfaT} {most:Int} (h: ¬zd d):zao d most=(zal,6):=by unfold zao;rw[if_neg h]
theorem znu {d:DfaT} {most:Int} (h:zd d) (h2: ¬(1≤most∧most≤65536)):zao d most=(zal,1):=by unfold zao;rw[if_pos h,if_neg h2]
theorem zjE {d:DfaT} {most:Int} (h:zd d) (h2:1≤most∧most≤65536) (h3:(zV d most.toNat).2=false):zao d most=(zal,7):=by unfold zao;rw[if_pos h,if_pos h2,if_neg (by rw[h3];exact Bool.false_ne_true)]
theorem zej {d:DfaT} {most:Int} (h:zd d) (h2:1≤most∧most≤65536) (h3:(zV d most.toNat).2=true):zao d most=((zV d most.toNat).1,0):=by unfold zao;rw[if_pos h,if_pos h2,if_pos h3]
theorem zgJ {d:DfaT} (hsm:zt d) {most:Int} (hm: -9223372036854775808≤most∧most<9223372036854775808) {G:za} {H:zb} {R:Value→za→zb→Prop} {v:Value} (hv:IsD G d v)
  (hR:R (.int .i64 (zbO d most)) G H):FnT Tryz.prog 20 [v, .int .i64 most] G H R:=by
 obtain⟨C,an,al,ay,cn,cl,cs,rs,rfl,O⟩:=hv.opened
 have hCl:=O.len
 have hCa:=O.all
 by_cases hok:zd d
 ·have hb:=zG hok
  by_cases h1:1≤most
  ·by_cases h2:most≤65536
   ·rw[zeS hok ⟨h1,h2⟩] at hR
    refine FnT.body tok [0,1,2,4,5,9] Tryz.func20 rfl Kk Kk (by show _≤16;simp) fun hsep=>?_
    rw[Tryz.results20]
    have hE:=hsep
    try simp only[zzs] at hE
    repeat(obtain⟨hx',hE⟩:=hE)
    repeat' first
     |with_reducible first|refine Nx.go ?_ |refine Bk.go (fun _=>?_) fun _=>?_ |refine Nb fun nb hnb hnb1 hnb2=>?_
     |simp -dsimp -implicitDefEqProofs (disch:=first|exact Kd|fail) only[go_sem,↓reduceIte,seval, -List.reduceReplicate,List.toList_toArray,hCl,hCa,hb]
     |with_reducible refine zav hsm O.is ?_
    all_goals try(exfalso;omega)
    all_goals refine Upd.finL ?_ hR ?_
    any_goals first|exact Ks|skip
    all_goals rfl
   ·rw[zhp hok (fun h=>h2 h.2)] at hR
    refine FnT.body tok [0,1,2,4,5,9] Tryz.func20 rfl Kk Kk (by show _≤16;simp) fun hsep=>?_
    rw[Tryz.results20]
    have hE:=hsep
    try simp only[zzs] at hE
    repeat(obtain⟨hx',hE⟩:=hE)
    repeat' first
     |with_reducible first|refine Nx.go ?_ |refine Bk.go (fun _=>?_) fun _=>?_ |refine Nb fun nb hnb hnb1 hnb2=>?_
     |simp -dsimp -implicitDefEqProofs (disch:=first|exact Kd|fail) only[go_sem,↓reduceIte,seval, -List.reduceReplicate,List.toList_toArray,hCl,hCa,hb]
     |with_reducible refine zav hsm O.is ?_
    all_goals try(exfalso;omega)
    all_goals refine Upd.finL ?_ hR ?_
    any_goals first|exact Ks|skip
    all_goals rfl
  ·rw[zhp hok (fun h=>h1 h.1)] at hR
   refine FnT.body tok [0,1,2,4,5,9] Tryz.func20 rfl Kk Kk (by show _≤16;simp) fun hsep=>?_
   rw[Tryz.results20]
   have hE:=hsep
   try simp only[zzs] at hE
   repeat(obtain⟨hx',hE⟩:=hE)
   repeat' first
    |with_reducible first|refine Nx.go ?_ |refine Bk.go (fun _=>?_) fun _=>?_ |refine Nb fun nb hnb hnb1 hnb2=>?_
    |simp -dsimp -implicitDefEqProofs (disch:=first|exact Kd|fail) only[go_sem,↓reduceIte,seval, -List.reduceReplicate,List.toList_toArray,hCl,hCa,hb]
    |with_reducible refine zav hsm O.is ?_
   all_goals try(exfalso;omega)
   all_goals refine Upd.finL ?_ hR ?_
   any_goals first|exact Ks|skip
   all_goals rfl
 ·have hb:=zB hok
  rw[zho hok] at hR
  refine FnT.body tok [0,1,2,4,5,9] Tryz.func20 rfl Kk Kk (by show _≤16;simp) fun hsep=>?_
  rw[Tryz.results20]
  have hE:=hsep
  try simp only[zzs] at hE
  repeat(obtain⟨hx',hE⟩:=hE)
  repeat' first
   |with_reducible first|refine Nx.go ?_ |refine Bk.go (fun _=>?_) fun _=>?_ |refine Nb fun nb hnb hnb1 hnb2=>?_
   |simp -dsimp -implicitDefEqProofs (disch:=first|exact Kd|fail) only[go_sem,↓reduceIte,seval, -List.reduceReplicate,List.toList_toArray,hCl,hCa,hb]
   |with_reducible refine zav hsm O.is ?_
  all_goals refine Upd.finL ?_ hR ?_
  any_goals first|exact Ks|skip
  all_goals rfl
theorem zkB {d:DfaT} (hsm:zt d) {most:Int} (hm: -9223372036854775808≤most∧most<9223372036854775808) {G:za} {H:zb} {R:Value→za→zb→Prop} {v:Value} (hv:IsD G d v)
  (hR: ∀G' v',PLe G G'→Sep G' (zk H)→IsD G' (zao d most).1 v'→R (.tuple #[v', .int .i64 (zao d most).2]) G' H):FnT Tryz.prog 8 [v, .int .i64 most] G H R:=by
 obtain⟨C,an,al,ay,cn,cl,cs,rs,rfl,O⟩:=hv.opened
 have hCl:=O.len
 have hCa:=O.all
 refine FnT.sep ?_
 by_cases hok:zd d
 ·by_cases h1:1≤most∧most≤65536
  ·have hw:=zeS hok h1
   obtain⟨m,rfl⟩:=Int.eq_ofNat_of_zero_le (show 0≤most by omega)
   refine FnT.body tok [0,1,2,4,5,6,7,8,13,23] Tryz.func8 rfl Kk Kk (by show _≤26;simp) fun hsep=>?_
   rw[Tryz.results8]
   have hE:=hsep
   try simp only[zzs] at hE
   repeat(obtain⟨hx',hE⟩:=hE)
   repeat' first
    |with_reducible first|refine Nx.go ?_ |refine Bk.go (fun _=>?_) fun _=>?_ |refine Nb fun nb hnb hnb1 hnb2=>?_ |refine Nr fun nb nsp ncap hnb hncap hnb1 hnb2=>?_
    |simp -dsimp -implicitDefEqProofs (disch:=first|exact Kd|fail) only[go_sem,↓reduceIte,seval, -List.reduceReplicate,List.toList_toArray,hCl,hCa,hw]
    |with_reducible refine zgJ hsm hm O.is ?_
   rename_i b2 z1 z2 z3
   obtain⟨b4,e40⟩: ∃x,x=nb:=⟨_,rfl⟩
   subst e40
   refine zuL hsm hok Ko Ko O.is fun G1 v1 hle1 hs1 hI1=>?_
   obtain⟨C1,an1,al1,ay1,cn1,cl1,cs1,rs1,rfl,O1⟩:=hI1.opened
   have hC1l:=O1.len
   have hone1:=zaW O1.is
   have hput1:=zbj hC1l
   have htk1:List.take 260 C1=C1:=List.take_of_length_le Ko
   have hE:=hs1
   try simp only[zzs] at hE
   repeat(obtain⟨hx',hE⟩:=hE)
   cases ht:(zV d m).2 with
   |true=>
    rw[zej hok h1 ht] at hR
    repeat' first
     |with_reducible first|refine Nx.go ?_ |refine Bk.go (fun _=>?_) fun _=>?_ |refine Nb fun nb hnb hnb1 hnb2=>?_ |refine Nr fun nb nsp ncap hnb hncap hnb1 hnb2=>?_
     |simp -dsimp -implicitDefEqProofs (disch:=first|exact Kd|fail) only[go_sem,↓reduceIte,seval, -List.reduceReplicate,List.toList_toArray,hCl,hCa,hC1l,hone1,hput1,htk1,zn]
    unfold zz
    refine Upd.leave (H':=H) Ks ?_
    exact fun _ hs=>hR G1 _ hle1 hs O1.is
   |false=>
    rw[zjE hok h1 ht] at hR
    repeat' first
     |with_reducible first|refine Nx.go ?_ |refine Bk.go (fun _=>?_) fun _=>?_ |refine Nb fun nb hnb hnb1 hnb2=>?_ |refine Nr fun nb nsp ncap hnb hncap hnb1 hnb2=>?_
     |simp -dsimp -implicitDefEqProofs (disch:=first|exact Kd|fail) only[go_sem,↓reduceIte,seval, -List.reduceReplicate,List.toList_toArray,hCl,hCa,hC1l,hone1,hput1,htk1,zn,zag,zan,zaA]
    unfold zz
    refine Upd.leave (H':=H) Ks ?_
    exact fun _ hs=>hR G1 _ hle1 hs (zaR _)
  ·have hw:=zhp hok h1
   rw[znu hok h1] at hR
   refine FnT.body tok [0,1,2,4,5,6,7,8,13,23] Tryz.func8 rfl Kk Kk (by show _≤26;simp) fun hsep=>?_
   rw[Tryz.results8]
   have hE:=hsep
   try simp only[zzs] at hE
   repeat(obtain⟨hx',hE⟩:=hE)
   repeat' first
    |with_reducible first|refine Nx.go ?_ |refine Bk.go (fun _=>?_) fun _=>?_ |refine Nb fun nb hnb hnb1 hnb2=>?_ |refine Nr fun nb nsp ncap hnb hncap hnb1 hnb2=>?_
    |simp -dsimp -implicitDefEqProofs (disch:=first|exact Kd|fail) only[go_sem,↓reduceIte,seval, -List.reduceReplicate,List.toList_toArray,hCl,hCa,hw,zn,zag,zan,zaA]
    |with_reducible refine zgJ hsm hm O.is ?_
   unfold zz
   refine Upd.leave (H':=H) Ks ?_
   exact fun _ hs=>hR G _ (PLe.refl _) hs (zaR _)
 ·have hw:=zho (most:=most) hok
  rw[zuM hok] at hR
  refine FnT.body tok [0,1,2,4,5,6,7,8,13,23] Tryz.func8 rfl Kk Kk (by show _≤26;simp) fun hsep=>?_
  rw[Tryz.results8]
  have hE:=hsep
  try simp only[zzs] at hE
  repeat(obtain⟨hx',hE⟩:=hE)
  repeat' first
   |with_reducible first|refine Nx.go ?_ |refine Bk.go (fun _=>?_) fun _=>?_ |refine Nb fun nb hnb hnb1 hnb2=>?_ |refine Nr fun nb nsp ncap hnb hncap hnb1 hnb2=>?_
   |simp -dsimp -implicitDefEqProofs (disch:=first|exact Kd|fail) only[go_sem,↓reduceIte,seval, -List.reduceReplicate,List.toList_toArray,hCl,hCa,hw,zn,zag,zan,zaA]
   |with_reducible refine zgJ hsm hm O.is ?_
  unfold zz
  refine Upd.leave (H':=H) Ks ?_
  exact fun _ hs=>hR G _ (PLe.refl _) hs (zaR _)
def zjF (xs L:List UInt8) (i:Nat):Prop:= ∃h:L.length=xs.length,∀p (hp:p<xs.length),L[p]'(by rw[h];exact hp)=if p<i∨xs.length≤p+i then xs[xs.length - 1 - p]'Ko else xs[p]
theorem zjF.zero (xs:List UInt8):zjF xs xs 0:=⟨rfl,fun p hp=>by rw[if_neg Ko]⟩
theorem zjF.done {xs L:List UInt8} {i:Nat} (h:zjF xs L i) (hi:xs.length≤2 * i+1):L=xs.reverse:=by
 obtain⟨hl,hp⟩:=h
 apply List.ext_getElem
 ·rw[hl,List.length_reverse]
 ·intro p h1 h2
  rw[hp p Ko,List.getElem_reverse]
  by_cases hc:p<i∨xs.length≤p+i
  ·rw[if_pos hc]
  ·rw[if_neg hc]
   congr 1
   omega
theorem zjF.step {xs L:List UInt8} {i:Nat} (h:zjF xs L i) (hi:2 * i+1<xs.length):zjF xs ((L.set i (L[xs.length - 1 - i]'(by obtain⟨hl,_⟩:=h;omega))).set (xs.length - 1 - i) (L[i]'(by obtain⟨hl,_⟩:=h;omega))) (i+1):=by
 obtain⟨hl,hp⟩:=h
 refine⟨by rw[List.length_set,List.length_set,hl],fun p hpl=>?_⟩
 rw[List.getElem_set,List.getElem_set]
 by_cases e1:xs.length - 1 - i=p
 ·rw[if_pos e1,hp i Ko,if_neg Ko,if_pos Ko]
  congr 1
  omega
 ·rw[if_neg e1]
  by_cases e2:i=p
  ·rw[if_pos e2,hp (xs.length - 1 - i) Ko,if_neg Ko,if_pos Ko]
   congr 1
   omega
  ·rw[if_neg e2,hp p hpl]
   by_cases hc:p<i∨xs.length≤p+i
   ·rw[if_pos hc,if_pos Ko]
   ·rw[if_neg hc,if_neg Ko]
end Go.Proofs.YtefkpedhbijhkaaGreatDoor
namespace Go.Proofs.YtefkpedhbijhkaaGreatDoor
open Go Go.V Go.Proofs
end Go.Proofs.YtefkpedhbijhkaaGreatDoor
namespace Go.Proofs.YtefkpedhbijhkaaGreatDoor
open Go Go.V Go.Proofs
theorem FnT.apart {f:FuncId} {fn:Func} {tS tR e e1:TypeId} (hf:(Tryz.prog).funcs[f]? =some fn) (hname:(fn.name== "runtime.NumGoroutine")=false) (hb:fn.body.isNone=true) (hn:Extern.findNext fn=none) (he:Extern.find fn=some (Extern.SlicesOverlaps.overlaps #[tS,tS] #[tR])) (hk:(T tS).k= .slice e) (hk2:(T e).k≠ .none)
  {a b la ca lb cb o:Nat} {xs sp ys sp':List Value} {e2:TypeId} {G:za} {H:zb} {R:Value→za→zb→Prop} (ha:zq H a=some (.cells xs sp e1)) (h5:e1≠5) (hbb:zq H b=some (.cells ys sp' e2)) (hne:a≠b) (hl:ys.length+sp'.length≠0) (hR:R (.bool false) G H):
  FnT Tryz.prog f [.slice (some ⟨a,0,none⟩) la ca, .slice (some ⟨b,o,none⟩) lb cb] G H R:=by
 refine FnT.ext (v:= .bool false) (fun E w hw=>?_) hR
 obtain⟨d,hd,hfit⟩:=tok.und hk (by simp)
 simp only[TK.fits] at hfit
 subst hfit
 obtain⟨i,z,hi,hs,_⟩:=tok.info hk2
 obtain⟨o1,ho1,fr1,rfl,hm1⟩:=hw.find ha
 obtain⟨o2,ho2,fr2,rfl,hm2⟩:=hw.find hbb
 have hfr:fr1=(0,0):=by
  rcases hm1 with h| ⟨_,h⟩
  ·exact h
  ·exact absurd h h5
 subst hfr
 have key:=Lib.run_overlaps_apart (P:=Tryz.prog) w tS tR e hd ((Tryz.prog).cellsOf e) (fun w=>run_sizeOf w hi) ⟨a,0,none⟩ ⟨b,o,none⟩ la ca lb cb hne e1 e2 (xs++sp).length (ys++sp').length (by simp [World.shape?,ho1]) (by simp [World.shape?,ho2]) (by simpa using hl) (by simp [World.frozen?,ho1]) (by simp [World.frozen?,ho1])
 have h1:=run_callFunc_extern hf hname hb hn he #[.slice (some ⟨a,0,none⟩) la ca, .slice (some ⟨b,o,none⟩) lb cb] w
 exact h1.trans (by rw[key];rfl)
end Go.Proofs.YtefkpedhbijhkaaGreatDoor
namespace Go.Proofs.YtefkpedhbijhkaaGreatDoor
open Go Go.V Go.Proofs
theorem zsL {d:DfaT} (hok:zd d):zbi d (fun s=>zp d.names s+1)=d.label:=by
 obtain⟨hk1,hk2,hk3,hk4,hk5,hk6,hk7⟩:=id hok
 unfold zbi
 conv=>rhs;rw[←List.map_id d.label]
 refine List.map_congr_left fun k hk=>?_
 obtain⟨i,hi,rfl⟩:=List.getElem_of_mem hk
 obtain⟨_,w2,w3,_⟩:=hk7 i Ko hi
 by_cases h0:0<d.label[i]
 ·rw[if_pos h0]
  obtain⟨n,hn⟩: ∃n:Nat,d.label[i]=(n:Int)+1:=⟨(d.label[i] - 1).toNat,by omega⟩
  have hnl2:n<d.names.length:=by omega
  rw[hn,zdK hnl2]
  show zp d.names d.names[n]+1=(n:Int)+1
  rw[zx (zbX (zgu hok) hnl2)]
 ·rw[if_neg h0]
  show 0=d.label[i]
  omega
theorem zq2 {d:DfaT} (hok:zd d):zeD d d.names (fun s=>zp d.names s+1)=d:=by
 unfold zeD
 rw[zsL hok]
end Go.Proofs.YtefkpedhbijhkaaGreatDoor
namespace Go.Proofs.YtefkpedhbijhkaaGreatDoor
open Go Go.V Go.Proofs
end Go.Proofs.YtefkpedhbijhkaaGreatDoor
namespace Go.Proofs.YtefkpedhbijhkaaGreatDoor
open Go Go.V Go.Proofs
theorem zcc:zt zal:=by
 refine⟨Nat.zero_le _,?_,Nat.zero_le _,Nat.zero_le _,?_⟩
 ·intro r hr;cases hr
 ·intro r hr;cases hr
theorem znv {d:DfaT} (hsm:zt d) {l:List Tx} (h1:l.length≤2000000) (h2: ∀s∈l,s.length≤2000000):zt (zbN d l).1:=by
 unfold zbN
 split
 ·split
  ·split
   ·exact zoT hsm h1 h2 _
   ·exact zcc
  ·exact zcc
 ·exact zcc
theorem zgx {d:DfaT} (hsm:zt d):zt (zeE d).1:=znv hsm (zgv hsm).1 (zgv hsm).2
theorem zuN {l:List Tx} (h1:l.length≤64) (h2:l.Nodup) (h3: ∀s∈l,zdx s=true):zaZ l:=by
 refine⟨h1,fun i hi=>⟨h3 _ (List.getElem_mem hi),fun hm=>?_⟩⟩
 rw[List.mem_take_iff_getElem] at hm
 obtain⟨j,hj,e⟩:=hm
 have:=(List.getElem_inj h2).1 e
 omega
theorem zq3 {l:List Tx} (h:zaZ l) {s:Tx} (hs:s∈l):zdx s=true:=by
 obtain⟨i,hi,rfl⟩:=List.getElem_of_mem hs
 exact(h.2 i hi).1
theorem zq4 {d:DfaT} (hok:zd d) {s:Tx} (h:s∈zau d):s∈d.names:=zlP (by rw[zhk hok];exact h)
theorem zin {d:DfaT} (hok:zd d):zcG (zau d):=by
 rw[←zpt hok]
 exact zdy d _ (Nat.le_refl _)
theorem zgy {d:DfaT} (hok:zd d):zaZ (zau d):=by
 have h6:=hok.2.2.2.2.2.1
 have:=zij d
 exact zuN (by have:=h6.1;omega) (zin hok).nodup fun s hs=>zq3 h6 (zq4 hok hs)
def other:Tx:=[111,116,104,101,114]
theorem zlS {d:DfaT} (hok:zd d) {i:Nat} (hi:i<d.label.length) (h0:0<d.label[i]):zaU d d.label[i]∈d.names:=by
 obtain⟨hk1,hk2,hk3,hk4,hk5,hk6,hk7⟩:=hok
 obtain⟨_,w2,w3,_⟩:=hk7 i Ko hi
 obtain⟨n,hn⟩: ∃n:Nat,d.label[i]=(n:Int)+1:=⟨(d.label[i] - 1).toNat,by omega⟩
 have hnl2:n<d.names.length:=by omega
 rw[hn,zdK hnl2]
 exact List.getElem_mem hnl2
theorem zoV {d:DfaT} (hok:zd d) {l:List Tx} (hl:zaZ l) {g:Tx→Int} (hg: ∀s∈d.names,0≤g s∧g s≤l.length):zd (zeD d l g):=by
 obtain⟨hk1,hk2,hk3,hk4,hk5,hk6,hk7⟩:=id hok
 have hll:(zeD d l g).label.length=d.label.length:=zdL d g
 refine⟨by rw[hll];exact hk1,by rw[hll];exact hk2,by rw[hll];exact hk3,hk4,hk5,hl,fun s h1 h2=>?_⟩
 have h1:s<d.next.length:=h1
 have h2':s<d.label.length:=by rw[hll] at h2;exact h2
 obtain⟨w1,w2,w3,w4⟩:=hk7 s h1 h2'
 have hlab:(zeD d l g).label[s]'h2=if 0<d.label[s] then g (zaU d d.label[s]) else 0:=by
  show(zbi d g)[s]'_=_
  simp only[zbi,List.getElem_map]
 refine⟨w1,?_,?_,fun t ht=>?_⟩
 ·rw[hlab]
  split
  ·rename_i h0;exact(hg _ (zlS hok h2' h0)).1
  ·exact Int.le_refl 0
 ·rw[hlab]
  show _≤((l.length:Nat):Int)
  split
  ·rename_i h0;exact(hg _ (zlS hok h2' h0)).2
  ·omega
 ·have:=w4 t ht
  rw[hll];exact this
theorem zsM (d:DfaT) (l:List Tx) (g:Tx→Int) (w:List UInt8):zaI (zeD d l g) w=zaI d w:=rfl
theorem zuO {d:DfaT} (hok:zd d) (hof:d.of.length=256) (w:List UInt8): ∃i,∃h:i<d.label.length,zac d w=d.label[i]∧zaI d w=(i:Int):=by
 obtain⟨h1,h2⟩:=zbT hok hof w
 obtain⟨i,hi⟩:=Int.eq_ofNat_of_zero_le h1
 rw[hi] at h2
 refine⟨i,by omega,?_,hi⟩
 unfold zac
 rw[hi,zX (by simpa using h2)]
 rfl
theorem zq5 {d:DfaT} (hok:zd d) (hof:d.of.length=256) (l:List Tx) (g:Tx→Int) (w:List UInt8):zac (zeD d l g) w=if 0<zac d w then g (zaU d (zac d w)) else 0:=by
 obtain⟨i,hi,e1,e2⟩:=zuO hok hof w
 rw[e1]
 unfold zac
 rw[zsM,e2]
 show atL (zbi d g) i=_
 rw[zX (by rw[zdL];simpa using hi)]
 unfold zbi
 rw[List.getElem_map]
 rfl
theorem zoW (l:List Tx) (s:Tx):0≤zp l s+1∧zp l s+1≤l.length:=by
 cases hp:place l s with
 |none=>rw[zdc hp];omega
 |some n=>
  have:=(zR hp).1
  rw[zx hp];omega
theorem zjh {d:DfaT} (hok:zd d) {l:List Tx} (hl:zaZ l):zd (zdf d l):=zoV hok hl fun s _=>zoW l s
theorem zd3 {d:DfaT} (hok:zd d):zeE d=(zdf d (zau d),0):=by
 unfold zeE
 rw[zhk hok,zlR hok (zgy hok) fun s h=>h]
end Go.Proofs.YtefkpedhbijhkaaGreatDoor
namespace Go.Proofs.YtefkpedhbijhkaaGreatDoor
open Go Go.V Go.Proofs
theorem zoX:V.Callee Tryz.prog 90:=⟨_,_,Tryz.func90,rfl,by kernel_rfl⟩
def zcn (n:Nat) (W:List Int):List Value:=zdl n fun t=>decide ((t:Int)∈W)
theorem znw (n:Nat) (W:List Int):(zcn n W).length=n:=zcU _ _
theorem znx {n:Nat} {W:List Int} {t:Nat} (h:t<n):zi (zcn n W) t [.bool true]=zcn n (add1 W t):=by
 unfold zcn
 rw[zuo _ h]
 refine zkr fun j hj=>?_
 rw[Bool.eq_iff_iff]
 split
 ·rename_i e;subst e;simp [zee]
 ·rename_i e
  rw[decide_eq_true_eq,decide_eq_true_eq,zee]
  constructor
  ·exact .inl
  ·rintro(h1|h1)
   ·exact h1
   ·omega
theorem zuP {n:Nat} {W:List Int} {t:Nat} (h:t<n):(zcn n W)[t]? =some (.bool (decide ((t:Int)∈W))):=by unfold zcn;rw[rowV_get? _ h]
theorem zsN (n:Nat):zcn n []=List.replicate n (.bool false):=by
 unfold zcn zdl
 apply List.ext_getElem
 ·simp
 ·intro i h1 h2;simp
theorem zsO (n:Nat) {V W:List Int} (h: ∀x,x∈V↔x∈W):zcn n V=zcn n W:=zkr fun t _=>by simp [h]
theorem ziV {G:za} {A B:zb} {b:Nat} (h:Sep G (zk (A++B))) (hb:b∈zk B):zL b (zk A):=by
 have h1:=(zaO.1 h).2
 rw[zb6,List.nodup_append] at h1
 exact zfU.2 fun ha=>h1.2.2 b ha b hb rfl
theorem zuQ {G:za} {H:zb} {b:Nat} {r:Res} (h:Sep G (zk H)) (hf:zq H b=some r):G b=none:=
 (zaO.1 h).1 b (List.mem_map.2 ⟨_,zeJ hf,rfl⟩)
theorem zfM {G:za} {x:Nat×Res} {H:zb} {b:Nat} {r:Res} (hs:Sep G (zk (x::H))) (h:zq H b=some r):zq (x::H) b=some r:=by
 have h1:zL x.1 (zk H):=hs.1.2
 have h2:=zL.neFind h1 h
 obtain⟨k,q⟩:=x
 exact(zjo h2 q H).trans h
theorem zuR {G:za} {x1 x2 x3 x4 x5:Nat×Res} {H:zb} (h:Sep G (zk (x1::x2::x3::x4::x5::H))):Sep G (zk (H++[x1,x2,x3,x4,x5])):=by
 rw[zaO] at h⊢
 have hp:List.Perm (zk (H++[x1,x2,x3,x4,x5])) (zk (x1::x2::x3::x4::x5::H)):=by
  unfold zk
  exact(List.perm_append_comm (l₁:=H) (l₂:=[x1,x2,x3,x4,x5])).map _
 exact⟨fun b hb=>h.1 b (hp.mem_iff.1 hb),hp.nodup_iff.2 h.2⟩
theorem zsP {G:za} {x1 x2 x3 x4 x5:Nat×Res} {H:zb} (h:Sep G (zk (H++[x1,x2,x3,x4,x5]))):Sep G (zk (x1::x2::x3::x4::x5::H)):=by
 rw[zaO] at h⊢
 have hp:List.Perm (zk (H++[x1,x2,x3,x4,x5])) (zk (x1::x2::x3::x4::x5::H)):=by
  unfold zk
  exact(List.perm_append_comm (l₁:=H) (l₂:=[x1,x2,x3,x4,x5])).map _
 exact⟨fun b hb=>h.1 b (hp.mem_iff.2 hb),hp.nodup_iff.1 h.2⟩
set_option maxRecDepth 4000 in
theorem zwt (lr b1 b2 b3 bx:Nat) {n:Nat} (hn:n≤65536) {W0:List Int} (hW:zaQ n W0) {on:Int→List Int} (hon: ∀s:Int,0≤s→s<n→ ∀t∈on s,0≤t∧t<n) (hol: ∀s:Int,0≤s→s<n→(on s).length≤20000000)
  {fid:FuncId} {XC:List Value} {tyX:TypeId} {G:za}
  (hOn: ∀ (s:Int) (G1:za) (H1:zb) (R1:Value→za→zb→Prop),PLe G G1→0≤s→s<n→G1 bx=none→zq H1 bx=some (.cells XC [] tyX)→(∀v,Sl G1 (Value.int .i64) v (on s)→R1 v G1 H1)→FnT Tryz.prog fid [.int .i64 s, .pointer (some ⟨bx,0,none⟩)] G1 H1 R1)
  {v0:Value} (hv0:Sl G (Value.int .i64) v0 W0) {HC:zb} {R:Value→za→zb→Prop}
  (J Jx:Nat→za→zb→Prop) (hJ: ∀i G1 G2 H1,PLe G1 G2→J i G1 H1→J i G2 H1) (hX: ∀i G1 H1,Sep G1 (zk H1)→J i G1 H1→zq H1 bx=some (.cells XC [] tyX))
  (hY: ∀i G1 H1 HW (hi:i< (bw on W0 i).length),PLe G G1→Sep G1 (zk (H1++HW))→J i G1 H1→zbK Tryz.prog lr [.int .i64 (bw on W0 i)[i]] G1 (H1++HW) fun w G2 H2=> ∃H3,H2=H3++HW∧((w= .bool true∧J (i+1) G2 H3)∨(w= .bool false∧Jx i G2 H3)))
  (h0:J 0 G HC)
  (hR: ∀G' H',PLe G G'→Sep G' (zk H')→((∃i,i=(bw on W0 i).length∧J i G' H')∨ ∃i,Jx i G' H')→R (.tuple #[]) G' H'):
  FnT Tryz.prog 90 [.func (.yield lr) #[] #[], .pointer (some ⟨b1,0,none⟩), .pointer (some ⟨b2,0,none⟩), .pointer (some ⟨b3,0,none⟩)] G
   ((b3, .cells [.func (.func fid) #[] #[.pointer (some ⟨bx,0,none⟩)]] [] 75):: (b2, .cells [v0] [] 24):: (b1, .cells [.int .i64 (n:Nat)] [] 3)::HC) R:=by
 obtain⟨a0,c0,rfl,hrow0,hcap0⟩:=id hv0
 have hW0:=hW.len
 refine FnT.body tok [0,1,2,3,5,6,8,9,11,16,17,18,19,29,38,44,45,46,47,53] Tryz.func90 rfl Kk Kk (by show _≤62;simp) fun hsep=>?_
 rw[Tryz.results90]
 have hE:=hsep
 try simp only[zzs] at hE
 repeat(obtain⟨hx',hE⟩:=hE)
 repeat' first
  |with_reducible first|refine Nx.go ?_ |refine Bk.go (fun _=>?_) fun _=>?_ |refine Nb fun nb hnb hnb1 hnb2=>?_ |refine Nr fun nb nsp ncap hnb hncap hnb1 hnb2=>?_
  |simp -dsimp -implicitDefEqProofs (disch:=first|exact Kd|fail) only[go_sem,↓reduceIte,seval, -List.reduceReplicate,Nat.sub_self,List.replicate_zero]
 obtain⟨bt,e0⟩: ∃x,x=nb:=⟨_,rfl⟩
 subst e0
 refine zjC W0 Ko hv0 fun v kb hsk hkb=>?_
 have hn1:zL bt (zk kb):=ziV hsk (by simp [zk])
 have hn2:zL b3 (zk kb):=ziV hsk (by simp [zk])
 have hn3:zL b2 (zk kb):=ziV hsk (by simp [zk])
 have hn4:zL b1 (zk kb):=ziV hsk (by simp [zk])
 repeat' first
  |with_reducible first|refine Nx.go ?_ |refine Bk.go (fun _=>?_) fun _=>?_ |refine Nb fun nb hnb hnb1 hnb2=>?_ |refine Nr fun nb nsp ncap hnb hncap hnb1 hnb2=>?_
  |simp -dsimp -implicitDefEqProofs (disch:=first|exact Kd|fail) only[go_sem,↓reduceIte,seval]
 refine Tri.loopU tok [0,1,2,3,5,6,8,9,11,16,17,18,19,29,38,44,45,46,47,53] Kk [0,1,2,3,5,6,16,17,18] (fun q G' fr H'=> ∃i:Nat,i+q=W0.length∧G'=G∧H'=(bt, .cells (zcn n (W0.take i)) [] 4):: (b3, .cells [.func (.func fid) #[] #[.pointer (some ⟨bx,0,none⟩)]] [] 75):: (b2, .cells [.slice a0 W0.length c0] [] 24):: (b1, .cells [.int .i64 (n:Nat)] [] 3):: (kb++HC)∧fr=[(0, .func (.yield lr) #[] #[]),(1, .pointer (some ⟨b1,0,none⟩)),(2, .pointer (some ⟨b2,0,none⟩)),(3, .pointer (some ⟨b3,0,none⟩)),(5, .slice (some ⟨bt,0,none⟩) n n),(6,v),(16, .slice a0 W0.length c0),(17, .int .i64 W0.length),(18, .int .i64 (i:Nat))]) (W0.length) ?_ ?_
 ·rw[←zsN]
  exact Upd.go (H':=(bt, .cells (zcn n []) [] 4):: (b3, .cells [.func (.func fid) #[] #[.pointer (some ⟨bx,0,none⟩)]] [] 75):: (b2, .cells [.slice a0 W0.length c0] [] 24):: (b1, .cells [.int .i64 (n:Nat)] [] 3):: (kb++HC)) Ks (Upd.now ⟨0,by omega,rfl,by rw[List.take_zero],rfl⟩)
 ·rintro q G1 fr H' hle hs1 ⟨i,hiq,rfl,rfl,rfl⟩
  by_cases hil:i<W0.length
  ·have had:Adr a0:=hrow0.adr (by rw[List.length_map];omega)
   have hx:=hW.2 _ (List.getElem_mem hil)
   obtain⟨t,ht⟩:=Int.eq_ofNat_of_zero_le hx.1
   have htn:t<n:=by omega
   have hml:=znw n (W0.take i)
   have hput:zi (zcn n (W0.take i)) t [.bool true]=zcn n (W0.take (i+1)):=by
    rw[znx htn,←ht]
    exact zsO n fun x=>by rw[zee,List.take_succ_eq_append_getElem hil,List.mem_append,List.mem_singleton]
   repeat' first
    |with_reducible first|refine Nx.go ?_ |refine Bk.go (fun _=>?_) fun _=>?_ |refine Nb fun nb hnb hnb1 hnb2=>?_ |refine Nr fun nb nsp ncap hnb hncap hnb1 hnb2=>?_
    |simp -dsimp -implicitDefEqProofs (disch:=first|exact Kd|fail) only[go_sem,↓reduceIte,seval,Row.obj hrow0,List.getElem_map,ht,hput]
   exact Upd.now ⟨q - 1,by omega,i+1,by omega,rfl,rfl,rfl⟩
  ·obtain rfl:i=W0.length:=by omega
   rw[List.take_length] at hs1⊢
   repeat' first
    |with_reducible first|refine Nx.go ?_ |refine Bk.go (fun _=>?_) fun _=>?_ |refine Nb fun nb hnb hnb1 hnb2=>?_ |refine Nr fun nb nsp ncap hnb hncap hnb1 hnb2=>?_
    |simp -dsimp -implicitDefEqProofs (disch:=first|exact Kd|fail) only[go_sem,↓reduceIte,seval]
   refine Tri.loopU tok [0,1,2,3,5,6,8,9,11,16,17,18,19,29,38,44,45,46,47,53] Kk [0,1,2,3,5,6,9] (fun q G' fr H'=> ∃ (i:Nat) (v:Value) (kb H1:zb),i+q=n∧i≤(bw on W0 i).length∧PLe G1 G'∧zH [] 3 1 v (bw on W0 i).length ((bw on W0 i).map (Value.int .i64)) kb∧J i G' H1∧H'=(bt, .cells (zcn n (bw on W0 i)) [] 4):: (b3, .cells [.func (.func fid) #[] #[.pointer (some ⟨bx,0,none⟩)]] [] 75):: (b2, .cells [.slice a0 W0.length c0] [] 24):: (b1, .cells [.int .i64 (n:Nat)] [] 3):: (kb++H1)∧fr=[(0, .func (.yield lr) #[] #[]),(1, .pointer (some ⟨b1,0,none⟩)),(2, .pointer (some ⟨b2,0,none⟩)),(3, .pointer (some ⟨b3,0,none⟩)),(5, .slice (some ⟨bt,0,none⟩) n n),(6,v),(9, .int .i64 (i:Nat))]) (n) ?_ ?_
   ·exact Upd.now ⟨0,v,kb,HC,by omega,Nat.zero_le _,PLe.refl _,hkb,h0,rfl,rfl⟩
   ·rintro q G2 fr H' hle2 hs2 ⟨i,v,kb,H1,hiq,hil,hleG,hkb,hJi,rfl,rfl⟩
    have hO:=zef hW hon i
    have hOl:=hO.len
    rcases hkb with ⟨a,rfl,hz,hz2,rfl⟩| ⟨bk,ck,sk,rfl,rfl,hkl,hkc⟩
    ·repeat' first
      |with_reducible first|refine Nx.go ?_ |refine Bk.go (fun _=>?_) fun _=>?_ |refine Nb fun nb hnb hnb1 hnb2=>?_ |refine Nr fun nb nsp ncap hnb hncap hnb1 hnb2=>?_
      |simp -dsimp -implicitDefEqProofs (disch:=first|exact Kd|fail) only[go_sem,↓reduceIte,seval]
     all_goals try(exfalso;omega)
     unfold zz
     exact Upd.go (H':=H1) Ks (Upd.now (hR G2 H1 hleG (Sep.suf (H:=[(bt, .cells (zcn n (bw on W0 i)) [] 4),(b3, .cells [.func (.func fid) #[] #[.pointer (some ⟨bx,0,none⟩)]] [] 75),(b2, .cells [.slice a0 W0.length c0] [] 24),(b1, .cells [.int .i64 (n:Nat)] [] 3)]) hs2) (.inl ⟨i,by omega,hJi⟩)))
    ·rw[List.length_map] at hkl hkc
     have hE:=hs2
     try simp only[zzs] at hE
     repeat(obtain⟨hx',hE⟩:=hE)
     by_cases hi:i< (bw on W0 i).length
     ·have hx:=hO.2 _ (List.getElem_mem hi)
      have hsucc:=zbG hi
      repeat' first
       |with_reducible first|refine Nx.go ?_ |refine Bk.go (fun _=>?_) fun _=>?_ |refine Nb fun nb hnb hnb1 hnb2=>?_ |refine Nr fun nb nsp ncap hnb hncap hnb1 hnb2=>?_
       |simp -dsimp -implicitDefEqProofs (disch:=first|exact Kd|fail) only[go_sem,↓reduceIte,seval,List.getElem_append_left,List.getElem_map]
      refine zbK.upd (zbK.leave (H':=H1++[(bt, .cells (zcn n (bw on W0 i)) [] 4),(b3, .cells [.func (.func fid) #[] #[.pointer (some ⟨bx,0,none⟩)]] [] 75),(b2, .cells [.slice a0 W0.length c0] [] 24),(b1, .cells [.int .i64 (n:Nat)] [] 3),(bk, .cells ((bw on W0 i).map (Value.int .i64)) sk 3)]) ?_ Ks)
      have hs3:=zuR hs2
      refine zbK.mono (hY i G2 H1 _ hi hleG hs3 hJi) ?_
      rintro w G3 _ hle3 hs4 ⟨H3,rfl,hw⟩
      refine Upd.go (H':=(bt, .cells (zcn n (bw on W0 i)) [] 4):: (b3, .cells [.func (.func fid) #[] #[.pointer (some ⟨bx,0,none⟩)]] [] 75):: (b2, .cells [.slice a0 W0.length c0] [] 24):: (b1, .cells [.int .i64 (n:Nat)] [] 3):: (bk, .cells ((bw on W0 i).map (Value.int .i64)) sk 3)::H3) Ks (Upd.now ?_)
      have hs5:=zsP hs4
      have hE:=hs5
      try simp only[zzs] at hE
      repeat(obtain⟨hx',hE⟩:=hE)
      rcases hw with ⟨rfl,hJ3⟩| ⟨rfl,hJ3⟩
      ·have hfx3:=hX _ G3 H3 hs5.2.2.2.2.2 hJ3
       repeat' first
        |with_reducible first|refine Nx.go ?_ |refine Bk.go (fun _=>?_) fun _=>?_ |refine Nb fun nb hnb hnb1 hnb2=>?_ |refine Nr fun nb nsp ncap hnb hncap hnb1 hnb2=>?_
        |simp -dsimp -implicitDefEqProofs (disch:=first|exact Kd|fail) only[go_sem,↓reduceIte,seval,List.getElem_append_left,List.getElem_map]
        |with_reducible refine Tri.drawS tok mixed [0,1,2,3,5,6,8,9,11,16,17,18,19,29,38,44,45,46,47,53] 11 [0,4] (.op 0 .held (.op 1 .plain (.op 2 .plain (.op 3 .plain (.op 4 .held (.op 7 .plain (.op 5 .plain (.op 6 .plain .nil)))))))) Kk [(b3, .cells [.func (.func fid) #[] #[.pointer (some ⟨bx,0,none⟩)]] [] 75),(bk, .cells ((bw on W0 i).map (Value.int .i64)) sk 3)] Ks ?_
       have hfx5:=zfM hs5 (zfM hs5.2 (zfM hs5.2.2 (zfM hs5.2.2.2 (zfM hs5.2.2.2.2 hfx3))))
       have hxb:=zuQ hs5 hfx5
       refine hOn _ G3 _ _ (hleG.trans hle3) hx.1 hx.2 hxb hfx5 fun v' hv'=>?_
       obtain⟨ao,co,rfl,hro,hco⟩:=hv'
       have honl:=hol _ hx.1 hx.2
       have honr:=hon _ hx.1 hx.2
       repeat' first
        |with_reducible first|refine Nx.go ?_ |refine Bk.go (fun _=>?_) fun _=>?_ |refine Nb fun nb hnb hnb1 hnb2=>?_ |refine Nr fun nb nsp ncap hnb hncap hnb1 hnb2=>?_
        |simp -dsimp -implicitDefEqProofs (disch:=first|exact Kd|fail) only[go_sem,↓reduceIte,seval]
       generalize hos:on (bw on W0 i)[i]=os at *
       refine Tri.loopU tok [0,1,2,3,5,6,8,9,11,16,17,18,19,29,38,44,45,46,47,53] Kk [0,1,2,3,5,6,9,44,45,46] (fun q' G' fr H'=> ∃ (k:Nat) (v:Value) (kb:zb),k+q'=os.length∧G'=G3∧zH [] 3 1 v (addN (bw on W0 i) (os.take k)).length ((addN (bw on W0 i) (os.take k)).map (Value.int .i64)) kb∧H'=(bt, .cells (zcn n (addN (bw on W0 i) (os.take k))) [] 4):: (b3, .cells [.func (.func fid) #[] #[.pointer (some ⟨bx,0,none⟩)]] [] 75):: (b2, .cells [.slice a0 W0.length c0] [] 24):: (b1, .cells [.int .i64 (n:Nat)] [] 3):: (kb++H3)∧fr=[(0, .func (.yield lr) #[] #[]),(1, .pointer (some ⟨b1,0,none⟩)),(2, .pointer (some ⟨b2,0,none⟩)),(3, .pointer (some ⟨b3,0,none⟩)),(5, .slice (some ⟨bt,0,none⟩) n n),(6,v),(9, .int .i64 (i:Nat)),(44, .slice ao os.length co),(45, .int .i64 os.length),(46, .int .i64 (k:Nat))]) (os.length) ?_ ?_
       ·exact Upd.now ⟨0,_,[(bk, .cells ((bw on W0 i).map (Value.int .i64)) sk 3)],by omega,rfl, .inr ⟨bk,ck,sk,rfl,rfl,by rw[List.length_map];simp,by rw[List.length_map,List.take_zero,zhl];omega⟩,rfl,rfl⟩
       ·rintro q' G4 fr H' hle4 hs6 ⟨k,v,kb,hkq,rfl,hkb,rfl,rfl⟩
        have hOk:zaQ n (addN (bw on W0 i) (os.take k)):=hO.addN fun x hx=>honr x (List.mem_of_mem_take hx)
        have hOkl:=hOk.len
        obtain⟨X,hX1⟩:=zhm (os.take k) (bw on W0 i)
        have hXl:=congrArg List.length hX1
        rw[List.length_append] at hXl
        rcases hkb with ⟨a,rfl,hz,hz2,rfl⟩| ⟨bm,cm,sm,rfl,rfl,hml,hmc⟩
        ·omega
        ·rw[List.length_map] at hml hmc
         have hmt:=znw n (addN (bw on W0 i) (os.take k))
         have hE:=hs6
         try simp only[zzs] at hE
         repeat(obtain⟨hx',hE⟩:=hE)
         by_cases hk:k<os.length
         ·have had:Adr ao:=hro.adr (by rw[List.length_map];omega)
          have hy:=honr _ (List.getElem_mem hk)
          obtain⟨t,ht⟩:=Int.eq_ofNat_of_zero_le hy.1
          have htn:t<n:=by omega
          have hg:=zuP (W:=addN (bw on W0 i) (os.take k)) htn
          have hnext:=zsA (bw on W0 i) os hk
          have hput:=znx (W:=addN (bw on W0 i) (os.take k)) htn
          by_cases hin:(t:Int)∈addN (bw on W0 i) (os.take k)
          ·rw[decide_eq_true hin] at hg
           have hn2:addN (bw on W0 i) (os.take (k+1))=addN (bw on W0 i) (os.take k):=by rw[hnext,ht];unfold add1;rw[if_pos hin]
           repeat' first
            |with_reducible first|refine Nx.go ?_ |refine Bk.go (fun _=>?_) fun _=>?_ |refine Nb fun nb hnb hnb1 hnb2=>?_ |refine Nr fun nb nsp ncap hnb hncap hnb1 hnb2=>?_
            |simp -dsimp -implicitDefEqProofs (disch:=first|exact Kd|fail) only[go_sem,↓reduceIte,seval,Row.obj hro,List.getElem_map,ht,hg]
           exact Upd.now ⟨q' - 1,by omega,k+1, .slice (some ⟨bm,0,none⟩) (addN (bw on W0 i) (os.take k)).length cm,[(bm, .cells ((addN (bw on W0 i) (os.take k)).map (Value.int .i64)) sm 3)],by omega,rfl, .inr ⟨bm,cm,sm,by rw[hn2],by rw[hn2],by rw[hn2,List.length_map];omega,by rw[hn2,List.length_map];omega⟩,by rw[hn2];rfl,rfl⟩
          ·rw[decide_eq_false hin] at hg
           have hn2:addN (bw on W0 i) (os.take (k+1))=addN (bw on W0 i) (os.take k)++[(t:Int)]:=by rw[hnext,ht];unfold add1;rw[if_neg hin]
           have hn3:add1 (addN (bw on W0 i) (os.take k)) (t:Int)=addN (bw on W0 i) (os.take (k+1)):=by rw[hnext,ht]
           rw[hn3] at hput
           repeat' first
            |with_reducible first|refine Nx.go ?_ |refine Bk.go (fun _=>?_) fun _=>?_ |refine Nb fun nb hnb hnb1 hnb2=>?_ |refine Nr fun nb nsp ncap hnb hncap hnb1 hnb2=>?_
            |simp -dsimp -implicitDefEqProofs (disch:=first|exact Kd|fail) only[go_sem,↓reduceIte,seval,Row.obj hro,List.getElem_map,ht,hg,hput,List.replicate_one]
           have hl2:=congrArg List.length hn2
           rw[List.length_append,List.length_singleton] at hl2
           have hm2:(addN (bw on W0 i) (os.take k)).map (Value.int .i64)++[Value.int .i64 (t:Nat)]=(addN (bw on W0 i) (os.take (k+1))).map (Value.int .i64):=by rw[hn2,List.map_append];rfl
           rw[hm2,←hl2]
           exact Upd.go (H':=(bt, .cells (zcn n (addN (bw on W0 i) (os.take (k+1)))) [] 4):: (b3, .cells [.func (.func fid) #[] #[.pointer (some ⟨bx,0,none⟩)]] [] 75):: (b2, .cells [.slice a0 W0.length c0] [] 24):: (b1, .cells [.int .i64 (n:Nat)] [] 3):: ([(nb, .cells ((addN (bw on W0 i) (os.take (k+1))).map (Value.int .i64)) nsp 3)]++H3)) Ks (Upd.now ⟨q' - 1,by omega,k+1,_,[(nb, .cells ((addN (bw on W0 i) (os.take (k+1))).map (Value.int .i64)) nsp 3)],by omega,rfl, .inr ⟨nb,ncap,nsp,rfl,rfl,by rw[List.length_map];omega,by rw[List.length_map];omega⟩,rfl,rfl⟩)
         ·obtain rfl:k=os.length:=by omega
          rw[List.take_length] at *
          repeat' first
           |with_reducible first|refine Nx.go ?_ |refine Bk.go (fun _=>?_) fun _=>?_ |refine Nb fun nb hnb hnb1 hnb2=>?_ |refine Nr fun nb nsp ncap hnb hncap hnb1 hnb2=>?_
           |simp -dsimp -implicitDefEqProofs (disch:=first|exact Kd|fail) only[go_sem,↓reduceIte,seval]
          rw[←hsucc] at *
          exact Upd.now ⟨q - 1,by omega,i+1, .slice (some ⟨bm,0,none⟩) (bw on W0 (i+1)).length cm,[(bm, .cells ((bw on W0 (i+1)).map (Value.int .i64)) sm 3)],H3,by omega,by omega,hleG.trans hle3, .inr ⟨bm,cm,sm,rfl,rfl,by rw[List.length_map];omega,by rw[List.length_map];omega⟩,hJ3,rfl,rfl⟩
      ·repeat' first
        |with_reducible first|refine Nx.go ?_ |refine Bk.go (fun _=>?_) fun _=>?_ |refine Nb fun nb hnb hnb1 hnb2=>?_ |refine Nr fun nb nsp ncap hnb hncap hnb1 hnb2=>?_
        |simp -dsimp -implicitDefEqProofs (disch:=first|exact Kd|fail) only[go_sem,↓reduceIte,seval]
       unfold zz
       exact Upd.go (H':=H3) Ks (Upd.now (hR G3 H3 (hleG.trans hle3) Ka (.inr ⟨i,hJ3⟩)))
     ·repeat' first
       |with_reducible first|refine Nx.go ?_ |refine Bk.go (fun _=>?_) fun _=>?_ |refine Nb fun nb hnb hnb1 hnb2=>?_ |refine Nr fun nb nsp ncap hnb hncap hnb1 hnb2=>?_
       |simp -dsimp -implicitDefEqProofs (disch:=first|exact Kd|fail) only[go_sem,↓reduceIte,seval]
      all_goals try(exfalso;omega)
      unfold zz
      exact Upd.go (H':=H1) Ks (Upd.now (hR G2 H1 hleG Ka (.inl ⟨i,by omega,hJi⟩)))
end Go.Proofs.YtefkpedhbijhkaaGreatDoor
namespace Go.Proofs.YtefkpedhbijhkaaGreatDoor
open Go Go.V Go.Proofs
theorem zuS {G:za} {A B:zb} (h:Sep G (zk (A++B))):Sep G (zk A):=by
 rw[zaO,zb6] at *
 exact⟨fun b hb=>h.1 b (List.mem_append.2 (.inl hb)),(List.nodup_append.1 h.2).1⟩
def zE (d:DfaT) (s:Int):List Int:=d.next.getD s.toNat []
theorem zak {d:DfaT} {s:Nat} (h:s<d.next.length):zE d (s:Int)=d.next[s]:=by
 unfold zE
 rw[Int.toNat_natCast,List.getD_eq_getElem?_getD,List.getElem?_eq_getElem h,Option.getD_some]
theorem zhq {d:DfaT} (hok:zd d): ∀s:Int,0≤s→s<d.label.length→ ∀t∈zE d s,0≤t∧t<d.label.length:=fun s h1 h2 t ht=>by
 obtain⟨i,rfl⟩:=Int.eq_ofNat_of_zero_le h1
 obtain⟨hk1,hk2,hk3,hk4,hk5,hk6,hk7⟩:=hok
 have hi:i<d.next.length:=by omega
 rw[zak hi] at ht
 exact(hk7 i hi Ko).2.2.2 t ht
theorem zuT {d:DfaT} (hsm:zt d) (hok:zd d) {C:List Value} {an al ay:Option Addr} {cn cl cs:Nat} {rs:List Value} {G:za} (O:OpenD G d C an al ay cn cl cs rs) {bx:Nat} {s:Int} (h0:0≤s) (h1:s<d.label.length)
  {H:zb} {R:Value→za→zb→Prop} (hg:G bx=none) (hf:zq H bx=some (.cells C [] 27)) (hR: ∀v,Sl G (Value.int .i64) v (zE d s)→R v G H):FnT Tryz.prog 60 [.int .i64 s, .pointer (some ⟨bx,0,none⟩)] G H R:=by
 obtain⟨i,rfl⟩:=Int.eq_ofNat_of_zero_le h0
 have hCl:=O.len
 have hCn:=O.n
 have hl:=hok.2.2.1
 have hi:i<d.next.length:=by omega
 have hrnl:=O.rnl
 obtain⟨b,c,e1,e2,e3⟩:=O.rs i hi Ko
 have had:Adr an:=O.rn.adr Ko
 rw[zak hi] at hR
 refine FnT.body tok [0,1,3] Tryz.func60 rfl Kk Kk (by show _≤9;simp) fun hsep=>?_
 rw[Tryz.results60]
 have hE:=hsep
 try simp only[zzs] at hE
 repeat(obtain⟨hx',hE⟩:=hE)
 repeat' first
  |with_reducible first|refine Nx.go ?_ |refine Bk.go (fun _=>?_) fun _=>?_
  |simp -dsimp -implicitDefEqProofs (disch:=first|exact Kd|fail) only[go_sem,↓reduceIte,seval, -List.reduceReplicate,hf,hCl,hCn,Row.obj O.rn,e1]
 all_goals refine Upd.finL ?_ (hR _ ⟨b,c,rfl,e2,e3⟩) ?_
 any_goals first|exact Ks|skip
 all_goals rfl
theorem zxi {n:Nat} {a cap:Option Addr} {k c:Nat} {fid:FuncId} {v fv:Value} (hv:v= .slice a k c) (hf:fv= .func (.func fid) #[] #[.pointer cap]) {G:za} {H:zb} {R:Value→za→zb→Prop}
  (hR: ∀b1 b2 b3,Sep G (b3::b2::b1::zk H)→R (.func (.func 90) #[] #[.pointer (some ⟨b1,0,none⟩), .pointer (some ⟨b2,0,none⟩), .pointer (some ⟨b3,0,none⟩)]) G ((b3, .cells [fv] [] 75):: (b2, .cells [v] [] 24):: (b1, .cells [.int .i64 (n:Nat)] [] 3)::H)):
  FnT Tryz.prog 59 [.int .i64 (n:Nat),v,fv] G H R:=by
 subst hv hf
 refine FnT.body tok [0,1,2,3,4,5,6] Tryz.func59 rfl Kk Kk (by show _≤8;simp) fun hsep=>?_
 rw[Tryz.results59]
 have hE:=hsep
 try simp only[zzs] at hE
 repeat(obtain⟨hx',hE⟩:=hE)
 repeat' first
  |with_reducible first|refine Nx.go ?_ |refine Bk.go (fun _=>?_) fun _=>?_ |refine Nb fun nb hnb hnb1 hnb2=>?_
  |simp -dsimp -implicitDefEqProofs (disch:=first|exact Kd|fail) only[go_sem,↓reduceIte,seval]
 exact Upd.fin (hR _ _ _ hnb) rfl
theorem zq6:V.Callee Tryz.prog 59:=⟨_,_,Tryz.func59,rfl,by kernel_rfl⟩
def zK (d:DfaT):List Int:=zhn (zE d) d.label.length [0]
noncomputable def zco (d:DfaT):List Int:=if zaE (zd d)=true then zK d else[]
theorem zwu {d:DfaT} (hsm:zt d) {G:za} {H:zb} {R:Value→za→zb→Prop} {v:Value} (hv:IsD G d v)
  (hR: ∀G' v',PLe G G'→Sep G' (zk H)→Sl G' (Value.int .i64) v' (zco d)→R v' G' H):FnT Tryz.prog 32 [v] G H R:=by
 obtain⟨C,an,al,ay,cn,cl,cs,rs,rfl,O⟩:=hv.opened
 have hCl:=O.len
 have hCa:=O.all
 have hCx:=O.l
 refine FnT.sep ?_
 by_cases hok:zd d
 ·have hb:=zG hok
  refine FnT.body tok [0,1,2,3,4,7,13,14] Tryz.func32 rfl Kk Kk (by show _≤20;simp) fun hsep=>?_
  rw[Tryz.results32]
  have hE:=hsep
  try simp only[zzs] at hE
  repeat(obtain⟨hx',hE⟩:=hE)
  repeat' first
   |with_reducible first|refine Nx.go ?_ |refine Bk.go (fun _=>?_) fun _=>?_ |refine Nb fun nb hnb hnb1 hnb2=>?_ |refine Nr fun nb nsp ncap hnb hncap hnb1 hnb2=>?_
   |simp -dsimp -implicitDefEqProofs (disch:=first|exact Kd|fail) only[go_sem,↓reduceIte,seval, -List.reduceReplicate,List.toList_toArray,hCl,hCa,hb,hCx,List.replicate_one]
   |with_reducible refine zav hsm O.is ?_
  rename_i b2 hx1 hx2 hx3 bl hx4 hx5 hx6
  have hz:zco d=zK d:=by unfold zco;rw[if_pos hb]
  rw[hz] at hR
  have hon:=zhq hok
  have hk1:=hok.1
  have hk2:=hok.2.1
  have hO:zaQ d.label.length [0]:=⟨by simp,fun x hx=>by rw[List.mem_singleton] at hx;omega⟩
  refine FnT.pre zq6 (Upd.go (H':=(nb, .cells [.int .i64 0] [] 3):: (bl, .cells [.slice none 0 0] [] 24):: (b2, .cells C [] 27)::H) Ks (Upd.shareRow Ka fun G2 hle2 hs2 hr2=>?_))
  refine zxi rfl rfl fun c1 c2 c3 hs3=>?_
  have hE:=hs3
  try simp only[zzs] at hE
  repeat(obtain⟨hx',hE⟩:=hE)
  repeat' first
   |with_reducible first|refine Nx.go ?_ |refine Bk.go (fun _=>?_) fun _=>?_ |refine Nb fun nb hnb hnb1 hnb2=>?_ |refine Nr fun nb nsp ncap hnb hncap hnb1 hnb2=>?_
   |simp -dsimp -implicitDefEqProofs (disch:=first|exact Kd|fail) only[go_sem,↓reduceIte,seval]
  refine Tri.rangeF2 tok [0,1,2,3,4,7,13,14] rfl zoX Kk fun lr Rr Rb hlr yl=>?_
  have hE:=hlr
  try simp only[zzs] at hE
  repeat(obtain⟨hx',hE⟩:=hE)
  refine FnT.leave (H':=(c3, .cells [.func (.func 60) #[] #[.pointer (some ⟨b2,0,none⟩)]] [] 75):: (c2, .cells [.slice (some ⟨nb,0,none⟩) 1 1] [] 24):: (c1, .cells [.int .i64 (d.label.length:Nat)] [] 3):: ((lr,Rr .normal):: (bl, .cells [.slice none 0 0] [] 24):: (b2, .cells C [] 27)::H)) ?_ Ks
  refine zwt lr c1 c2 c3 b2 Ko hO hon (fun s h0 h1=>?_) (fun s G1 H1 R1 hle h0 h1 hg hf hR1=>zuT hsm hok (O.mono (hle2.trans hle)) h0 h1 hg hf hR1)
   (v0:= .slice (some ⟨nb,0,none⟩) 1 1) ⟨some ⟨nb,0,none⟩,1,rfl,hr2,Nat.le_refl _⟩
   (fun i G' H'=> ∃v kb,zH [] 3 1 v i (((bw (zE d) [0] i).take i).map (Value.int .i64)) kb∧i≤(bw (zE d) [0] i).length∧H'=(lr,Rr .normal):: (bl, .cells [v] [] 24):: (b2, .cells C [] 27):: (kb++H))
   (fun _ _ _=>False) ?_ ?_ ?_ ⟨_,[], .inl ⟨none,rfl,rfl,rfl,rfl⟩,Nat.zero_le _,rfl⟩ ?_
  ·obtain⟨j,rfl⟩:=Int.eq_ofNat_of_zero_le h0
   have hj:j<d.next.length:=by have:=hok.2.2.1;omega
   rw[zak hj]
   exact Nat.le_trans (hsm.2.1 _ (List.getElem_mem hj)) Ko
  ·exact fun _ _ _ _ _ h=>h
  ·rintro i G1 _ _ ⟨v,kb,_,_,rfl⟩
   simp -dsimp -implicitDefEqProofs (disch:=first|exact Kd|fail) only[go_sem,↓reduceIte,seval]
  ·rintro i G1 _ HW hi hle1 hs4 ⟨v,kb,hkb,hil,rfl⟩
   have hs5:=zuS hs4
   obtain⟨X,hX⟩:=zsB (zE d) [0] i
   have hti:(bw (zE d) [0] (i+1)).take (i+1)=(bw (zE d) [0] i).take i++[(bw (zE d) [0] i)[i]]:=by
    rw[hX,List.take_append_of_le_length Ko,List.take_succ_eq_append_getElem hi]
   have htl:((bw (zE d) [0] i).take i).length=i:=by rw[List.length_take];omega
   have hml:(((bw (zE d) [0] i).take i).map (Value.int .i64)).length=i:=by rw[List.length_map,htl]
   have hbl:=(zef hO hon i).len
   have hil2:i+1≤(bw (zE d) [0] (i+1)).length:=by rw[hX,List.length_append];omega
   rcases hkb with ⟨a,rfl,hz,hz2,rfl⟩| ⟨bk,ck,sk,rfl,rfl,hkl,hkc⟩
   ·have hE:=hs4
    try simp only[zzs] at hE
    repeat(obtain⟨hx',hE⟩:=hE)
    have hE:=hs5
    try simp only[zzs] at hE
    repeat(obtain⟨hx',hE⟩:=hE)
    refine zbK.upd (yl rfl ?_ ?_)
    ·simp -dsimp -implicitDefEqProofs (disch:=first|exact Kd|fail) only[go_sem,↓reduceIte,seval]
    ·repeat' first
      |with_reducible first|refine Nx.go ?_ |refine Bk.go (fun _=>?_) fun _=>?_ |refine Nb fun nb hnb hnb1 hnb2=>?_ |refine Nr fun nb nsp ncap hnb hncap hnb1 hnb2=>?_
      |simp -dsimp -implicitDefEqProofs (disch:=first|exact Kd|fail) only[go_sem,↓reduceIte,seval,List.replicate_one]
     have hi0:i=0:=hz
     refine Upd.go (H':=((lr,Rr .normal):: (bl, .cells [.slice (some ⟨nb,0,none⟩) 1 ncap] [] 24):: (b2, .cells C [] 27):: ([(nb, .cells [.int .i64 (bw (zE d) [0] i)[i]] nsp 3)]++H))++HW) Ks (Upd.now ⟨_,rfl, .inl ⟨rfl,_,[(nb, .cells [.int .i64 (bw (zE d) [0] i)[i]] nsp 3)], .inr ⟨nb,ncap,nsp,?_,?_,?_,?_⟩,hil2,rfl⟩⟩)
     ·rw[hi0]
     ·rw[hti,List.map_append,hz2];rfl
     ·rw[hti,List.map_append,hz2];show 1=(i+1) * 1;omega
     ·rw[hti,List.map_append,hz2];show 1+nsp.length=ncap * 1;omega
   ·have hE:=hs4
    try simp only[zzs] at hE
    repeat(obtain⟨hx',hE⟩:=hE)
    have hE:=hs5
    try simp only[zzs] at hE
    repeat(obtain⟨hx',hE⟩:=hE)
    refine zbK.upd (yl rfl ?_ ?_)
    ·simp -dsimp -implicitDefEqProofs (disch:=first|exact Kd|fail) only[go_sem,↓reduceIte,seval]
    ·repeat' first
      |with_reducible first|refine Nx.go ?_ |refine Bk.go (fun _=>?_) fun _=>?_ |refine Nb fun nb hnb hnb1 hnb2=>?_ |refine Nr fun nb nsp ncap hnb hncap hnb1 hnb2=>?_
      |simp -dsimp -implicitDefEqProofs (disch:=first|exact Kd|fail) only[go_sem,↓reduceIte,seval,List.replicate_one]
     have hm2:((bw (zE d) [0] i).take i).map (Value.int .i64)++[.int .i64 (bw (zE d) [0] i)[i]]=((bw (zE d) [0] (i+1)).take (i+1)).map (Value.int .i64):=by rw[hti,List.map_append];rfl
     rw[hm2]
     refine Upd.go (H':=((lr,Rr .normal):: (bl, .cells [.slice (some ⟨nb,0,none⟩) (i+1) ncap] [] 24):: (b2, .cells C [] 27):: ([(nb, .cells (((bw (zE d) [0] (i+1)).take (i+1)).map (Value.int .i64)) nsp 3)]++H))++HW) Ks (Upd.now ⟨_,rfl, .inl ⟨rfl,_,[(nb, .cells (((bw (zE d) [0] (i+1)).take (i+1)).map (Value.int .i64)) nsp 3)], .inr ⟨nb,ncap,nsp,rfl,rfl,?_,?_⟩,hil2,rfl⟩⟩)
     ·rw[List.length_map,List.length_take];omega
     ·rw[List.length_map,List.length_take];omega
  ·rintro G1 _ hle1 hs4 (⟨i,hi,v,kb,hkb,hil,rfl⟩| ⟨_,h⟩)
   ·have he:bw (zE d) [0] i=zK d:=zsC hO hon Ko
    have htk:(bw (zE d) [0] i).take i=zK d:=by rw[←he];exact List.take_of_length_le Ko
    rw[htk] at hkb
    rw[he] at hi
    rcases hkb with ⟨a,rfl,hz,hz2,rfl⟩| ⟨bk,ck,sk,rfl,rfl,hkl,hkc⟩
    ·have hE:=hs4
     try simp only[zzs] at hE
     repeat(obtain⟨hx',hE⟩:=hE)
     refine⟨.normal,?_,?_⟩
     ·simp -dsimp -implicitDefEqProofs (disch:=first|exact Kd|fail) only[go_sem,↓reduceIte,seval]
     ·repeat' first
       |with_reducible first|refine Nx.go ?_ |refine Bk.go (fun _=>?_) fun _=>?_ |refine Nb fun nb hnb hnb1 hnb2=>?_ |refine Nr fun nb nsp ncap hnb hncap hnb1 hnb2=>?_
       |simp -dsimp -implicitDefEqProofs (disch:=first|exact Kd|fail) only[go_sem,↓reduceIte,seval]
      unfold zz
      refine Upd.leave (H':=H) Ks ?_
      have h0:zK d=[]:=List.eq_nil_of_length_eq_zero Ko
      exact fun hle hs=>hR G1 _ (hle2.trans hle1) hs ⟨a,0,by rw[h0];rfl,by rw[h0];exact Row.nil _ _,by rw[h0];exact Nat.le_refl _⟩
    ·have hE:=hs4
     try simp only[zzs] at hE
     repeat(obtain⟨hx',hE⟩:=hE)
     refine⟨.normal,?_,?_⟩
     ·simp -dsimp -implicitDefEqProofs (disch:=first|exact Kd|fail) only[go_sem,↓reduceIte,seval]
     ·repeat' first
       |with_reducible first|refine Nx.go ?_ |refine Bk.go (fun _=>?_) fun _=>?_ |refine Nb fun nb hnb hnb1 hnb2=>?_ |refine Nr fun nb nsp ncap hnb hncap hnb1 hnb2=>?_
       |simp -dsimp -implicitDefEqProofs (disch:=first|exact Kd|fail) only[go_sem,↓reduceIte,seval]
      unfold zz
      refine Upd.go (H':=(bk, .cells ((zK d).map (Value.int .i64)) sk 3)::H) Ks (Upd.shareRow Ka fun G3 hle3 hs6 hr3=>?_)
      rw[List.length_map] at hkl hkc
      exact fun hle hs=>hR G3 _ ((hle2.trans hle1).trans hle3) hs ⟨some ⟨bk,0,none⟩,ck,by rw[hi],hr3,by omega⟩
   ·exact h.elim
 ·have hb:=zB hok
  have hz:zco d=[]:=by unfold zco;rw[if_neg (by rw[hb];exact Bool.false_ne_true)]
  rw[hz] at hR
  refine FnT.body tok [0,1,2,3,4,7,13,14] Tryz.func32 rfl Kk Kk (by show _≤20;simp) fun hsep=>?_
  rw[Tryz.results32]
  have hE:=hsep
  try simp only[zzs] at hE
  repeat(obtain⟨hx',hE⟩:=hE)
  repeat' first
   |with_reducible first|refine Nx.go ?_ |refine Bk.go (fun _=>?_) fun _=>?_ |refine Nb fun nb hnb hnb1 hnb2=>?_ |refine Nr fun nb nsp ncap hnb hncap hnb1 hnb2=>?_
   |simp -dsimp -implicitDefEqProofs (disch:=first|exact Kd|fail) only[go_sem,↓reduceIte,seval, -List.reduceReplicate,List.toList_toArray,hCl,hCa,hb]
   |with_reducible refine zav hsm O.is ?_
  unfold zz
  refine Upd.leave (H':=H) Ks ?_
  exact fun hle hs=>hR G _ (PLe.refl _) hs (Sl.nil _ _)
end Go.Proofs.YtefkpedhbijhkaaGreatDoor
namespace Go.Proofs.YtefkpedhbijhkaaGreatDoor
open Go Go.V Go.Proofs
theorem zq7 {w:Nat} (hw:w<4294967296):zaC .and .u64 (w:Int) 4294967295=(w:Int):=by
 unfold zaC
 have:(BitVec.ofInt IntKind.u64.bits (w:Int)&&& BitVec.ofInt IntKind.u64.bits 4294967295).toNat=w:=by
  show(BitVec.ofInt 64 (w:Int)&&& BitVec.ofInt 64 4294967295).toNat=w
  rw[BitVec.toNat_and]
  have h1:(BitVec.ofInt 64 (w:Int)).toNat=w:=by
   rw[BitVec.toNat_ofInt];omega
  have h2:(BitVec.ofInt 64 4294967295).toNat=2 ^ 32 - 1:=by decide
  rw[h1,h2,Nat.and_two_pow_sub_one_eq_mod]
  exact Nat.mod_eq_of_lt hw
 show IntKind.u64.wrap ((BitVec.ofInt IntKind.u64.bits (w:Int)&&& BitVec.ofInt IntKind.u64.bits 4294967295).toNat:Int)=w
 rw[this]
 unfold IntKind.wrap
 have hb:(IntKind.u64.bits)=64:=rfl
 simp [hb]
 omega
set_option maxRecDepth 8000 in
theorem zwv {n:Nat} (hn:n≤65536) {G:za} {H:zb} {R:Value→za→zb→Prop} (hR:R (.tuple #[.int .u64 0, .int .u64 (n:Nat)]) G H):FnT Tryz.prog 138 [.int .u64 1, .int .u64 (n:Nat)] G H R:=by
 have b1:zaC .and .u64 1 4294967295=1:=by decide
 have b2:zaC .and .u64 (n:Int) 4294967295=(n:Int):=zq7 Ko
 have b3:zaC .and .u64 0 4294967295=0:=by decide
 refine FnT.body tok [0,1,4,5,6,7,8,9,10,11,12,13] Tryz.func138 rfl Kk Kk (by show _≤51;simp) fun hsep=>?_
 rw[Tryz.results138]
 have hE:=hsep
 try simp only[zzs] at hE
 repeat(obtain⟨hx',hE⟩:=hE)
 have hq:(n:Int) / 4294967296=0:=by omega
 have wz:IntKind.u64.wrap 0=0:=by decide
 repeat' first
  |with_reducible first|refine Nx.go ?_ |refine Bk.go (fun _=>?_) fun _=>?_ |refine Nb fun nb hnb hnb1 hnb2=>?_
  |simp -dsimp -implicitDefEqProofs (disch:=first|exact Kd|fail) only[go_sem,↓reduceIte,seval,b1,b2,b3,Int.zero_mul,Int.one_mul,Int.mul_zero,Int.add_zero,Int.zero_add,hq,wz]
 all_goals refine Upd.finL ?_ hR ?_
 any_goals first|exact Ks|skip
 all_goals rfl
theorem zx6 {n:Nat} (hn:n≤65536) {G:za} {H:zb} {R:Value→za→zb→Prop} (hR:R (.tuple #[.int .u64 0, .int .u64 (n:Nat)]) G H):FnT Tryz.prog 113 [.int .u64 1, .int .u64 (n:Nat)] G H R:=by
 refine FnT.body tok [0,1,4,5,6,7,8,9] Tryz.func113 rfl Kk Kk (by show _≤30;simp) fun hsep=>?_
 rw[Tryz.results113]
 have hE:=hsep
 try simp only[zzs] at hE
 repeat(obtain⟨hx',hE⟩:=hE)
 repeat' first
  |with_reducible first|refine Nx.go ?_ |refine Bk.go (fun _=>?_) fun _=>?_ |refine Nb fun nb hnb hnb1 hnb2=>?_ |refine Nr fun nb nsp ncap hnb hncap hnb1 hnb2=>?_
  |simp -dsimp -implicitDefEqProofs (disch:=first|exact Kd|fail) only[go_sem,↓reduceIte,seval]
  |with_reducible refine zwv hn ?_
 all_goals refine Upd.finL ?_ hR ?_
 any_goals first|exact Ks|skip
 all_goals rfl
def zcD (n k:Nat) (x:Int):List Value:=List.replicate k (.int .i64 x)++List.replicate (n - k) (.int .i64 0)
theorem zuU {n k:Nat} (h:k≤n) (x:Int):(zcD n k x).length=n:=by simp [zcD];omega
theorem zsQ (n:Nat) (x:Int):List.replicate n (Value.int .i64 0)=zcD n 0 x:=by simp [zcD]
theorem zuV (n:Nat) (x:Int):zcD n n x=List.replicate n (.int .i64 x):=by simp [zcD]
theorem zq8 {n:Nat} (h:1≤n) (x:Int):zi (zcD n 0 x) 0 [.int .i64 x]=zcD n 1 x:=by
 obtain⟨m,rfl⟩:=Nat.exists_eq_add_of_le h
 unfold zi zcD
 rw[show 1+m - 0=m+1 by omega,List.replicate_succ,show 1+m - 1=m by omega]
 simp
theorem zsR {n k m:Nat} (hk:k≤n) (hm:m≤k) (hmn:m≤n - k) (x:Int):zi (zcD n k x) k ((zcD n k x).take m)=zcD n (k+m) x:=by
 have h1:(zcD n k x).take m=List.replicate m (.int .i64 x):=by
  unfold zcD
  rw[List.take_append_of_le_length (by simp;exact hm),List.take_replicate,Nat.min_eq_left hm]
 rw[h1]
 unfold zi zcD
 have e1:(List.replicate k (Value.int .i64 x)++List.replicate (n - k) (Value.int .i64 0)).take k=List.replicate k (.int .i64 x):=by
  rw[List.take_append_of_le_length (by simp),List.take_of_length_le (by simp)]
 have e2:(List.replicate k (Value.int .i64 x)++List.replicate (n - k) (Value.int .i64 0)).drop (k+(List.replicate m (Value.int .i64 x)).length)=List.replicate (n - (k+m)) (.int .i64 0):=by
  rw[List.length_replicate,List.drop_append,List.length_replicate,List.drop_of_length_le (by simp),List.nil_append,List.drop_replicate]
  congr 1;omega
 rw[e1,e2,List.replicate_append_replicate]
set_option maxRecDepth 4000 in
theorem zuW {x:Int} {n:Nat} (h1:1≤n) (hn:n≤65536) {G:za} {H:zb} {R:Value→za→zb→Prop} {v:Value} (hv:Sl G (Value.int .i64) v [x])
  (hR: ∀b,Sep G (b::zk H)→R (.slice (some ⟨b,0,none⟩) n n) G ((b, .cells (List.replicate n (.int .i64 x)) [] 3)::H)):FnT Tryz.prog 89 [v, .int .i64 (n:Nat)] G H R:=by
 obtain⟨a,cap,rfl,hrow,hcap⟩:=hv
 have hw:IntKind.u64.wrap (n:Int)=n:=by
  unfold IntKind.wrap
  have hb:(IntKind.u64.bits)=64:=rfl
  simp [hb]
  omega
 refine FnT.body tok [0,1,4,5,6,7,8,10,26,37] Tryz.func89 rfl Kk Kk (by show _≤48;simp) fun hsep=>?_
 rw[Tryz.results89]
 have hE:=hsep
 try simp only[zzs] at hE
 repeat(obtain⟨hx',hE⟩:=hE)
 repeat' first
  |with_reducible first|refine Nx.go ?_ |refine Bk.go (fun _=>?_) fun _=>?_ |refine Nb fun nb hnb hnb1 hnb2=>?_ |refine Nr fun nb nsp ncap hnb hncap hnb1 hnb2=>?_
  |simp -dsimp -implicitDefEqProofs (disch:=first|exact Kd|fail) only[go_sem,↓reduceIte,seval,hw]
 all_goals try(exfalso;omega)
 refine zx6 hn ?_
 repeat' first
  |with_reducible first|refine Nx.go ?_ |refine Bk.go (fun _=>?_) fun _=>?_ |refine Nb fun nb hnb hnb1 hnb2=>?_ |refine Nr fun nb nsp ncap hnb hncap hnb1 hnb2=>?_
  |simp -dsimp -implicitDefEqProofs (disch:=first|exact Kd|fail) only[go_sem,↓reduceIte,seval,hw,Nat.sub_self,List.replicate_zero,Row.rdSlAll hrow]
 rw[zsQ n x,zq8 h1,show min 1 n=1 by omega]
 refine Tri.loopU tok [0,1,4,5,6,7,8,10,26,37] Kk [4,7,8] (fun q G' fr H'=> ∃k:Nat,k+q=n+1∧1≤k∧k≤n∧G'=G∧H'=(nb, .cells (zcD n k x) [] 3)::H∧fr=[(4, .slice none 0 0),(7, .slice (some ⟨nb,0,none⟩) n n),(8, .int .i64 (k:Nat))]) (n) ?_ ?_
 ·exact Upd.now ⟨1,by omega,Nat.le_refl 1,h1,rfl,rfl,rfl⟩
 ·rintro q G1 fr H' hle hs1 ⟨k,hkq,hk1,hkn,rfl,rfl,rfl⟩
  have hE:=hs1
  try simp only[zzs] at hE
  repeat(obtain⟨hx',hE⟩:=hE)
  have hql:=zuU (n:=n) (k:=k) Ko x
  by_cases hk:k<n
  ·have hsa:zbg nb 0 k n k=⟨nb,k,none⟩:=by unfold zbg;rw[if_neg Ko,Nat.zero_add]
   have hmore:=zsR (n:=n) (k:=k) (m:=min k (n - k)) Ko Ko Ko x
   have htl:(List.take (min k (n - k)) (zcD n k x)).length=min k (n - k):=by rw[List.length_take,hql];omega
   have hone:(List.take (min k (n - k)) (zcD n k x)).all zax=true:=by
    rw[List.all_eq_true]
    intro y hy
    have:=List.mem_of_mem_take hy
    unfold zcD at this
    rw[List.mem_append,List.mem_replicate,List.mem_replicate] at this
    rcases this with ⟨_,rfl⟩| ⟨_,rfl⟩ <;> rfl
   repeat' first
    |with_reducible first|refine Nx.go ?_ |refine Bk.go (fun _=>?_) fun _=>?_ |refine Nb fun nb hnb hnb1 hnb2=>?_ |refine Nr fun nb nsp ncap hnb hncap hnb1 hnb2=>?_
    |with_reducible refine Tri.drawM tok mixed [0,1,4,5,6,7,8,10,26,37] 9 [] (.op 0 .plain (.op 1 .plain (.op 2 .plain (.op 3 .plain (.op 4 .plain (.op 5 .plain (.op 6 .plain (.op 7 .keeps (.op 8 .plain (.op 9 .plain .nil)))))))))) Kk [] (List.nil_sublist _) ?_
    |simp -dsimp -implicitDefEqProofs (disch:=first|exact Kd|fail) only[go_sem,↓reduceIte,seval,hsa,Nat.sub_zero,htl,hone,hmore]
   exact Upd.now ⟨q - min k (n - k),by omega,k+min k (n - k),by omega,by omega,by omega,rfl,rfl,rfl⟩
  ·obtain rfl:k=n:=by omega
   repeat' first
    |with_reducible first|refine Nx.go ?_ |refine Bk.go (fun _=>?_) fun _=>?_ |refine Nb fun nb hnb hnb1 hnb2=>?_ |refine Nr fun nb nsp ncap hnb hncap hnb1 hnb2=>?_
    |simp -dsimp -implicitDefEqProofs (disch:=first|exact Kd|fail) only[go_sem,↓reduceIte,seval]
   rw[zuV]
   unfold zz
   exact Upd.now (hR nb hs1)
def atR (n:Nat) (l:List Int):List Value:=(List.range n).map fun t:Nat=> .int .i64 (zp l (t:Int))
theorem zek (n:Nat) (l:List Int):(atR n l).length=n:=by simp [atR]
theorem zpv {n:Nat} (l:List Int) {t:Nat} (h:t<n):(atR n l)[t]? =some (.int .i64 (zp l (t:Int))):=by
 unfold atR;rw[List.getElem?_map,List.getElem?_range h];rfl
theorem zjG {n:Nat} (l:List Int) {t:Nat} (h:t<n):(atR n l)[t]'(by rw[zek];exact h)= .int .i64 (zp l (t:Int)):=by simp [atR]
theorem zsS (x:Int):zp [] x= -1:=rfl
theorem zww (n:Nat):List.replicate n (Value.int .i64 (-1))=atR n []:=by
 apply List.ext_getElem
 ·simp [atR]
 ·intro i h1 h2;simp [atR,zsS]
theorem zq9 {l:List Int} {s t:Int} (h:s∉l):zp (l++[s]) t=if t=s then(l.length:Int) else zp l t:=by
 by_cases e:t=s
 ·subst e
  rw[if_pos rfl]
  unfold zp
  rw[zcV h]
 ·rw[if_neg e]
  by_cases ht:t∈l
  ·unfold zp;rw[zlD ht]
  ·have h2:t∉l++[s]:=by
    rw[List.mem_append,List.mem_singleton]
    rintro(h3|h3)
    ·exact ht h3
    ·exact e h3
   unfold zp;rw[zbt ht,zbt h2]
theorem zwx {n:Nat} {l:List Int} {s:Nat} (hs:s<n) (h:(s:Int)∉l):zi (atR n l) s [.int .i64 (l.length:Nat)]=atR n (l++[(s:Int)]):=by
 unfold zi
 apply List.ext_getElem
 ·simp [zek];omega
 ·intro j h1 h2
  rw[zek] at h2
  rw[zjG _ h2,zq9 h]
  have hl:((atR n l).take s).length=s:=by rw[List.length_take,zek];omega
  rcases Nat.lt_trichotomy j s with hj|hj|hj
  ·rw[List.getElem_append_left (by rw[List.length_append,hl];omega),List.getElem_append_left Ko,List.getElem_take,zjG l h2,if_neg Ko]
  ·subst hj
   rw[List.getElem_append_left (by rw[List.length_append,hl];simp),List.getElem_append_right Ko]
   simp [hl]
  ·rw[List.getElem_append_right (by rw[List.length_append,hl];simp;omega),List.getElem_drop,if_neg Ko]
   simp only[List.length_append,hl,List.length_singleton]
   have:(atR n l)[s+1+(j - (s+1))]'(by rw[zek];omega)=(atR n l)[j]'(by rw[zek];exact h2):=by congr 1;omega
   rw[this,zjG l h2]
theorem zd4 {l:List Int} {t:Int}:0≤zp l t↔t∈l:=by
 constructor
 ·intro h
  exact Classical.byContradiction fun hn=>by
   unfold zp at h
   rw[zbt hn] at h
   simp at h
 ·intro h
  obtain⟨n,hn⟩:=zS h
  unfold zp;rw[hn];exact Int.natCast_nonneg n
theorem zny:V.Callee Tryz.prog 89:=⟨_,_,Tryz.func89,rfl,by kernel_rfl⟩
theorem zuX {n:Nat} (h1:1≤n) (hn:n≤65536) {l:List Int} (hl:l.length≤2000000) {G:za} {H:zb} {R:Value→za→zb→Prop} {v:Value} (hv:Sl G (Value.int .i64) v l)
  (hR: ∀G' b,PLe G G'→Sep G' (b::zk H)→zaQ n l→R (.tuple #[.slice (some ⟨b,0,none⟩) n n, .bool (decide (l.head? =some 0))]) G' ((b, .cells (atR n l) [] 3)::H))
  (hR2: ∀G',PLe G G'→Sep G' (zk H)→ ¬zaQ n l→R (.tuple #[.slice none 0 0, .bool false]) G' H):FnT Tryz.prog 58 [.int .i64 (n:Nat),v] G H R:=by
 obtain⟨a,cap,rfl,hrow,hcap⟩:=hv
 refine FnT.body tok [0,1,4,5,6,7,8,12,13,14,15,32] Tryz.func58 rfl Kk Kk (by show _≤48;simp) fun hsep=>?_
 rw[Tryz.results58]
 have hE:=hsep
 try simp only[zzs] at hE
 repeat(obtain⟨hx',hE⟩:=hE)
 repeat' first
  |with_reducible first|refine Nx.go ?_ |refine Bk.go (fun _=>?_) fun _=>?_ |refine Nb fun nb hnb hnb1 hnb2=>?_ |refine Nr fun nb nsp ncap hnb hncap hnb1 hnb2=>?_
  |simp -dsimp -implicitDefEqProofs (disch:=first|exact Kd|fail) only[go_sem,↓reduceIte,seval,List.replicate_one]
 refine FnT.pre zny (Upd.shareRow Ka fun G2 hle2 hs2 hr2=>?_)
 refine zuW (x:= -1) h1 hn ⟨some ⟨nb,0,none⟩,1,rfl,hr2,Nat.le_refl 1⟩ fun b hb=>?_
 rw[zww]
 have hE:=hb
 try simp only[zzs] at hE
 repeat(obtain⟨hx',hE⟩:=hE)
 have hrow2:=hrow.mono hle2
 repeat' first
  |with_reducible first|refine Nx.go ?_ |refine Bk.go (fun _=>?_) fun _=>?_ |refine Nb fun nb hnb hnb1 hnb2=>?_ |refine Nr fun nb nsp ncap hnb hncap hnb1 hnb2=>?_
  |simp -dsimp -implicitDefEqProofs (disch:=first|exact Kd|fail) only[go_sem,↓reduceIte,seval]
 refine Tri.loopU tok [0,1,4,5,6,7,8,12,13,14,15,32] Kk [0,1,4,5,6,12,13,14] (fun q G' fr H'=> ∃i:Nat,i+q=l.length∧zaQ n (l.take i)∧G'=G2∧H'=(b, .cells (atR n (l.take i)) [] 3)::H∧fr=[(0, .int .i64 (n:Nat)),(1, .slice a l.length cap),(4, .slice none 0 0),(5, .bool false),(6, .slice (some ⟨b,0,none⟩) n n),(12, .slice a l.length cap),(13, .int .i64 l.length),(14, .int .i64 (i:Nat))]) (l.length) ?_ ?_
 ·refine Upd.now ?_
  exact⟨0,by omega,⟨by rw[List.take_zero];exact List.nodup_nil,fun x hx=>by rw[List.take_zero] at hx;cases hx⟩,rfl,by rw[List.take_zero],rfl⟩
 ·rintro q G1 fr H' hle hs1 ⟨i,hiq,hO,rfl,rfl,rfl⟩
  have hE:=hs1
  try simp only[zzs] at hE
  repeat(obtain⟨hx',hE⟩:=hE)
  by_cases hil:i<l.length
  ·have had:Adr a:=hrow.adr (by rw[List.length_map];omega)
   have htk:=List.take_succ_eq_append_getElem hil
   have htl:(l.take i).length=i:=by rw[List.length_take];omega
   by_cases hbad:l[i] <0∨(n:Int)≤l[i]∨l[i]∈l.take i
   ·have hno: ¬zaQ n l:=fun h=>by
     rcases hbad with hb1|hb1|hb1
     ·have:=(h.2 _ (List.getElem_mem hil)).1;omega
     ·have:=(h.2 _ (List.getElem_mem hil)).2;omega
     ·have h2:=h.1.sublist (List.take_sublist (i+1) l)
      rw[htk,List.nodup_append] at h2
      exact h2.2.2 _ hb1 _ (List.mem_singleton.2 rfl) rfl
    by_cases hr:0≤l[i]∧l[i] <n
    ·obtain⟨s,hs⟩:=Int.eq_ofNat_of_zero_le hr.1
     have hsn:s<n:=by omega
     have hmem:l[i]∈l.take i:=by rcases hbad with hb1|hb1|hb1 <;> first|omega|exact hb1
     rw[hs] at hmem
     have hg:=zpv (l.take i) hsn
     have hf:=zd4.2 hmem
     generalize hfv:zp (l.take i) (s:Int)=fv at *
     repeat' first
      |with_reducible first|refine Nx.go ?_ |refine Bk.go (fun _=>?_) fun _=>?_ |refine Nb fun nb hnb hnb1 hnb2=>?_ |refine Nr fun nb nsp ncap hnb hncap hnb1 hnb2=>?_
      |simp -dsimp -implicitDefEqProofs (disch:=first|exact Kd|fail) only[go_sem,↓reduceIte,seval,Row.obj hrow2,List.getElem_map,hs,hg]
     all_goals try(exfalso;omega)
     unfold zz
     exact Upd.go (H':=H) Ks (Upd.now (hR2 G1 hle2 Ka hno))
    ·repeat' first
      |with_reducible first|refine Nx.go ?_ |refine Bk.go (fun _=>?_) fun _=>?_ |refine Nb fun nb hnb hnb1 hnb2=>?_ |refine Nr fun nb nsp ncap hnb hncap hnb1 hnb2=>?_
      |simp -dsimp -implicitDefEqProofs (disch:=first|exact Kd|fail) only[go_sem,↓reduceIte,seval,Row.obj hrow2,List.getElem_map]
     all_goals try(exfalso;omega)
     all_goals unfold zz
     all_goals exact Upd.go (H':=H) Ks (Upd.now (hR2 G1 hle2 Ka hno))
   ·have hb1:0≤l[i]∧l[i] <n:=by omega
    have hb2:l[i]∉l.take i:=fun h=>hbad (.inr (.inr h))
    obtain⟨s,hs⟩:=Int.eq_ofNat_of_zero_le hb1.1
    have hsn:s<n:=by omega
    have hO2:zaQ n (l.take (i+1)):=by
     have h3:=hO.add1 hb1
     unfold add1 at h3
     rw[if_neg hb2,←htk] at h3
     exact h3
    rw[hs] at hb2
    have hg:=zpv (l.take i) hsn
    have hf:zp (l.take i) (s:Int) <0:=by
     rcases Int.lt_or_le (zp (l.take i) (s:Int)) 0 with h|h
     ·exact h
     ·exact absurd (zd4.1 h) hb2
    have hput:=zwx hsn hb2
    rw[htl,←hs,←htk] at hput
    have hal:=zek n (l.take i)
    generalize hfv:zp (l.take i) (s:Int)=fv at *
    repeat' first
     |with_reducible first|refine Nx.go ?_ |refine Bk.go (fun _=>?_) fun _=>?_ |refine Nb fun nb hnb hnb1 hnb2=>?_ |refine Nr fun nb nsp ncap hnb hncap hnb1 hnb2=>?_
     |simp -dsimp -implicitDefEqProofs (disch:=first|exact Kd|fail) only[go_sem,↓reduceIte,seval,Row.obj hrow2,List.getElem_map,hs,hg,hput]
    all_goals try(exfalso;omega)
    exact Upd.now ⟨q - 1,by omega,i+1,by omega,hO2,rfl,rfl,rfl⟩
  ·obtain rfl:i=l.length:=by omega
   rw[List.take_length] at hO hs1⊢
   by_cases hl0:l.length=0
   ·have hl1:l=[]:=List.eq_nil_of_length_eq_zero hl0
    have hh:decide (l.head? =some 0)=false:=by rw[hl1];rfl
    rw[hh] at hR
    repeat' first
     |with_reducible first|refine Nx.go ?_ |refine Bk.go (fun _=>?_) fun _=>?_ |refine Nb fun nb hnb hnb1 hnb2=>?_ |refine Nr fun nb nsp ncap hnb hncap hnb1 hnb2=>?_
     |with_reducible refine Tri.drawH tok mixed [0,1,4,5,6,7,8,12,13,14,15,32] 9 [7] (.op 0 .plain (.op 1 .plain (.op 2 .plain (.op 3 .plain (.op 4 .plain (.op 5 .plain (.op 6 .plain (.op 7 .held (.op 8 .plain (.op 9 .plain (.op 10 .plain (.op 11 .plain .nil)))))))))))) Kk [1] ?_
     |simp -dsimp -implicitDefEqProofs (disch:=first|exact Kd|fail) only[go_sem,↓reduceIte,seval]
    all_goals try(exfalso;omega)
    unfold zz
    exact Upd.now (hR G1 b hle2 hs1 hO)
   ·have h0l:0<l.length:=by omega
    have had:Adr a:=hrow.adr (by rw[List.length_map];omega)
    have hhd:l.head? =some l[0]:=by rw[List.head?_eq_getElem?,List.getElem?_eq_getElem h0l]
    have hh:decide (l.head? =some 0)=decide (l[0]=0):=by rw[hhd];simp
    rw[hh] at hR
    have hob: ∀ (H:zb) (k:Value→Prop),zeZ G1 H (blk a) (G1 (blk a)) (ofs a) k=k (.int .i64 l[0]):=fun H k=>by
     have:=Row.obj hrow2 (i:=0) (by rw[List.length_map];omega) H k
     rw[Nat.add_zero,List.getElem_map] at this
     exact this
    repeat' first
     |with_reducible first|refine Nx.go ?_ |refine Bk.go (fun _=>?_) fun _=>?_ |refine Nb fun nb hnb hnb1 hnb2=>?_ |refine Nr fun nb nsp ncap hnb hncap hnb1 hnb2=>?_
     |with_reducible refine Tri.drawH tok mixed [0,1,4,5,6,7,8,12,13,14,15,32] 9 [7] (.op 0 .plain (.op 1 .plain (.op 2 .plain (.op 3 .plain (.op 4 .plain (.op 5 .plain (.op 6 .plain (.op 7 .held (.op 8 .plain (.op 9 .plain (.op 10 .plain (.op 11 .plain .nil)))))))))))) Kk [1] ?_
     |simp -dsimp -implicitDefEqProofs (disch:=first|exact Kd|fail) only[go_sem,↓reduceIte,seval,hob]
    all_goals try(exfalso;omega)
    unfold zz
    exact Upd.now (hR G1 b hle2 hs1 hO)
end Go.Proofs.YtefkpedhbijhkaaGreatDoor
namespace Go.Proofs.YtefkpedhbijhkaaGreatDoor
open Go Go.V Go.Proofs
theorem zuY (n:Nat) (l:List Int):atR n l=((List.range n).map fun t:Nat=>zp l (t:Int)).map (Value.int .i64):=by
 unfold atR;rw[List.map_map];rfl
def zcN (d:DfaT) (l:List Int) (s:Int):List Int:=(zE d s).map (zp l)
def za5 (d:DfaT) (l:List Int):List Int:=l.map fun s=>d.label.getD s.toNat 0
def zaf (d:DfaT) (l:List Int):DfaT:=⟨d.of,d.width,l.map (zcN d l),za5 d l,d.names⟩
def zkC (d:DfaT) (l:List Int) (s:Int):Prop:= ∀t∈zE d s,t∈l
def zb1 (d:DfaT) (l:List Int):Prop:=(zaQ d.label.length l∧l.head? =some 0)∧ ∀s∈l,zkC d l s
noncomputable def zfg (d:DfaT) (l:List Int):DfaT×Int:=
 haveI:=Classical.propDecidable;if zd d then if zb1 d l then(zaf d l,0) else(zal,1) else(zal,6)
theorem zlT {d:DfaT} {l:List Int} (h: ¬zd d):zfg d l=(zal,6):=by unfold zfg;rw[if_neg h]
theorem zio {d:DfaT} {l:List Int} (h:zd d) (h2: ¬zb1 d l):zfg d l=(zal,1):=by unfold zfg;rw[if_pos h,if_neg h2]
theorem znz {d:DfaT} {l:List Int} (h:zd d) (h2:zb1 d l):zfg d l=(zaf d l,0):=by unfold zfg;rw[if_pos h,if_pos h2]
def znA (d:DfaT) (l:List Int) (j:Nat) (vl:Value) (kl:zb):Prop:=
 (j=0∧vl= .slice none 0 0∧kl=[])∨ ∃bl c2 sp2,vl= .slice (some ⟨bl,0,none⟩) j c2∧kl=[(bl, .cells (((za5 d l).take j).map (Value.int .i64)) sp2 3)]∧j+sp2.length=c2
theorem zx7 {d:DfaT} (hsm:zt d) {C:List Value} {an al ay:Option Addr} {cn cl cs:Nat} {rs:List Value} {G:za} {H:zb} (O:OpenD G d C an al ay cn cl cs rs) {v0 v1 v6 v7:Value} {b2 b4:Nat}:
  Tri Tryz.prog Tryz.f31.ntmps (piece [1,1,1,1,0] Tryz.f31) G [(0,v0),(1,v1),(2, .pointer (some ⟨b2,0,none⟩)),(4, .pointer (some ⟨b4,0,none⟩)),(5, .int .i64 0),(6,v6),(7,v7)] ((b4, .cells zF [] 27):: (b2, .cells C [] 27)::H) (onlyN fun G' fr' H'=>
   ∃b7 vs,PLe G G'∧Sl G' str vs d.names∧zy [0,1,2,4,5,6,7,8] fr'=[(0,v0),(1,v1),(2, .pointer (some ⟨b2,0,none⟩)),(4, .pointer (some ⟨b4,0,none⟩)),(5, .int .i64 0),(6,v6),(7,v7),(8, .pointer (some ⟨b7,0,none⟩))]∧H'=(b7, .cells (zc d (.slice none 0 0) (.slice none 0 0) vs) [] 27):: (b4, .cells zF [] 27):: (b2, .cells C [] 27)::H):=by
 obtain⟨hm1,hm2,hm3,hm4,hm5⟩:=id hsm
 have hCl:=O.len
 have hCw:=O.w
 have hCs:=O.s
 have hCo:=O.of
 have hofl:(u8L d.of).length=256:=by rw[List.length_map,O.ofl]
 have hb1:=zeg O.ofl
 have hb2:=zeh O.ofl
 have hl1:(u8L d.of++[Value.int .i64 0,Value.slice none 0 0,Value.slice none 0 0,Value.slice none 0 0]).length=260:=by rw[List.length_append,hofl];rfl
 have hl2: ∀v:Value,(zc d (.slice none 0 0) (.slice none 0 0) v).length=260:=fun v=>zab O.ofl _ _ _
 have hb3:=zei O.ofl (.slice none 0 0) (.slice none 0 0) (.slice none 0 0)
 have hputz: ∀v:Value,zi zF 0 (zc d (.slice none 0 0) (.slice none 0 0) v)=zc d (.slice none 0 0) (.slice none 0 0) v:=fun v=>by
  unfold zi
  rw[List.take_zero,List.nil_append,List.drop_of_length_le (by rw[zn,hl2];omega),List.append_nil]
 refine Tri.sepT fun hs0=>?_
 have hE:=hs0
 try simp only[zzs] at hE
 repeat(obtain⟨hx',hE⟩:=hE)
 refine Tri.piece (f:=Tryz.f31) rfl ?_
 refine Tri.run tok [0,1,2,4,5,6,7,8,10,11,12,13,16,27,37,38,39,40,50,51,52,53,61] Kk ?_
 repeat' first
  |with_reducible first|refine Nx.go ?_ |refine Bk.go (fun _=>?_) fun _=>?_ |refine Nb fun nb hnb hnb1 hnb2=>?_ |refine Nr fun nb nsp ncap hnb hncap hnb1 hnb2=>?_
  |with_reducible refine Tri.drawH tok mixed [0,1,2,4,5,6,7,8,10,11,12,13,16,27,37,38,39,40,50,51,52,53,61] 6 [1,3,5] (.op 0 .plain (.op 1 .held (.op 2 .plain (.op 3 .held (.op 4 .plain (.op 5 .held (.both (.op 6 .keeps (.op 7 .plain (.op 8 .keeps (.op 9 .plain .nil)))) (.op 8 .keeps (.op 6 .keeps (.op 7 .plain (.op 9 .plain .nil))))))))))) Kk [2] ?_
  |with_reducible refine Tri.drawM tok mixed [0,1,2,4,5,6,7,8,10,11,12,13,16,27,37,38,39,40,50,51,52,53,61] 19 [1,3,6] (.op 0 .plain (.op 1 .held (.op 2 .plain (.op 3 .held (.op 4 .plain (.op 5 .plain (.op 6 .held (.op 7 .keeps (.op 8 .keeps (.op 9 .plain (.op 10 .plain .nil))))))))))) Kk _ (List.Sublist.refl _) ?_
  |simp -dsimp -implicitDefEqProofs (disch:=first|exact Kd|fail) only[go_sem,↓reduceIte,seval, -List.reduceReplicate,List.toList_toArray,hCl,hCw,hCs,hCo,hofl,hb1,hb2,hb3,hl1,hl2,zn,zag,hputz]
  | ((with_reducible refine zfI d.names hm4 O.names fun G4 v4 hle4 hs4 hsl4=>?_);obtain⟨ay4,cy4,rfl,hr4,hc4⟩:=hsl4;have hone:=za3 (d:=d) (vn:= .slice none 0 0) (vl:= .slice none 0 0) (vs:= .slice ay4 d.names.length cy4) rfl rfl rfl;(have hE:=hs4;try simp only[zzs] at hE;repeat(obtain⟨hx',hE⟩:=hE)))
  | (with_reducible refine And.intro ?_ ?_)
 all_goals exact Upd.now ⟨nb,_,hle4,⟨ay4,cy4,rfl,hr4,hc4⟩,rfl,rfl⟩
theorem zsT {d:DfaT} {l:List Int} {C:List Value} {an al ay:Option Addr} {cn cl cs:Nat} {rs:List Value} {G:za} {H:zb} (O:OpenD G d C an al ay cn cl cs rs) {v0 v1 v6 v7 v35 v36 v37:Value} {b2 b4 b7:Nat} {j t:Nat} (hj:j<l.length) (hjb:j<65536) (ht:t<d.label.length) (hsj:l[j]=(t:Int)) {vn vl vs:Value} {kl:zb} (hout:znA d l j vl kl):
  Tri Tryz.prog Tryz.f31.ntmps (piece [1,1,1,1,1,0,1,0,0,1,1,0,0,1,1,1,1] Tryz.f31) G [(0,v0),(1,v1),(2, .pointer (some ⟨b2,0,none⟩)),(4, .pointer (some ⟨b4,0,none⟩)),(5, .int .i64 0),(6,v6),(7,v7),(8, .pointer (some ⟨b7,0,none⟩)),(10, .int .i64 (t:Nat)),(37,v35),(38,v36),(39,v37)] ((b7, .cells (zc d vn vl vs) [] 27):: (b2, .cells C [] 27):: (kl++H)) (onlyN fun G' fr' H'=>
   ∃vl' kl',G'=G∧znA d l (j+1) vl' kl'∧zy [0,1,2,4,5,6,7,8,37,38,39] fr'=[(0,v0),(1,v1),(2, .pointer (some ⟨b2,0,none⟩)),(4, .pointer (some ⟨b4,0,none⟩)),(5, .int .i64 0),(6,v6),(7,v7),(8, .pointer (some ⟨b7,0,none⟩)),(37,v35),(38,v36),(39,v37)]∧H'=(b7, .cells (zc d vn vl' vs) [] 27):: (b2, .cells C [] 27):: (kl'++H)):=by
 have hCl:=O.len
 have hCx:=O.l
 have hl2: ∀a b c:Value,(zc d a b c).length=260:=fun a b c=>zab O.ofl _ _ _
 have hg2: ∀a b c:Value,(zc d a b c)[258]? =some b:=fun a b c=>zcX O.ofl _ _ _
 have hputL: ∀a b c x:Value,zi (zc d a b c) 258 [x]=zc d a x c:=fun a b c x=>zbn O.ofl _ _ _ _
 have hlt:d.label[t]=d.label.getD t 0:=by rw[List.getD_eq_getElem?_getD,List.getElem?_eq_getElem ht];rfl
 have hlab:(za5 d l).take (j+1)=(za5 d l).take j++[d.label.getD t 0]:=by
  have hjl:j< (za5 d l).length:=by unfold za5;rw[List.length_map];exact hj
  rw[List.take_succ_eq_append_getElem hjl]
  congr 2
  simp only[za5,List.getElem_map,hsj,Int.toNat_natCast]
 have hlj:((za5 d l).take j).length=j:=by rw[List.length_take];unfold za5;rw[List.length_map];omega
 have had2:Adr al:=O.rl.adr (by rw[List.length_map];omega)
 refine Tri.sepT fun hs0=>?_
 rcases hout with ⟨hj0,rfl,rfl⟩| ⟨bl,c2,sp2,rfl,rfl,hc2⟩
 ·have hE:=hs0
  try simp only[zzs] at hE
  repeat(obtain⟨hx',hE⟩:=hE)
  have hce:((za5 d l).take (j+1)).map (Value.int .i64)=[Value.int .i64 (d.label.getD t 0)]:=by rw[hlab,List.map_append,List.eq_nil_of_length_eq_zero (hlj.trans hj0)];rfl
  refine Tri.piece (f:=Tryz.f31) rfl ?_
  refine Tri.run tok [0,1,2,4,5,6,7,8,10,11,12,13,16,27,37,38,39,40,50,51,52,53,61] Kk ?_
  repeat' first
   |with_reducible first|refine Nx.go ?_ |refine Bk.go (fun _=>?_) fun _=>?_ |refine Nb fun nb hnb hnb1 hnb2=>?_ |refine Nr fun nb nsp ncap hnb hncap hnb1 hnb2=>?_
   |simp -dsimp -implicitDefEqProofs (disch:=first|exact Kd|fail) only[go_sem,↓reduceIte,seval, -List.reduceReplicate,List.replicate_one,List.toList_toArray,hCl,hCx,hl2,hg2,hputL,Row.obj O.rl,List.getElem_map,hlt,Int.toNat_natCast,Nat.sub_self]
   |with_reducible refine Tri.drawH tok mixed [0,1,2,4,5,6,7,8,10,11,12,13,16,27,37,38,39,40,50,51,52,53,61] 19 [1,3,6] (.op 0 .plain (.op 1 .held (.op 2 .plain (.op 3 .held (.op 4 .plain (.op 5 .plain (.op 6 .held (.op 7 .keeps (.op 8 .keeps (.op 9 .plain (.op 10 .plain .nil))))))))))) Kk [8,2] ?_
  rw[←hce]
  exact Upd.go (H':=(b7, .cells (zc d vn (.slice (some ⟨nb,0,none⟩) 1 ncap) vs) [] 27):: (b2, .cells C [] 27):: ([(nb, .cells (((za5 d l).take (j+1)).map (Value.int .i64)) nsp 3)]++H)) Ks (Upd.now ⟨.slice (some ⟨nb,0,none⟩) 1 ncap,_,rfl, .inr ⟨nb,ncap,nsp,by rw[hj0],rfl,by omega⟩,rfl,rfl⟩)
 ·have hE:=hs0
  try simp only[zzs] at hE
  repeat(obtain⟨hx',hE⟩:=hE)
  obtain⟨ps,hps,hpl⟩: ∃ps,ps=((za5 d l).take j).map (Value.int .i64)∧ps.length=j:=⟨_,rfl,by rw[List.length_map,hlj]⟩
  have hce:((za5 d l).take (j+1)).map (Value.int .i64)=ps++[Value.int .i64 (d.label.getD t 0)]:=by rw[hlab,List.map_append,←hps];rfl
  rw[←hps]
  refine Tri.piece (f:=Tryz.f31) rfl ?_
  refine Tri.run tok [0,1,2,4,5,6,7,8,10,11,12,13,16,27,37,38,39,40,50,51,52,53,61] Kk ?_
  repeat' first
   |with_reducible first|refine Nx.go ?_ |refine Bk.go (fun _=>?_) fun _=>?_ |refine Nb fun nb hnb hnb1 hnb2=>?_ |refine Nr fun nb nsp ncap hnb hncap hnb1 hnb2=>?_
   |simp -dsimp -implicitDefEqProofs (disch:=first|exact Kd|fail) only[go_sem,↓reduceIte,seval, -List.reduceReplicate,List.replicate_one,List.toList_toArray,hCl,hCx,hl2,hg2,hputL,Row.obj O.rl,List.getElem_map,hlt,Int.toNat_natCast,Nat.sub_self]
   |with_reducible refine Tri.drawH tok mixed [0,1,2,4,5,6,7,8,10,11,12,13,16,27,37,38,39,40,50,51,52,53,61] 19 [1,3,6] (.op 0 .plain (.op 1 .held (.op 2 .plain (.op 3 .held (.op 4 .plain (.op 5 .plain (.op 6 .held (.op 7 .keeps (.op 8 .keeps (.op 9 .plain (.op 10 .plain .nil))))))))))) Kk [8,2] ?_
  rw[←hce]
  exact Upd.go (H':=(b7, .cells (zc d vn (.slice (some ⟨nb,0,none⟩) (j+1) ncap) vs) [] 27):: (b2, .cells C [] 27):: ([(nb, .cells (((za5 d l).take (j+1)).map (Value.int .i64)) nsp 3)]++H)) Ks (Upd.now ⟨_,_,rfl, .inr ⟨nb,ncap,nsp,rfl,rfl,by omega⟩,rfl,rfl⟩)
end Go.Proofs.YtefkpedhbijhkaaGreatDoor
namespace Go.Proofs.YtefkpedhbijhkaaGreatDoor
open Go Go.V Go.Proofs
def zuZ (d:DfaT) (l:List Int) (G':za) (j:Nat) (vn:Value) (kn:zb):Prop:=
 (j=0∧vn= .slice none 0 0∧kn=[])∨ ∃bn c1 rv sp1,vn= .slice (some ⟨bn,0,none⟩) j c1∧kn=[(bn, .cells rv sp1 24)]∧rv.length=j∧j+sp1.length=c1∧
  ∀i (h:i<j) (h2:i<rv.length) (h3:i<l.length),∃b c,rv[i]= .slice b (zcN d l l[i]).length c∧Row G' b ((zcN d l l[i]).map (Value.int .i64))∧(zcN d l l[i]).length≤c
theorem zyS {d:DfaT} (hsm:zt d) (hok:zd d) {l:List Int} (hO:zaQ d.label.length l) {C:List Value} {an al ay:Option Addr} {cn cl cs:Nat} {rs:List Value} {G:za} {H:zb} (O:OpenD G d C an al ay cn cl cs rs) {v0 v1 v7:Value} {b2 b4 b7:Nat} {an3 ah:Option Addr} {cn3 ch:Nat} (hr3:Row G an3 (((List.range d.label.length).map fun t:Nat=>zp l (t:Int)).map (Value.int .i64))) (hrh:Row G ah ((l).map (Value.int .i64))) {j:Nat} (hj:j<l.length) {vn vl vs:Value} {kn kl:zb} (hout:zuZ d l G j vn kn) (hlab0:znA d l j vl kl) (hvs:zax vs=true) (hfine:zkC d l (l[j]'hj)):
  Tri Tryz.prog Tryz.f31.ntmps (piece [1,1,1,1,1,0,1,0,0,1,1,0,0] Tryz.f31) G [(0,v0),(1,v1),(2, .pointer (some ⟨b2,0,none⟩)),(4, .pointer (some ⟨b4,0,none⟩)),(5, .int .i64 0),(6, .slice an3 d.label.length cn3),(7,v7),(8, .pointer (some ⟨b7,0,none⟩)),(37, .slice ah l.length ch),(38, .int .i64 l.length),(39, .int .i64 (j:Nat))] ((b7, .cells (zc d vn vl vs) [] 27):: (b2, .cells C [] 27):: (kn++(kl++H))) (onlyN fun G' fr' H'=>
   ∃vn' vl' kn' kl',PLe G G'∧zuZ d l G' (j+1) vn' kn'∧znA d l (j+1) vl' kl'∧zy [0,1,2,4,5,6,7,8,37,38,39] fr'=[(0,v0),(1,v1),(2, .pointer (some ⟨b2,0,none⟩)),(4, .pointer (some ⟨b4,0,none⟩)),(5, .int .i64 0),(6, .slice an3 d.label.length cn3),(7,v7),(8, .pointer (some ⟨b7,0,none⟩)),(37, .slice ah l.length ch),(38, .int .i64 l.length),(39, .int .i64 (j:Nat))]∧H'=(b7, .cells (zc d vn' vl' vs) [] 27):: (b2, .cells C [] 27):: (kn'++(kl'++H))):=by
 obtain⟨hm1,hm2,hm3,hm4,hm5⟩:=id hsm
 obtain⟨hk1,hk2,hk3,hk4,hk5,hk6,hk7⟩:=id hok
 have hal:(((List.range d.label.length).map fun t:Nat=>zp l (t:Int)).map (Value.int .i64)).length=d.label.length:=by rw[List.length_map,List.length_map,List.length_range]
 have hCl:=O.len
 have hCw:=O.w
 have hCn:=O.n
 have hCx:=O.l
 have hl2: ∀a b c:Value,(zc d a b c).length=260:=fun a b c=>zab O.ofl _ _ _
 have hg1: ∀a b c:Value,(zc d a b c)[257]? =some a:=fun a b c=>zdG O.ofl _ _ _
 have hg2: ∀a b c:Value,(zc d a b c)[258]? =some b:=fun a b c=>zcX O.ofl _ _ _
 have hputN: ∀a b c x:Value,zi (zc d a b c) 257 [x]=zc d x b c:=fun a b c x=>zca O.ofl _ _ _ _
 have hputL: ∀a b c x:Value,zi (zc d a b c) 258 [x]=zc d a x c:=fun a b c x=>zbn O.ofl _ _ _ _
 have hjm:=hO.2 _ (List.getElem_mem hj)
 obtain⟨t,hsj⟩:=Int.eq_ofNat_of_zero_le hjm.1
 have htl:t<d.label.length:=by omega
 have htn:t<d.next.length:=by omega
 have htl2:t<d.label.length:=by omega
 have htv:t<rs.length:=by have:=O.rnl;omega
 obtain⟨b,c,e1,e2,e3⟩:=O.rs t htn htv
 obtain⟨hw0,hlt0,hlt1,hrng⟩:=hk7 t htn htl2
 obtain⟨row,hrow⟩: ∃row,row=d.next[t]:=⟨_,rfl⟩
 have hrl:=hm2 _ (List.getElem_mem htn)
 rw[←hrow] at e1 e2 e3 hw0 hrng hrl
 have hw:d.width=(row.length:Int):=hw0.symm
 obtain⟨r,hr⟩: ∃r,r=zcN d l (t:Nat):=⟨_,rfl⟩
 have hr':r=row.map (zp l):=by rw[hr];unfold zcN;rw[zak htn,hrow]
 have hfr: ∀x∈row,x∈l:=fun x hx=>by
  have h1:=hfine x
  rw[hsj,zak htn,←hrow] at h1
  exact h1 hx
 have hrlen:r.length=row.length:=by rw[hr',List.length_map]
 have hlt:d.label[t]=d.label.getD t 0:=by rw[List.getD_eq_getElem?_getD,List.getElem?_eq_getElem htl2];rfl
 have hlab:(za5 d l).take (j+1)=(za5 d l).take j++[d.label.getD t 0]:=by
  have hjl:j< (za5 d l).length:=by unfold za5;rw[List.length_map];exact hj
  rw[List.take_succ_eq_append_getElem hjl]
  congr 2
  simp only[za5,List.getElem_map,hsj,Int.toNat_natCast]
 have hlj:((za5 d l).take j).length=j:=by rw[List.length_take];unfold za5;rw[List.length_map];omega
 have hrj:zcN d l l[j]=r:=by rw[hsj,hr]
 have had:Adr an:=O.rn.adr Ko
 have had2:Adr al:=O.rl.adr (by rw[List.length_map];omega)
 have had3:Adr ah:=hrh.adr (by rw[List.length_map];omega)
 have had4:Adr an3:=hr3.adr (by rw[List.length_map,List.length_map,List.length_range];omega)
 have hjb:j<65536:=by
  have h1:=hO.len
  omega
 refine Tri.sepT fun hs0=>?_
 have hE:=hs0
 try simp only[zzs] at hE
 repeat(obtain⟨hx',hE⟩:=hE)
 refine Tri.piece (f:=Tryz.f31) rfl ?_
 refine Tri.runS tok [0,1,2,4,5,6,7,8,10,11,12,13,16,27,37,38,39,40,50,51,52,53,61] (.seq .run (.seq .run (.seq .run (.seq .run .cut)))) Kk ?_
 repeat' first
  |with_reducible first|refine Nx.go ?_ |refine Bk.go (fun _=>?_) fun _=>?_ |refine Nb fun nb hnb hnb1 hnb2=>?_ |refine Nr fun nb nsp ncap hnb hncap hnb1 hnb2=>?_
  |simp -dsimp -implicitDefEqProofs (disch:=first|exact Kd|fail) only[go_sem,↓reduceIte,seval, -List.reduceReplicate,List.toList_toArray,hCl,hCw,hCn,hCx,hw,hl2,hg1,hg2,hputN,hputL,Row.obj hrh,Row.obj O.rn,e1,Row.obj O.rl,Row.obj hr3,List.getElem_map,hsj,hlt,Int.toNat_natCast,Nat.sub_self,List.replicate_zero]
 revert nb
 intro br hbr hbr1 hbr2
 rw[show List.replicate row.length (Value.int .i64 0)=(za8 r 0).map (Value.int .i64) by rw[←hrlen,zff]]
 refine Tri.loopU tok [0,1,2,4,5,6,7,8,10,11,12,13,16,27,37,38,39,40,50,51,52,53,61] Kk [0,1,2,4,5,6,7,8,10,11,37,38,39,50,51,52] (fun q G' fr H'=> ∃k:Nat,k+q=row.length∧G'=G∧H'=(br, .cells ((za8 r k).map (Value.int .i64)) [] 3):: (b7, .cells (zc d vn vl vs) [] 27):: (b2, .cells C [] 27):: (kn++(kl++H))∧fr=[(0,v0),(1,v1),(2, .pointer (some ⟨b2,0,none⟩)),(4, .pointer (some ⟨b4,0,none⟩)),(5, .int .i64 0),(6, .slice an3 d.label.length cn3),(7,v7),(8, .pointer (some ⟨b7,0,none⟩)),(10, .int .i64 (t:Nat)),(11, .slice (some ⟨br,0,none⟩) row.length row.length),(37, .slice ah l.length ch),(38, .int .i64 l.length),(39, .int .i64 (j:Nat)),(50, .slice b row.length c),(51, .int .i64 row.length),(52, .int .i64 (k:Nat))]) (row.length) ?_ ?_
 ·refine Upd.now ?_
  exact⟨0,by omega,rfl,rfl,rfl⟩
 ·rintro q G1 fr H' hle hs ⟨k,hk,rfl,rfl,rfl⟩
  have hpl:(za8 r k).length=row.length:=by rw[zga r Ko,hrlen]
  by_cases hkl:k<row.length
  ·have hE:=hs
   try simp only[zzs] at hE
   repeat(obtain⟨hx',hE⟩:=hE)
   have hkr:k<r.length:=by omega
   have had5:Adr b:=e2.adr (by rw[List.length_map];omega)
   have hx:=hrng _ (List.getElem_mem hkl)
   obtain⟨y,hxy⟩:=Int.eq_ofNat_of_zero_le hx.1
   have hym:y<d.label.length:=by omega
   have hval:zp l (y:Nat)=r[k]:=by
    simp only[hr',List.getElem_map]
    rw[hxy]
   have hpos:0≤r[k]:=by
    rw[←hval]
    refine zd4.2 ?_
    rw[←hxy]
    exact hfr _ (List.getElem_mem hkl)
   have hput:=zgb hkr
   repeat' first
    |with_reducible first|refine Nx.go ?_ |refine Bk.go (fun _=>?_) fun _=>?_ |refine Nb fun nb hnb hnb1 hnb2=>?_ |refine Nr fun nb nsp ncap hnb hncap hnb1 hnb2=>?_
    |simp -dsimp -implicitDefEqProofs (disch:=first|exact Kd|fail) only[go_sem,↓reduceIte,seval, -List.reduceReplicate,Row.obj e2,Row.obj hr3,List.getElem_map,List.getElem_range,hxy,hval,hput,hpl,Int.toNat_natCast]
   all_goals try(exfalso;omega)
   refine Upd.now ?_
   exact⟨q - 1,by omega,k+1,by omega,rfl,rfl,rfl⟩
  ·obtain rfl:k=row.length:=by omega
   have hpa:za8 r row.length=r:=by rw[←hrlen];exact zik r
   rw[hpa] at hs⊢
   rcases hout with ⟨hj0,rfl,rfl⟩| ⟨bn,c1,rv,sp1,rfl,rfl,hrv,hc1,hrws⟩
   ·have hE:=hs
    try simp only[zzs] at hE
    repeat(obtain⟨hx',hE⟩:=hE)
    repeat' first
     |with_reducible first|refine Nx.go ?_ |refine Bk.go (fun _=>?_) fun _=>?_ |refine Nb fun nb hnb hnb1 hnb2=>?_ |refine Nr fun nb nsp ncap hnb hncap hnb1 hnb2=>?_
     |simp -dsimp -implicitDefEqProofs (disch:=first|exact Kd|fail) only[go_sem,↓reduceIte,seval, -List.reduceReplicate,List.length_map,hlj,List.replicate_one,List.toList_toArray,hCl,hCw,hCn,hCx,hw,hl2,hg1,hg2,hputN,hputL,Row.obj hrh,Row.obj O.rn,e1,Row.obj O.rl,Row.obj hr3,List.getElem_map,hsj,hlt,Int.toNat_natCast,Nat.sub_self,List.replicate_zero]
    refine Tri.upd (Upd.go (H':=(b7, .cells (zc d (.slice (some ⟨nb,0,none⟩) 1 ncap) vl vs) [] 27):: (b2, .cells C [] 27):: (kl++((br, .cells (r.map (Value.int .i64)) [] 3):: (nb, .cells [.slice (some ⟨br,0,none⟩) row.length row.length] nsp 24)::H))) Ks (Upd.now ?_))
    refine Tri.live [0,1,2,4,5,6,7,8,10,37,38,39] ?_
    refine Tri.isPiece [1,1,1,1,1,0,1,0,0,1,1,0,0,1,1,1,1] Tryz.f31 Kk ?_
    refine Tri.onlyN (zsT O hj hjb htl2 hsj hlab0) fun G5 l5 H5 hle5 hs5 hM=>?_
    obtain⟨vl',kl',rfl,hlab1,hfr,rfl⟩:=hM
    rw[zcT]
    have hE:=hs5
    try simp only[zzs] at hE
    repeat(obtain⟨hx',hE⟩:=hE)
    refine Upd.go (H':=(br, .cells (r.map (Value.int .i64)) [] 3):: (b7, .cells (zc d (.slice (some ⟨nb,0,none⟩) 1 ncap) vl' vs) [] 27):: (b2, .cells C [] 27):: ([(nb, .cells [.slice (some ⟨br,0,none⟩) row.length row.length] nsp 24)]++(kl'++H))) Ks (Upd.shareRow Ka fun G6 hle6 hs6 hr6=>?_)
    refine⟨_,vl',_,kl',hle6, .inr ⟨nb,ncap,_,nsp,by rw[hj0],rfl,by rw[hj0];rfl,by omega,fun i h h2 h3=>?_⟩,hlab1,hfr,rfl⟩
    obtain rfl:i=0:=by omega
    obtain rfl:j=0:=hj0
    refine⟨some ⟨br,0,none⟩,row.length,?_,?_,?_⟩
    ·rw[hrj,hrlen];rfl
    ·rw[hrj];exact hr6
    ·rw[hrj,hrlen];exact Nat.le_refl _
   ·have hE:=hs
    try simp only[zzs] at hE
    repeat(obtain⟨hx',hE⟩:=hE)
    repeat' first
     |with_reducible first|refine Nx.go ?_ |refine Bk.go (fun _=>?_) fun _=>?_ |refine Nb fun nb hnb hnb1 hnb2=>?_ |refine Nr fun nb nsp ncap hnb hncap hnb1 hnb2=>?_
     |simp -dsimp -implicitDefEqProofs (disch:=first|exact Kd|fail) only[go_sem,↓reduceIte,seval, -List.reduceReplicate,List.length_map,hlj,List.replicate_one,List.toList_toArray,hCl,hCw,hCn,hCx,hw,hl2,hg1,hg2,hputN,hputL,Row.obj hrh,Row.obj O.rn,e1,Row.obj O.rl,Row.obj hr3,List.getElem_map,hsj,hlt,Int.toNat_natCast,Nat.sub_self,List.replicate_zero]
    refine Tri.upd (Upd.go (H':=(b7, .cells (zc d (.slice (some ⟨nb,0,none⟩) (j+1) ncap) vl vs) [] 27):: (b2, .cells C [] 27):: (kl++((br, .cells (r.map (Value.int .i64)) [] 3):: (nb, .cells (rv++[.slice (some ⟨br,0,none⟩) row.length row.length]) nsp 24)::H))) Ks (Upd.now ?_))
    refine Tri.live [0,1,2,4,5,6,7,8,10,37,38,39] ?_
    refine Tri.isPiece [1,1,1,1,1,0,1,0,0,1,1,0,0,1,1,1,1] Tryz.f31 Kk ?_
    refine Tri.onlyN (zsT O hj hjb htl2 hsj hlab0) fun G5 l5 H5 hle5 hs5 hM=>?_
    obtain⟨vl',kl',rfl,hlab1,hfr,rfl⟩:=hM
    rw[zcT]
    have hE:=hs5
    try simp only[zzs] at hE
    repeat(obtain⟨hx',hE⟩:=hE)
    refine Upd.go (H':=(br, .cells (r.map (Value.int .i64)) [] 3):: (b7, .cells (zc d (.slice (some ⟨nb,0,none⟩) (j+1) ncap) vl' vs) [] 27):: (b2, .cells C [] 27):: ([(nb, .cells (rv++[.slice (some ⟨br,0,none⟩) row.length row.length]) nsp 24)]++(kl'++H))) Ks (Upd.shareRow Ka fun G6 hle6 hs6 hr6=>?_)
    refine⟨_,vl',_,kl',hle6, .inr ⟨nb,ncap,_,nsp,rfl,rfl,by rw[List.length_append,hrv];rfl,by omega,fun i h h2 h3=>?_⟩,hlab1,hfr,rfl⟩
    rcases Nat.lt_or_ge i j with hij|hij
    ·obtain⟨b',c',f1,f2,f3⟩:=hrws i hij Ko h3
     exact⟨b',c',by rw[List.getElem_append_left Ko];exact f1,f2.mono hle6,f3⟩
    ·obtain rfl:i=j:=by omega
     refine⟨some ⟨br,0,none⟩,row.length,?_,?_,?_⟩
     ·rw[hrj,hrlen,List.getElem_append_right Ko];simp [hrv]
     ·rw[hrj];exact hr6
     ·rw[hrj,hrlen];exact Nat.le_refl _
theorem zx8 {d:DfaT} (hsm:zt d) (hok:zd d) {l:List Int} (hO:zaQ d.label.length l) {C:List Value} {an al ay:Option Addr} {cn cl cs:Nat} {rs:List Value} {G:za} {H:zb} (O:OpenD G d C an al ay cn cl cs rs) {v0 v1 v7:Value} {b2 b4 b7:Nat} {an3 ah:Option Addr} {cn3 ch:Nat} (hr3:Row G an3 (((List.range d.label.length).map fun t:Nat=>zp l (t:Int)).map (Value.int .i64))) (hrh:Row G ah ((l).map (Value.int .i64))) {j:Nat} (hj:j<l.length) {B7:List Value} (hbad: ¬zkC d l (l[j]'hj)):
  Tri Tryz.prog Tryz.f31.ntmps (piece [1,1,1,1,1,0,1,0,0,1,1,0,0] Tryz.f31) G [(0,v0),(1,v1),(2, .pointer (some ⟨b2,0,none⟩)),(4, .pointer (some ⟨b4,0,none⟩)),(5, .int .i64 0),(6, .slice an3 d.label.length cn3),(7,v7),(8, .pointer (some ⟨b7,0,none⟩)),(37, .slice ah l.length ch),(38, .int .i64 l.length),(39, .int .i64 (j:Nat))] ((b4, .cells zF [] 27):: (b7, .cells B7 [] 27):: (b2, .cells C [] 27)::H) (onlyR fun G' fr' H'=>PLe G G'∧zy [4,5] fr'=[(4, .pointer (some ⟨b4,0,none⟩)),(5, .int .i64 1)]∧H'=(b4, .cells zF [] 27)::H):=by
 obtain⟨hm1,hm2,hm3,hm4,hm5⟩:=id hsm
 obtain⟨hk1,hk2,hk3,hk4,hk5,hk6,hk7⟩:=id hok
 have hal:(((List.range d.label.length).map fun t:Nat=>zp l (t:Int)).map (Value.int .i64)).length=d.label.length:=by rw[List.length_map,List.length_map,List.length_range]
 have hCl:=O.len
 have hCw:=O.w
 have hCn:=O.n
 have hCx:=O.l
 have hjm:=hO.2 _ (List.getElem_mem hj)
 obtain⟨t,hsj⟩:=Int.eq_ofNat_of_zero_le hjm.1
 have htl:t<d.label.length:=by omega
 have htn:t<d.next.length:=by omega
 have htl2:t<d.label.length:=by omega
 have htv:t<rs.length:=by have:=O.rnl;omega
 obtain⟨b,c,e1,e2,e3⟩:=O.rs t htn htv
 obtain⟨hw0,hlt0,hlt1,hrng⟩:=hk7 t htn htl2
 obtain⟨row,hrow⟩: ∃row,row=d.next[t]:=⟨_,rfl⟩
 have hrl:=hm2 _ (List.getElem_mem htn)
 rw[←hrow] at e1 e2 e3 hw0 hrng hrl
 have hw:d.width=(row.length:Int):=hw0.symm
 obtain⟨r,hr⟩: ∃r,r=zcN d l (t:Nat):=⟨_,rfl⟩
 have hr':r=row.map (zp l):=by rw[hr];unfold zcN;rw[zak htn,hrow]
 have hfr: ¬ ∀x∈row,x∈l:=fun h=>hbad fun y hy=>by
  rw[hsj,zak htn,←hrow] at hy
  exact h y hy
 have hrlen:r.length=row.length:=by rw[hr',List.length_map]
 have had:Adr an:=O.rn.adr Ko
 have had3:Adr ah:=hrh.adr (by rw[List.length_map];omega)
 have had4:Adr an3:=hr3.adr (by rw[List.length_map,List.length_map,List.length_range];omega)
 have hjb:j<65536:=by
  have h1:=hO.len
  omega
 refine Tri.sepT fun hs0=>?_
 have hE:=hs0
 try simp only[zzs] at hE
 repeat(obtain⟨hx',hE⟩:=hE)
 refine Tri.piece (f:=Tryz.f31) rfl ?_
 refine Tri.run tok [0,1,2,4,5,6,7,8,10,11,12,13,16,27,37,38,39,40,50,51,52,53,61] Kk ?_
 repeat' first
  |with_reducible first|refine Nx.go ?_ |refine Bk.go (fun _=>?_) fun _=>?_ |refine Nb fun nb hnb hnb1 hnb2=>?_ |refine Nr fun nb nsp ncap hnb hncap hnb1 hnb2=>?_
  |simp -dsimp -implicitDefEqProofs (disch:=first|exact Kd|fail) only[go_sem,↓reduceIte,seval, -List.reduceReplicate,List.toList_toArray,hCl,hCw,hCn,hCx,hw,Row.obj hrh,Row.obj O.rn,e1,Row.obj hr3,List.getElem_map,hsj,Int.toNat_natCast,Nat.sub_self,List.replicate_zero]
 revert nb
 intro br hbr hbr1 hbr2
 rw[show List.replicate row.length (Value.int .i64 0)=(za8 r 0).map (Value.int .i64) by rw[←hrlen,zff]]
 refine Tri.loopU tok [0,1,2,4,5,6,7,8,10,11,12,13,16,27,37,38,39,40,50,51,52,53,61] Kk [0,1,2,4,5,6,7,8,10,11,37,38,39,50,51,52] (fun q G' fr H'=> ∃k:Nat,k+q=row.length∧(∀i (h:i<row.length),i<k→row[i]∈l)∧G'=G∧H'=(br, .cells ((za8 r k).map (Value.int .i64)) [] 3):: (b4, .cells zF [] 27):: (b7, .cells B7 [] 27):: (b2, .cells C [] 27)::H∧fr=[(0,v0),(1,v1),(2, .pointer (some ⟨b2,0,none⟩)),(4, .pointer (some ⟨b4,0,none⟩)),(5, .int .i64 0),(6, .slice an3 d.label.length cn3),(7,v7),(8, .pointer (some ⟨b7,0,none⟩)),(10, .int .i64 (t:Nat)),(11, .slice (some ⟨br,0,none⟩) row.length row.length),(37, .slice ah l.length ch),(38, .int .i64 l.length),(39, .int .i64 (j:Nat)),(50, .slice b row.length c),(51, .int .i64 row.length),(52, .int .i64 (k:Nat))]) (row.length) ?_ ?_
 ·refine Upd.now ?_
  exact⟨0,by omega,fun i h h2=>by omega,rfl,rfl,rfl⟩
 ·rintro q G1 fr H' hle hs ⟨k,hk,hall,rfl,rfl,rfl⟩
  have hpl:(za8 r k).length=row.length:=by rw[zga r Ko,hrlen]
  by_cases hkl:k<row.length
  ·have hE:=hs
   try simp only[zzs] at hE
   repeat(obtain⟨hx',hE⟩:=hE)
   have hkr:k<r.length:=by omega
   have had5:Adr b:=e2.adr (by rw[List.length_map];omega)
   have hx:=hrng _ (List.getElem_mem hkl)
   obtain⟨y,hxy⟩:=Int.eq_ofNat_of_zero_le hx.1
   have hym:y<d.label.length:=by omega
   have hval:zp l (y:Nat)=r[k]:=by
    simp only[hr',List.getElem_map]
    rw[hxy]
   have hput:=zgb hkr
   by_cases hin:row[k]∈l
   ·have hpos:0≤r[k]:=by
     rw[←hval]
     refine zd4.2 ?_
     rw[←hxy]
     exact hin
    repeat' first
     |with_reducible first|refine Nx.go ?_ |refine Bk.go (fun _=>?_) fun _=>?_ |refine Nb fun nb hnb hnb1 hnb2=>?_ |refine Nr fun nb nsp ncap hnb hncap hnb1 hnb2=>?_
     |simp -dsimp -implicitDefEqProofs (disch:=first|exact Kd|fail) only[go_sem,↓reduceIte,seval, -List.reduceReplicate,Row.obj e2,Row.obj hr3,List.getElem_map,List.getElem_range,hxy,hval,hput,hpl,Int.toNat_natCast]
    all_goals try(exfalso;omega)
    refine Upd.now ?_
    exact⟨q - 1,by omega,k+1,by omega,fun i h h2=>by
     by_cases e:i=k
     ·subst e;exact hin
     ·exact hall i h Ko,rfl,rfl,rfl⟩
   ·have hneg:r[k] <0:=by
     rw[←hval]
     rcases Int.lt_or_le (zp l (y:Int)) 0 with h|h
     ·exact h
     ·exact absurd (hxy▸zd4.1 h) hin
    repeat' first
     |with_reducible first|refine Nx.go ?_ |refine Bk.go (fun _=>?_) fun _=>?_ |refine Nb fun nb hnb hnb1 hnb2=>?_ |refine Nr fun nb nsp ncap hnb hncap hnb1 hnb2=>?_
     |simp -dsimp -implicitDefEqProofs (disch:=first|exact Kd|fail) only[go_sem,↓reduceIte,seval, -List.reduceReplicate,Row.obj e2,Row.obj hr3,List.getElem_map,List.getElem_range,hxy,hval,hpl,Int.toNat_natCast,zn,zag,zan,zaA]
    all_goals try(exfalso;omega)
    exact Upd.go (H':=(b4, .cells zF [] 27)::H) Ks (Upd.now ⟨hle,rfl,rfl⟩)
  ·exact absurd (fun x hx=>by
    obtain⟨i,hi,rfl⟩:=List.getElem_of_mem hx
    exact hall i hi Ko) hfr
end Go.Proofs.YtefkpedhbijhkaaGreatDoor
namespace Go.Proofs.YtefkpedhbijhkaaGreatDoor
open Go Go.V Go.Proofs
theorem zxj {d:DfaT} (hsm:zt d) {l:List Int} (hl:l.length≤2000000) {G:za} {H:zb} {R:Value→za→zb→Prop} {v w:Value} (hv:IsD G d v) (hwl:Sl G (Value.int .i64) w l)
  (hR: ∀G' v',PLe G G'→Sep G' (zk H)→IsD G' (zfg d l).1 v'→R (.tuple #[v', .int .i64 (zfg d l).2]) G' H):FnT Tryz.prog 31 [v,w] G H R:=by
 obtain⟨C,an,al,ay,cn,cl,cs,rs,rfl,O⟩:=hv.opened
 obtain⟨hm1,hm2,hm3,hm4,hm5⟩:=id hsm
 have hw0:=hwl
 obtain⟨aw,cw,rfl,hroww,hcw⟩:=hwl
 have hCl:=O.len
 have hCa:=O.all
 have hCx:=O.l
 refine FnT.sep ?_
 by_cases hok:zd d
 ·obtain⟨hk1,hk2,hk3,hk4,hk5,hk6,hk7⟩:=id hok
  have hb:=zG hok
  have hl2: ∀a b c:Value,(zc d a b c).length=260:=fun a b c=>zab O.ofl _ _ _
  have ht2: ∀a b c:Value,List.take 260 (zc d a b c)=zc d a b c:=fun a b c=>zcz O.ofl _ _ _
  have hputz: ∀a b c:Value,zi zF 0 (zc d a b c)=zc d a b c:=fun a b c=>by
   unfold zi
   rw[List.take_zero,List.nil_append,List.drop_of_length_le (by rw[zn,hl2];omega),List.append_nil]
  refine FnT.bodyS tok [0,1,2,4,5,6,7,8,10,11,12,13,16,27,37,38,39,40,50,51,52,53,61] (.seq .run (.seq .run (.seq .run (.seq .run (.seq .cut .cut))))) Tryz.func31 rfl Kk Kk (by show _≤89;simp) fun hsep=>?_
  rw[Tryz.results31]
  have hE:=hsep
  try simp only[zzs] at hE
  repeat(obtain⟨hx',hE⟩:=hE)
  repeat' first
   |with_reducible first|refine Nx.go ?_ |refine Bk.go (fun _=>?_) fun _=>?_ |refine Nb fun nb hnb hnb1 hnb2=>?_ |refine Nr fun nb nsp ncap hnb hncap hnb1 hnb2=>?_
   |simp -dsimp -implicitDefEqProofs (disch:=first|exact Kd|fail) only[go_sem,↓reduceIte,seval, -List.reduceReplicate,List.toList_toArray,hCl,hCa,hCx,hb]
   |with_reducible refine zav hsm O.is ?_
  rename_i b2 hb20 hb21 hb22
  obtain⟨b4,e0⟩: ∃x,x=nb:=⟨_,rfl⟩
  subst e0
  refine FnT.upd (zuX hk1 hk2 hl hw0 (fun G2 b hle2 hs2 hO=>?_) (fun G2 hle2 hs2 hno=>?_))
  ·refine Upd.shareRow hs2.1.1 fun G3 hle3 hs3 hr3=>?_
   rw[zuY] at hr3
   have hE:=hs3
   try simp only[zzs] at hE
   repeat(obtain⟨hx',hE⟩:=hE)
   have k3:=hle2.trans hle3
   have O3:=O.mono k3
   by_cases hh:l.head? =some 0
   ·rw[decide_eq_true hh]
    repeat' first
     |with_reducible first|refine Nx.go ?_ |refine Bk.go (fun _=>?_) fun _=>?_ |refine Nb fun nb hnb hnb1 hnb2=>?_ |refine Nr fun nb nsp ncap hnb hncap hnb1 hnb2=>?_
     |simp -dsimp -implicitDefEqProofs (disch:=first|exact Kd|fail) only[go_sem,↓reduceIte,seval, -List.reduceReplicate,List.toList_toArray]
    refine Tri.isPiece [1,1,1,1,0] Tryz.f31 Kk ?_
    refine Tri.live [0,1,2,4,5,6,7] ?_
    refine Tri.onlyN (zx7 hsm O3) fun G4 l4 H4 hle4 hs4 hM=>?_
    obtain⟨b7,vs,_,hvs,hfr,rfl⟩:=hM
    simp only[go_sem]
    refine Tri.live [0,1,2,4,5,6,7,8] ?_
    rw[hfr]
    have hE:=hs4
    try simp only[zzs] at hE
    repeat(obtain⟨hx',hE⟩:=hE)
    have O4:=O3.mono hle4
    obtain⟨ay4,cy4,rfl,hr4y,hcy4⟩:=id hvs
    refine Tri.run tok [0,1,2,4,5,6,7,8,10,11,12,13,16,27,37,38,39,40,50,51,52,53,61] Kk ?_
    repeat' first
     |with_reducible first|refine Nx.go ?_ |refine Bk.go (fun _=>?_) fun _=>?_ |refine Nb fun nb hnb hnb1 hnb2=>?_ |refine Nr fun nb nsp ncap hnb hncap hnb1 hnb2=>?_
     |simp -dsimp -implicitDefEqProofs (disch:=first|exact Kd|fail) only[go_sem,↓reduceIte,seval, -List.reduceReplicate,List.toList_toArray]
    have hln:l.length≤d.label.length:=hO.len
    have hpos:0<l.length:=by
     rcases l with _| ⟨x,l⟩
     ·cases hh
     ·simp
    refine Tri.loopS tok [0,1,2,4,5,6,7,8,10,11,12,13,16,27,37,38,39,40,50,51,52,53,61] (.seq .run (.seq .run (.seq (.block .cut) .cut))) Kk [0,1,2,4,5,6,7,8,37,38,39] (fun q G' fr H'=> ∃ (j:Nat) (vn vl:Value) (kn kl:zb),j+q=l.length∧PLe G4 G'∧(∀i (h:i<l.length),i<j→zkC d l l[i])∧zuZ d l G' j vn kn∧znA d l j vl kl∧H'=(b7, .cells (zc d vn vl (.slice ay4 d.names.length cy4)) [] 27):: (b2, .cells C [] 27):: (kn++(kl++((b4, .cells zF [] 27)::H)))∧fr=[(0, .agg (List.toArray C)),(1, .slice aw l.length cw),(2, .pointer (some ⟨b2,0,none⟩)),(4, .pointer (some ⟨b4,0,none⟩)),(5, .int .i64 0),(6, .slice (some ⟨b,0,none⟩) d.label.length d.label.length),(7, .bool true),(8, .pointer (some ⟨b7,0,none⟩)),(37, .slice aw l.length cw),(38, .int .i64 l.length),(39, .int .i64 (j:Nat))]) (l.length) ?_ ?_
    ·exact Upd.go (H':=(b7, .cells (zc d (.slice none 0 0) (.slice none 0 0) (.slice ay4 d.names.length cy4)) [] 27):: (b2, .cells C [] 27):: ([]++([]++((b4, .cells zF [] 27)::H)))) Ks (Upd.now ⟨0,_,_,[],[],by omega,PLe.refl _,fun i h h2=>by omega, .inl ⟨rfl,rfl,rfl⟩, .inl ⟨rfl,rfl,rfl⟩,rfl,rfl⟩)
    ·rintro q G6 fr H' hle6 hs6 ⟨j,vn,vl,kn,kl,hj,hleG6,hfine,hro,hlo,rfl,rfl⟩
     have O6:=O4.mono hleG6
     have k6:=(k3.trans hle4).trans hleG6
     by_cases hjl:j<l.length
     ·by_cases hfj:zkC d l l[j]
      ·repeat' first
        |with_reducible first|refine Nx.go ?_ |refine Bk.go (fun _=>?_) fun _=>?_ |refine Nb fun nb hnb hnb1 hnb2=>?_ |refine Nr fun nb nsp ncap hnb hncap hnb1 hnb2=>?_
        |simp -dsimp -implicitDefEqProofs (disch:=first|exact Kd|fail) only[go_sem,↓reduceIte,seval, -List.reduceReplicate,List.toList_toArray]
       refine Tri.live [0,1,2,4,5,6,7,8,37,38,39] ?_
       refine Tri.isPiece [1,1,1,1,1,0,1,0,0,1,1,0,0] Tryz.f31 Kk ?_
       refine Tri.onlyN (zyS hsm hok hO O6 ((hr3.mono hle4).mono hleG6) (hroww.mono k6) hjl hro hlo rfl hfj) fun G7 l7 H7 hle7 hs7 hM=>?_
       obtain⟨vn',vl',kn',kl',_,hro',hlo',hfr',rfl⟩:=hM
       simp only[go_sem]
       refine Tri.live [0,1,2,4,5,6,7,8,37,38,39] ?_
       rw[hfr']
       refine Tri.run tok [0,1,2,4,5,6,7,8,10,11,12,13,16,27,37,38,39,40,50,51,52,53,61] Kk ?_
       repeat' first
        |with_reducible first|refine Nx.go ?_ |refine Bk.go (fun _=>?_) fun _=>?_ |refine Nb fun nb hnb hnb1 hnb2=>?_ |refine Nr fun nb nsp ncap hnb hncap hnb1 hnb2=>?_
        |simp -dsimp -implicitDefEqProofs (disch:=first|exact Kd|fail) only[go_sem,↓reduceIte,seval, -List.reduceReplicate,List.toList_toArray]
       refine Upd.now ?_
       exact⟨q - 1,by omega,j+1,vn',vl',kn',kl',by omega,hleG6.trans hle7,fun i h h2=>by
        by_cases e:i=j
        ·subst e;exact hfj
        ·exact hfine i h Ko,hro',hlo',rfl,rfl⟩
      ·have hno: ¬zb1 d l:=fun h=>hfj (h.2 _ (List.getElem_mem hjl))
       rw[zio hok hno] at hR
       repeat' first
        |with_reducible first|refine Nx.go ?_ |refine Bk.go (fun _=>?_) fun _=>?_ |refine Nb fun nb hnb hnb1 hnb2=>?_ |refine Nr fun nb nsp ncap hnb hncap hnb1 hnb2=>?_
        |simp -dsimp -implicitDefEqProofs (disch:=first|exact Kd|fail) only[go_sem,↓reduceIte,seval, -List.reduceReplicate,List.toList_toArray]
       refine Tri.live [0,1,2,4,5,6,7,8,37,38,39] ?_
       refine Tri.upd (Upd.go (H':=(b4, .cells zF [] 27):: (b7, .cells (zc d vn vl (.slice ay4 d.names.length cy4)) [] 27):: (b2, .cells C [] 27):: (kn++(kl++H))) Ks (Upd.now ?_))
       refine Tri.isPiece [1,1,1,1,1,0,1,0,0,1,1,0,0] Tryz.f31 Kk ?_
       refine Tri.onlyR (zx8 hsm hok hO O6 ((hr3.mono hle4).mono hleG6) (hroww.mono k6) hjl hfj) fun G7 l7 H7 hle7 hs7 hM=>?_
       obtain⟨_,hfr',rfl⟩:=hM
       have hE:=hs7
       try simp only[zzs] at hE
       repeat(obtain⟨hx',hE⟩:=hE)
       have h4:V.look l7 4=some (.pointer (some ⟨b4,0,none⟩)):=zaF [4,5] l7 4 _ (by rw[hfr'];rfl)
       have h5:V.look l7 5=some (.int .i64 1):=zaF [4,5] l7 5 _ (by rw[hfr'];rfl)
       repeat' first
        |with_reducible first|refine Nx.go ?_ |refine Bk.go (fun _=>?_) fun _=>?_ |refine Nb fun nb hnb hnb1 hnb2=>?_ |refine Nr fun nb nsp ncap hnb hncap hnb1 hnb2=>?_
        |simp -dsimp -implicitDefEqProofs (disch:=first|exact Kd|fail) only[go_sem,↓reduceIte,seval, -List.reduceReplicate,List.toList_toArray,h4,h5,zn,zag,zan,zaA]
       unfold zz
       refine Upd.leave (H':=H) Ks ?_
       exact fun _ hs=>hR G7 _ (k6.trans hle7) hs (zaR _)
     ·obtain rfl:j=l.length:=by omega
      have hko:zb1 d l:=⟨⟨hO,hh⟩,fun x hx=>by
       obtain⟨i,hi,rfl⟩:=List.getElem_of_mem hx
       exact hfine i hi hi⟩
      rw[znz hok hko] at hR
      rcases hro with ⟨hj0,_,_⟩| ⟨bn,c1,rv,sp1,rfl,rfl,hrv,hc1,hrws⟩
      ·exact absurd hj0 Ko
      rcases hlo with ⟨hj0,_,_⟩| ⟨bl,c2,sp2,rfl,rfl,hc2⟩
      ·exact absurd hj0 Ko
      have hE:=hs6
      try simp only[zzs] at hE
      repeat(obtain⟨hx',hE⟩:=hE)
      have hone:=za3 (d:=d) (vn:= .slice (some ⟨bn,0,none⟩) l.length c1) (vl:= .slice (some ⟨bl,0,none⟩) l.length c2) (vs:= .slice ay4 d.names.length cy4) rfl rfl rfl
      have hLl:(za5 d l).length=l.length:=by unfold za5;rw[List.length_map]
      rw[show(za5 d l).take l.length=za5 d l by rw[←hLl,List.take_length]]
      repeat' first
       |with_reducible first|refine Nx.go ?_ |refine Bk.go (fun _=>?_) fun _=>?_ |refine Nb fun nb hnb hnb1 hnb2=>?_ |refine Nr fun nb nsp ncap hnb hncap hnb1 hnb2=>?_
       |simp -dsimp -implicitDefEqProofs (disch:=first|exact Kd|fail) only[go_sem,↓reduceIte,seval, -List.reduceReplicate,List.toList_toArray,hl2,ht2,hputz,hone,zn]
      unfold zz
      refine Upd.go (H':=(bn, .cells rv sp1 24):: (bl, .cells ((za5 d l).map (Value.int .i64)) sp2 3)::H) Ks (Upd.trans (Upd.shareRow Ka fun G7 hle7 hs7 hr7=>?_))
      refine Upd.shareRow hs7.1.1 fun G8 hle8 hs8 hr8=>?_
      have k8:=hle7.trans hle8
      refine fun _ hs=>hR G8 _ (k6.trans k8) hs ?_
      refine⟨O.ofl,O.ofb,_,_,_,rfl,⟨some ⟨bn,0,none⟩,c1,rv,?_,hr7.mono hle8,?_,?_,fun i h h2=>?_⟩,⟨some ⟨bl,0,none⟩,c2,?_,hr8,?_⟩,⟨ay4,cy4,rfl,hr4y.mono (hleG6.trans k8),hcy4⟩⟩
      ·simp only[zaf,List.length_map]
      ·simp only[zaf,List.length_map];exact hrv
      ·simp only[zaf,List.length_map];omega
      ·have hi:i<l.length:=by simp only[zaf,List.length_map] at h;exact h
       obtain⟨b',c',f1,f2,f3⟩:=hrws i hi h2 hi
       refine⟨b',c',?_,?_,?_⟩
       ·simp only[zaf,List.getElem_map];exact f1
       ·simp only[zaf,List.getElem_map];exact f2.mono k8
       ·simp only[zaf,List.getElem_map];exact f3
      ·simp only[zaf,hLl]
      ·simp only[zaf,hLl];omega
   ·rw[decide_eq_false hh]
    have hno: ¬zb1 d l:=fun h=>hh h.1.2
    rw[zio hok hno] at hR
    repeat' first
     |with_reducible first|refine Nx.go ?_ |refine Bk.go (fun _=>?_) fun _=>?_ |refine Nb fun nb hnb hnb1 hnb2=>?_ |refine Nr fun nb nsp ncap hnb hncap hnb1 hnb2=>?_
     |simp -dsimp -implicitDefEqProofs (disch:=first|exact Kd|fail) only[go_sem,↓reduceIte,seval, -List.reduceReplicate,List.toList_toArray,zn,zag,zan,zaA]
    unfold zz
    refine Upd.leave (H':=H) Ks ?_
    exact fun _ hs=>hR G3 _ k3 hs (zaR _)
  ·have hno: ¬zb1 d l:=fun h=>hno h.1.1
   rw[zio hok hno] at hR
   refine Upd.now ?_
   have hE:=hs2
   try simp only[zzs] at hE
   repeat(obtain⟨hx',hE⟩:=hE)
   repeat' first
    |with_reducible first|refine Nx.go ?_ |refine Bk.go (fun _=>?_) fun _=>?_ |refine Nb fun nb hnb hnb1 hnb2=>?_ |refine Nr fun nb nsp ncap hnb hncap hnb1 hnb2=>?_
    |simp -dsimp -implicitDefEqProofs (disch:=first|exact Kd|fail) only[go_sem,↓reduceIte,seval, -List.reduceReplicate,List.toList_toArray,zn,zag,zan,zaA]
   unfold zz
   refine Upd.leave (H':=H) Ks ?_
   exact fun _ hs=>hR G2 _ hle2 hs (zaR _)
 ·have hb:=zB hok
  rw[zlT hok] at hR
  refine FnT.body tok [0,1,2,4,5,6,7,8,10,11,12,13,16,27,37,38,39,40,50,51,52,53,61] Tryz.func31 rfl Kk Kk (by show _≤89;simp) fun hsep=>?_
  rw[Tryz.results31]
  have hE:=hsep
  try simp only[zzs] at hE
  repeat(obtain⟨hx',hE⟩:=hE)
  repeat' first
   |with_reducible first|refine Nx.go ?_ |refine Bk.go (fun _=>?_) fun _=>?_ |refine Nb fun nb hnb hnb1 hnb2=>?_ |refine Nr fun nb nsp ncap hnb hncap hnb1 hnb2=>?_
   |simp -dsimp -implicitDefEqProofs (disch:=first|exact Kd|fail) only[go_sem,↓reduceIte,seval, -List.reduceReplicate,List.toList_toArray,hCl,hCa,zn,zag,zan,zaA,hb]
   |with_reducible refine zav hsm O.is ?_
  unfold zz
  refine Upd.leave (H':=H) Ks ?_
  exact fun _ hs=>hR G _ (PLe.refl _) hs (zaR _)
end Go.Proofs.YtefkpedhbijhkaaGreatDoor
namespace Go.Proofs.YtefkpedhbijhkaaGreatDoor
open Go Go.V Go.Proofs
theorem zhr {d:DfaT} (hok:zd d):zaQ d.label.length [0]:=⟨by simp,fun x hx=>by rw[List.mem_singleton] at hx;have:=hok.1;omega⟩
theorem zeF {d:DfaT} (hok:zd d):zaQ d.label.length (zK d):=zef (zhr hok) (zhq hok) _
theorem zra (d:DfaT): ∃X,zK d=0::X:=by
 obtain⟨X,h⟩:=zfp (zE d) [0] 0 d.label.length
 rw[Nat.zero_add] at h
 exact⟨X,h⟩
theorem zoY (d:DfaT):(zK d).head? =some 0:=by
 obtain⟨X,h⟩:=zra d
 rw[h];rfl
theorem za1 {d:DfaT} (hok:zd d):zb1 d (zK d):=⟨⟨zeF hok,zoY d⟩,fun s hs=>zsD (zhr hok) (zhq hok) hs⟩
def zr (d:DfaT):DfaT:=zaf d (zK d)
noncomputable def zd5 (d:DfaT):DfaT×Int:=zfg d (zco d)
theorem zc4 {d:DfaT} (h:zd d):zd5 d=(zr d,0):=by
 unfold zd5
 have:zco d=zK d:=by unfold zco;rw[if_pos (zG h)]
 rw[this,znz h (za1 h)];rfl
theorem ziq {d:DfaT} (h: ¬zd d):zd5 d=(zal,6):=zlT h
theorem zfh {d:DfaT} {l:List Int} {i:Nat} (h:i<l.length):(zaf d l).next[i]'(by unfold zaf;simpa using h)=zcN d l l[i]:=by simp [zaf]
theorem zgz {d:DfaT} {l:List Int} {i:Nat} (h:i<l.length):(zaf d l).label[i]'(by unfold zaf za5;simpa using h)=d.label.getD l[i].toNat 0:=by simp [zaf,za5]
theorem zc5 (d:DfaT) (l:List Int):(zaf d l).next.length=l.length∧(zaf d l).label.length=l.length:=by simp [zaf,za5]
theorem zir {l:List Int} (h:l.Nodup) {i:Nat} (hi:i<l.length):zp l l[i]=i:=by
 unfold zp;rw[zbX h hi]
theorem zhs {l:List Int} {x:Int} (h:x∈l): ∃ (i:Nat) (hi:i<l.length),zp l x=i∧l[i]=x:=by
 obtain⟨n,hn⟩:=zS h
 obtain⟨h1,h2⟩:=zR hn
 rw[List.getElem?_eq_getElem h1] at h2
 exact⟨n,h1,zx hn,Option.some.inj h2⟩
theorem zcE {d:DfaT} {l:List Int} (hok:zd d) (hk:zb1 d l):zd (zaf d l):=by
 obtain⟨hk1,hk2,hk3,hk4,hk5,hk6,hk7⟩:=id hok
 obtain⟨⟨hO,hh⟩,hf⟩:=hk
 have hl:=hO.len
 have hpos:0<l.length:=by
  rcases l with _| ⟨x,l⟩
  ·cases hh
  ·simp
 obtain⟨e1,e2⟩:=zc5 d l
 refine⟨by omega,by omega,by omega,hk4,hk5,hk6,fun s h1 h2=>?_⟩
 have hs:s<l.length:=by omega
 have hx:=hO.2 _ (List.getElem_mem hs)
 obtain⟨t,ht⟩:=Int.eq_ofNat_of_zero_le hx.1
 have htn:t<d.next.length:=by omega
 obtain⟨g1,g2,g3,g4⟩:=hk7 t htn Ko
 rw[zfh hs,zgz hs]
 unfold zcN
 rw[ht,zak htn]
 refine⟨by rw[List.length_map];exact g1,?_,?_,fun y hy=>?_⟩
 ·rw[Int.toNat_natCast,List.getD_eq_getElem?_getD,List.getElem?_eq_getElem Ko,Option.getD_some];exact g2
 ·rw[Int.toNat_natCast,List.getD_eq_getElem?_getD,List.getElem?_eq_getElem Ko,Option.getD_some];exact g3
 ·rw[List.mem_map] at hy
  obtain⟨z,hz,rfl⟩:=hy
  have hzl:=hf _ (List.getElem_mem hs) z (by rw[ht,zak htn];exact hz)
  obtain⟨i,hi,h3,_⟩:=zhs hzl
  rw[h3,e2]
  omega
theorem zrb {d:DfaT} {l:List Int} {i:Nat} (h:i<l.length):zE (zaf d l) (i:Nat)=zcN d l l[i]:=by
 rw[zak (by rw[(zc5 d l).1];exact h),zfh h]
theorem zwy {d:DfaT} {l:List Int} (hok:zd d) (hof:d.of.length=256) (hk:zb1 d l) {s:Int} (hs:s∈l) {c:Nat} (hc:c<256):toD d s c∈l∧toD (zaf d l) (zp l s) c=zp l (toD d s c):=by
 obtain⟨hk1,hk2,hk3,hk4,hk5,hk6,hk7⟩:=id hok
 have hx:=hk.1.1.2 s hs
 obtain⟨i,hi,h1,h2⟩:=zhs hs
 obtain⟨t,rfl⟩:=Int.eq_ofNat_of_zero_le hx.1
 have htn:t<d.next.length:=by omega
 have hco:c<d.of.length:=by omega
 have hox:=zcA hok (List.getElem_mem hco)
 obtain⟨y,hy⟩:=Int.eq_ofNat_of_zero_le hox.1
 obtain⟨hw0,_,_,hrng⟩:=hk7 t htn Ko
 have hyk:y< (d.next[t]).length:=by omega
 have hoc:d.of.getD c 0=(y:Int):=by rw[List.getD_eq_getElem?_getD,List.getElem?_eq_getElem hco,Option.getD_some,hy]
 have hval:toD d (t:Nat) c=(d.next[t])[y]:=by
  unfold toD
  rw[hoc,Int.toNat_natCast,List.getD_eq_getElem?_getD,List.getElem?_eq_getElem htn,Option.getD_some,zX (by simpa using hyk)]
  simp only[Int.toNat_natCast]
 have hmem:(d.next[t])[y]∈l:=hk.2 _ hs _ (by rw[zak htn];exact List.getElem_mem hyk)
 refine⟨hval▸hmem,?_⟩
 rw[hval,h1]
 unfold toD
 have hnx:(zaf d l).next.getD ((i:Nat):Int).toNat []=zcN d l l[i]:=by
  rw[Int.toNat_natCast,List.getD_eq_getElem?_getD,List.getElem?_eq_getElem (by rw[(zc5 d l).1];exact hi),Option.getD_some,zfh hi]
 have hrow:zcN d l l[i]=(d.next[t]).map (zp l):=by unfold zcN;rw[h2,zak htn]
 rw[hnx,hrow,show(zaf d l).of=d.of from rfl,hoc,zX (by rw[List.length_map];simpa using hyk)]
 simp only[Int.toNat_natCast,List.getElem_map]
theorem zgc {d:DfaT} {l:List Int} (hk:zb1 d l):(0 :Int)∈l∧zp l 0=0:=by
 obtain⟨⟨hO,hh⟩,_⟩:=hk
 rcases l with _| ⟨x,l⟩
 ·cases hh
 ·rw[List.head?_cons,Option.some.injEq] at hh
  subst hh
  exact⟨List.mem_cons_self ..,zir hO.1 (i:=0) (by simp)⟩
theorem zu0 {d:DfaT} {l:List Int} (hok:zd d) (hof:d.of.length=256) (hk:zb1 d l) (w:List UInt8):zaI d w∈l∧zaI (zaf d l) w=zp l (zaI d w):=by
 have key: ∀i,i≤w.length→zaI d (w.take i)∈l∧zaI (zaf d l) (w.take i)=zp l (zaI d (w.take i)):=by
  intro i
  induction i with
  |zero=>intro _;rw[List.take_zero];exact⟨(zgc hk).1,(zgc hk).2.symm⟩
  |succ i ih=>
   intro h
   obtain⟨h1,h2⟩:=ih Ko
   rw[zdS d w h,zdS (zaf d l) w h,h2]
   exact zwy hok hof hk h1 w[i].toNat_lt
 have:=key w.length (Nat.le_refl _)
 rwa [List.take_length] at this
theorem zis {d:DfaT} {l:List Int} (hok:zd d) (hof:d.of.length=256) (hk:zb1 d l) (w:List UInt8):zac (zaf d l) w=zac d w:=by
 obtain⟨h1,h2⟩:=zu0 hok hof hk w
 obtain⟨i,hi,h3,h4⟩:=zhs h1
 have hb:=hk.1.1.2 _ h1
 unfold zac
 rw[h2,h3,zX (by rw[(zc5 d l).2];simpa using hi)]
 simp only[Int.toNat_natCast]
 rw[zgz hi,h4]
 rfl
theorem znB {l:List Int} (hl:l.Nodup): ∀ (ts W:List Int),(∀x∈W,x∈l)→(∀x∈ts,x∈l)→addN (W.map (zp l)) (ts.map (zp l))=(addN W ts).map (zp l)
 | [],W,_,_=>rfl
 |t::ts,W,hW,hts=>by
  have ht:=hts t (List.mem_cons_self ..)
  have hadd:add1 (W.map (zp l)) (zp l t)=(add1 W t).map (zp l):=by
   unfold add1
   by_cases h:t∈W
   ·rw[if_pos h,if_pos (List.mem_map.2 ⟨t,h,rfl⟩)]
   ·have h2:zp l t∉W.map (zp l):=fun h3=>by
     obtain⟨x,hx,e⟩:=List.mem_map.1 h3
     exact h (zic (hW x hx) ht e▸hx)
    rw[if_neg h,if_neg h2,List.map_append];rfl
  rw[List.map_cons,zbE,zbE,hadd]
  exact znB hl ts (add1 W t) (fun x hx=>by
   rcases zee.1 hx with h|rfl
   ·exact hW x h
   ·exact ht) fun x hx=>hts x (List.mem_cons_of_mem _ hx)
theorem zsU {d:DfaT} {l:List Int} (hk:zb1 d l): ∀i,(∀x∈bw (zE d) [0] i,x∈l)∧bw (zE (zaf d l)) [0] i=(bw (zE d) [0] i).map (zp l)
 |0=>⟨fun x hx=>by
   have:x=0:=List.mem_singleton.1 hx
   subst this;exact(zgc hk).1,by
   show[0]=[0].map (zp l)
   rw[List.map_cons,(zgc hk).2];rfl⟩
 |i+1=>by
  obtain⟨h1,h2⟩:=zsU hk i
  rcases Nat.lt_or_ge i (bw (zE d) [0] i).length with h|h
  ·have h':i< (bw (zE (zaf d l)) [0] i).length:=by rw[h2,List.length_map];exact h
   have hx:=h1 _ (List.getElem_mem h)
   obtain⟨j,hj,e1,e2⟩:=zhs hx
   have hon:zE (zaf d l) (bw (zE (zaf d l)) [0] i)[i]=(zE d (bw (zE d) [0] i)[i]).map (zp l):=by
    have:(bw (zE (zaf d l)) [0] i)[i]=(j:Nat):=by simp only[h2,List.getElem_map];exact e1
    rw[this,zrb hj,e2];rfl
   have hcl:=hk.2 _ hx
   rw[zbG h,zbG h',hon]
   refine⟨fun x hx'=>?_,?_⟩
   ·rcases zfL.1 hx' with g|g
    ·exact h1 x g
    ·exact hcl x g
   ·rw[h2]
    exact znB hk.1.1.1 _ _ h1 hcl
  ·rw[zde h,zde (by rw[h2,List.length_map];exact h)]
   exact⟨h1,h2⟩
theorem zrc {d:DfaT} (hok:zd d):zK (zr d)=(List.range (zK d).length).map fun i:Nat=>(i:Int):=by
 have hk:=za1 hok
 have hr:=zcE hok hk
 have hO:=zeF hok
 obtain⟨_,h2⟩:=zsU hk d.label.length
 have he:bw (zE (zaf d (zK d))) [0] d.label.length=zK (zr d):=by
  refine zsC (zhr hr) (zhq hr) ?_
  rw[h2,List.length_map]
  exact hO.len
 rw[←he,h2]
 show(zK d).map (zp (zK d))=_
 apply List.ext_getElem
 ·simp
 ·intro i h1 h3
  rw[List.length_map] at h1
  simp only[List.getElem_map,List.getElem_range]
  exact zir hO.1 h1
theorem zit {n:Nat} {x:Int} (h:0≤x∧x<n):zp ((List.range n).map fun i:Nat=>(i:Int)) x=x:=by
 obtain⟨i,rfl⟩:=Int.eq_ofNat_of_zero_le h.1
 have hnd:((List.range n).map fun i:Nat=>(i:Int)).Nodup:=by
  rw[List.nodup_iff_pairwise_ne,List.pairwise_map]
  exact(List.nodup_range (n:=n)).imp fun h=>by omega
 have:=zir hnd (i:=i) (by rw[List.length_map,List.length_range];omega)
 simpa using this
theorem zwz {d:DfaT} (hok:zd d):zaf d ((List.range d.label.length).map fun i:Nat=>(i:Int))=d:=by
 obtain⟨hk1,hk2,hk3,hk4,hk5,hk6,hk7⟩:=id hok
 refine DfaT.ext2 rfl rfl ?_ ?_ rfl
 ·apply List.ext_getElem
  ·simp [zaf,hk3]
  ·intro i h1 h2
   rw[zfh (by simpa [zaf] using h1)]
   simp only[List.getElem_map,List.getElem_range]
   unfold zcN
   rw[zak h2]
   apply List.ext_getElem
   ·simp
   ·intro j g1 g2
    simp only[List.getElem_map]
    exact zit ((hk7 i h2 Ko).2.2.2 _ (List.getElem_mem g2))
 ·apply List.ext_getElem
  ·simp [zaf,za5]
  ·intro i h1 h2
   rw[zgz (by simpa [zaf,za5] using h1)]
   simp only[List.getElem_map,List.getElem_range,Int.toNat_natCast]
   rw[List.getD_eq_getElem?_getD,List.getElem?_eq_getElem h2];rfl
theorem zb2 {d:DfaT} (hsm:zt d) (hok:zd d):zt (zr d):=by
 obtain⟨hm1,hm2,hm3,hm4,hm5⟩:=id hsm
 obtain⟨e1,e2⟩:=zc5 d (zK d)
 have hO:=zeF hok
 have hl:=hO.len
 have hk3:=hok.2.2.1
 refine⟨by show(zaf d (zK d)).next.length≤_;omega,fun r hr=>?_,by show(zaf d (zK d)).label.length≤_;omega,hm4,hm5⟩
 obtain⟨x,hx,rfl⟩:=List.mem_map.1 (show r∈(zK d).map (zcN d (zK d)) from hr)
 have hb:=hO.2 x hx
 obtain⟨t,rfl⟩:=Int.eq_ofNat_of_zero_le hb.1
 unfold zcN
 rw[zak Ko,List.length_map]
 exact hm2 _ (List.getElem_mem _)
theorem zel {G:za} {d:DfaT} {C:List Value} (h:IsD G d (.agg C.toArray)):C.all zax=true:=by
 obtain⟨_,_,vn,vl,vs,e,⟨an,cn,rs,rfl,_⟩,⟨al,cl,rfl,_⟩,⟨ay,cy,rfl,_⟩⟩:=h
 have e2:=congrArg (fun v=>match v with|Value.agg a=>a.toList|_=>[]) e
 simp only[List.toList_toArray] at e2
 rw[e2];exact za3 rfl rfl rfl
theorem zem {C:List Value} (h:C.length=260):zi zF 0 C=C:=by
 unfold zi
 rw[List.take_zero,List.nil_append,List.drop_of_length_le (by rw[zn];omega),List.append_nil]
theorem ziu {d:DfaT} (hsm:zt d) {G:za} {H:zb} {R:Value→za→zb→Prop} {v:Value} (hv:IsD G d v)
  (hR: ∀G' v',PLe G G'→Sep G' (zk H)→IsD G' (zd5 d).1 v'→R (.tuple #[v', .int .i64 (zd5 d).2]) G' H):FnT Tryz.prog 14 [v] G H R:=by
 obtain⟨C,an,al,ay,cn,cl,cs,rs,rfl,O⟩:=hv.opened
 have hCl:=O.len
 have hCa:=O.all
 have hrl:(zco d).length≤2000000:=by
  by_cases hok:zd d
  ·have h1:zco d=zK d:=by unfold zco;rw[if_pos (zG hok)]
   have h2:=(zeF hok).len
   have h3:=hok.2.1
   rw[h1];omega
  ·have h1:zco d=[]:=by unfold zco;rw[if_neg (by rw[zB hok];exact Bool.false_ne_true)]
   rw[h1];simp
 refine FnT.sep ?_
 refine FnT.body tok [0,1,2,3] Tryz.func14 rfl Kk Kk (by show _≤10;simp) fun hsep=>?_
 rw[Tryz.results14]
 have hE:=hsep
 try simp only[zzs] at hE
 repeat(obtain⟨hx',hE⟩:=hE)
 repeat' first
  |with_reducible first|refine Nx.go ?_ |refine Bk.go (fun _=>?_) fun _=>?_ |refine Nb fun nb hnb hnb1 hnb2=>?_
  |simp -dsimp -implicitDefEqProofs (disch:=first|exact Kd|fail) only[go_sem,↓reduceIte,seval, -List.reduceReplicate,List.toList_toArray,hCl,hCa]
  |with_reducible refine Tri.drawH tok mixed [0,1,2,3] 1 [0,1] (.op 0 .held (.op 1 .held (.op 2 .keeps (.op 3 .keeps (.op 4 .plain (.op 5 .plain (.op 6 .plain (.op 7 .plain .nil)))))))) Kk [1] ?_
 obtain⟨b2,e0⟩: ∃x,x=nb:=⟨_,rfl⟩
 subst e0
 refine zwu hsm O.is fun G2 v2 hle2 hs2 hsl2=>?_
 have hE:=hs2
 try simp only[zzs] at hE
 repeat(obtain⟨hx',hE⟩:=hE)
 repeat' first
  |with_reducible first|refine Nx.go ?_ |refine Bk.go (fun _=>?_) fun _=>?_ |refine Nb fun nb hnb hnb1 hnb2=>?_
  |simp -dsimp -implicitDefEqProofs (disch:=first|exact Kd|fail) only[go_sem,↓reduceIte,seval, -List.reduceReplicate,List.toList_toArray,hCl,hCa]
 refine zxj hsm hrl (O.is.mono hle2) hsl2 fun G3 v3 hle3 hs3 hI=>?_
 have hI3:IsD G3 (zd5 d).1 v3:=hI
 obtain⟨C',an',al',ay',cn',cl',cs',rs',rfl,O'⟩:=hI3.opened
 have hDl:=O'.len
 have hone:=zel O'.is
 have hput:=zem hDl
 have htk:List.take 260 C'=C':=List.take_of_length_le Ko
 have hE:=hs3
 try simp only[zzs] at hE
 repeat(obtain⟨hx',hE⟩:=hE)
 repeat' first
  |with_reducible first|refine Nx.go ?_ |refine Bk.go (fun _=>?_) fun _=>?_ |refine Nb fun nb hnb hnb1 hnb2=>?_
  |simp -dsimp -implicitDefEqProofs (disch:=first|exact Kd|fail) only[go_sem,↓reduceIte,seval, -List.reduceReplicate,List.toList_toArray,hDl,hone,hput,htk,zn]
 unfold zz
 refine Upd.leave (H':=H) Ks ?_
 exact fun _ hs=>hR G3 _ (hle2.trans hle3) hs O'.is
end Go.Proofs.YtefkpedhbijhkaaGreatDoor
namespace Go.Proofs.YtefkpedhbijhkaaGreatDoor
open Go Go.V Go.Proofs
section
variable {α β:Type} [DecidableEq α] [DecidableEq β]
theorem zxk {l:List α} {c:Nat} (hc:c<l.length): ∃ (n:Nat) (h:n< (zl l).length),(zf l)[c]'(by rw[zv];exact hc)=(n:Nat)∧(zl l)[n]=l[c]:=by
 obtain⟨n,hn⟩:=zS ((zI l).2 (List.getElem_mem hc))
 obtain⟨h1,h2⟩:=zR hn
 rw[List.getElem?_eq_getElem h1,Option.some.injEq] at h2
 exact⟨n,h1,by rw[zbM hc,zx hn],h2⟩
end
theorem zsV {d:DfaT} {s c:Nat} (hs:s<d.next.length) (hc:c<d.of.length):toD d (s:Nat) c=atL d.next[s] d.of[c]:=by
 unfold toD
 rw[Int.toNat_natCast,List.getD_eq_getElem?_getD,List.getElem?_eq_getElem hs,List.getD_eq_getElem?_getD,List.getElem?_eq_getElem hc];rfl
theorem zjH {m:List Int} {j:Nat} (hj:j< (zw m).length): ∃ (x:Nat) (h:j< (zl m).length) (hx:x<m.length),(zw m)[j]=(x:Nat)∧place m m[x]=some x∧m[x]=(zl m)[j]:=by
 have h:j< (zl m).length:=by unfold zw at hj;rwa [List.length_map] at hj
 obtain⟨x,hx⟩:=zS ((zI m).1 (List.getElem_mem h))
 obtain⟨h1,h2⟩:=zR hx
 rw[List.getElem?_eq_getElem h1,Option.some.injEq] at h2
 exact⟨x,h,h1,by simp only[zw,List.getElem_map];exact zx hx,by rw[h2];exact hx,h2⟩
theorem zvJ {d:DfaT} {m:List Int} (hst:zbb d m) {s:Nat} (hs:s<m.length): ∃ (j x:Nat) (hj:j< (zw m).length) (hx:x<d.next.length) (hx2:x<d.label.length) (hs1:s<d.next.length) (hs2:s<d.label.length),(zf m)[s]'(by rw[zv];exact hs)=(j:Nat)∧(zw m)[j]=(x:Nat)∧d.label[s]=d.label[x]∧zeb (zf m) d.next[s] d.next[x]:=by
 obtain⟨hok,hml,hsp⟩:=hst
 have hnl:=hok.2.2.1
 obtain⟨j,hj,e1,e2⟩:=zxk hs
 have hjh:j< (zw m).length:=by unfold zw;rwa [List.length_map]
 obtain⟨x,h,hx,e3,e4,e5⟩:=zjH hjh
 have hpl:place m m[s]=some x:=by rw[←e2,←e5];exact e4
 obtain⟨f1,f2⟩:=hsp s x hs Ko Ko Ko Ko hpl
 exact⟨j,x,hjh,by omega,by omega,by omega,by omega,e1,e3,f1,f2⟩
theorem zwA {d:DfaT} {m:List Int} (hst:zbb d m) (hl:d.of.length=256) {s c:Nat} (hs:s<m.length) (hc:c<256):toD (ofD d m) (atL (zf m) (s:Nat)) c=atL (zf m) (toD d (s:Nat) c):=by
 obtain⟨j,x,hj,hx,hx2,hs1,hs2,e1,e2,e3,⟨e4,e5⟩⟩:=zvJ hst hs
 obtain⟨hk1,hk2,hk3,hk4,hk5,hk6,hk7⟩:=id hst.1
 have hnm:s< (zf m).length:=by rw[zv];exact hs
 have hcd:c<d.of.length:=by omega
 have hjn:j< (ofD d m).next.length:=by simp only[ofD,List.length_map];exact hj
 have g1:atL (zf m) ((s:Nat):Int)=(j:Nat):=by rw[zX (by simpa using hnm)];simp only[Int.toNat_natCast];exact e1
 rw[g1,zsV hjn (show c< (ofD d m).of.length from hcd),zsV hs1 hcd]
 have g2:(ofD d m).next[j]=(d.next[x]).map (atL (zf m)):=by
  simp only[ofD,List.getElem_map,zdH]
  rw[e2,Int.toNat_natCast,List.getD_eq_getElem?_getD,List.getElem?_eq_getElem hx];rfl
 rw[g2]
 show atL _ d.of[c]=_
 have hoc:=zcA hst.1 (List.getElem_mem hcd)
 obtain⟨y,hy⟩:=Int.eq_ofNat_of_zero_le hoc.1
 rw[hy] at hoc⊢
 have w1:=(hk7 s hs1 hs2).1
 have hys:y< (d.next[s]).length:=by omega
 have hyx:y< (d.next[x]).length:=by omega
 rw[zX (l:=(d.next[x]).map (atL (zf m))) (by simpa using hyx),zX (l:=d.next[s]) (by simpa using hys)]
 simp only[Int.toNat_natCast,List.getElem_map]
 exact(e5 y hys).symm
theorem znC {d:DfaT} {m:List Int} (hst:zbb d m) {s:Nat} (hs:s<m.length):atL (ofD d m).label (atL (zf m) (s:Nat))=atL d.label (s:Nat):=by
 obtain⟨j,x,hj,hx,hx2,hs1,hs2,e1,e2,e3,_⟩:=zvJ hst hs
 have hnm:s< (zf m).length:=by rw[zv];exact hs
 have g1:atL (zf m) ((s:Nat):Int)=(j:Nat):=by rw[zX (by simpa using hnm)];simp only[Int.toNat_natCast];exact e1
 have hjn:j< (ofD d m).label.length:=by simp only[ofD,List.length_map];exact hj
 rw[g1,zX (by simpa using hjn),zX (by simpa using hs2)]
 simp only[Int.toNat_natCast,ofD,List.getElem_map]
 rw[e2,Int.toNat_natCast,List.getD_eq_getElem?_getD,List.getElem?_eq_getElem hx2,e3];rfl
theorem zsW {m:List Int} (h:0<m.length):atL (zf m) 0=0:=by
 have hnm:0< (zf m).length:=by rw[zv];exact h
 rw[zX (by simpa using hnm)]
 show(zf m)[0]=0
 rw[zhS h,List.take_succ_eq_append_getElem h,List.take_zero,List.nil_append]
 have h1:zl [m[0]]=[m[0]]:=by rw[show[m[0]]=([]:List Int)++[m[0]] from rfl,zaM,zfE,if_neg (List.not_mem_nil)]
 rw[h1]
 have h2:place [m[0]] m[0]=some 0:=zcV (ks:=[]) (List.not_mem_nil)
 rw[zx h2];rfl
theorem zxl {d:DfaT} {m:List Int} (hst:zbb d m) (hl:d.of.length=256) (w:List UInt8):zaI (ofD d m) w=atL (zf m) (zaI d w):=by
 have hml:m.length=d.label.length:=hst.2.1
 have hk1:=hst.1.1
 have key: ∀i,i≤w.length→zaI (ofD d m) (w.take i)=atL (zf m) (zaI d (w.take i)):=by
  intro i
  induction i with
  |zero=>intro _;rw[List.take_zero];exact(zsW Ko).symm
  |succ i ih=>
   intro h
   rw[zdS (ofD d m) w h,zdS d w h,ih Ko]
   obtain⟨h1,h2⟩:=zbT hst.1 hl (w.take i)
   obtain⟨t,ht⟩:=Int.eq_ofNat_of_zero_le h1
   rw[ht] at h2⊢
   exact zwA hst hl Ko w[i].toNat_lt
 have:=key w.length (Nat.le_refl _)
 rwa [List.take_length] at this
theorem zwB {d:DfaT} {m:List Int} (hst:zbb d m) (hl:d.of.length=256) (w:List UInt8):zac (ofD d m) w=zac d w:=by
 unfold zac
 rw[zxl hst hl]
 obtain⟨h1,h2⟩:=zbT hst.1 hl w
 obtain⟨t,ht⟩:=Int.eq_ofNat_of_zero_le h1
 rw[ht] at h2⊢
 exact znC hst (by have:=hst.2.1;omega)
theorem zfN (d:DfaT) (m:List Int):(ofD d m).label.length=(zl m).length:=by simp only[ofD,List.length_map,zw]
theorem zjI {d:DfaT} {m:List Int} (hst:zbb d m):zd (ofD d m):=by
 obtain⟨hk1,hk2,hk3,hk4,hk5,hk6,hk7⟩:=id hst.1
 have hml:m.length=d.label.length:=hst.2.1
 have htl:=zam m
 have hpos:0< (zl m).length:=by
  have:=(zI m).2 (List.getElem_mem (l:=m) (n:=0) Ko)
  exact List.length_pos_of_mem this
 have hll:=zfN d m
 refine⟨by omega,by omega,by simp only[ofD,List.length_map],hk4,hk5,hk6,fun j h h2=>?_⟩
 have hj:j< (zw m).length:=by simp only[ofD,List.length_map] at h;exact h
 obtain⟨x,hjt,hx,e1,e2,e3⟩:=zjH hj
 have hxn:x<d.next.length:=by omega
 have hxl:x<d.label.length:=by omega
 obtain⟨hw1,hw2,hw3,hw4⟩:=hk7 x hxn hxl
 have g2:(ofD d m).next[j]=(d.next[x]).map (atL (zf m)):=by
  simp only[ofD,List.getElem_map,zdH]
  rw[e1,Int.toNat_natCast,List.getD_eq_getElem?_getD,List.getElem?_eq_getElem hxn];rfl
 have g3:(ofD d m).label[j]=d.label[x]:=by
  simp only[ofD,List.getElem_map]
  rw[e1,Int.toNat_natCast,List.getD_eq_getElem?_getD,List.getElem?_eq_getElem hxl];rfl
 rw[g2,g3]
 refine⟨by rw[List.length_map];exact hw1,hw2,hw3,fun t ht=>?_⟩
 obtain⟨y,hy,rfl⟩:=List.mem_map.1 ht
 have hyb:=hw4 y hy
 have hyn:y.toNat< (zf m).length:=by rw[zv];omega
 rw[zX hyn]
 have:=za2 (List.getElem_mem hyn)
 omega
theorem zkD {d:DfaT} {m:List Int} (hst:zbb d m) {s t:Nat} (hs:s<m.length) (ht:t<m.length) (h1:s<d.label.length) (h2:t<d.label.length) (h3:s<d.next.length) (h4:t<d.next.length) (e:m[s]=m[t]):d.label[s]=d.label[t]∧zeb (zf m) d.next[s] d.next[t]:=by
 obtain⟨x,hx⟩:=zS (List.getElem_mem hs)
 obtain⟨hx1,_⟩:=zR hx
 have hx':place m m[t]=some x:=by rw[←e];exact hx
 have hml:m.length=d.label.length:=hst.2.1
 have hnl:=hst.1.2.2.1
 obtain⟨a1,a2,a3⟩:=hst.2.2 s x hs h1 Ko h3 Ko hx
 obtain⟨b1,b2,b3'⟩:=hst.2.2 t x ht h2 Ko h4 Ko hx'
 refine⟨a1.trans b1.symm,a2.trans b2.symm,fun k hk=>?_⟩
 rw[a3 k hk,b3' k Ko]
end Go.Proofs.YtefkpedhbijhkaaGreatDoor
