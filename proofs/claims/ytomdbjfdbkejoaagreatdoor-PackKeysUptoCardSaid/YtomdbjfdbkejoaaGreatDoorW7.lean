/- A part of the proof, joined of several texts: the verification layer, contracts of functions, plain law. -/
import Derived.Test.YtomdbjfdbkejoaaGreatDoorW6
set_option maxHeartbeats 64000000
set_option linter.unusedSimpArgs false
set_option linter.unusedVariables false
set_option linter.unusedSectionVars false
namespace Go.Proofs.YtomdbjfdbkejoaaGreatDoor
open Go Go.V Go.Proofs
theorem zec {n:Nat} {f:Nat→Nat} {i:Nat} (h:i< (zG n f).length):(zG n f)[i]= .int .u64 (f i):=by
 simp [zG]
theorem zbx (n:Nat) (f:Nat→Nat):List.take n (zG n f)=zG n f:=List.take_of_length_le (by rw[zap];exact Nat.le_refl _)
theorem zr1 (c:Nat):((c:Int) % 64).toNat=c % 64:=by omega
theorem zcr (f:Nat→Nat) (a b c d:Value):zf [a,b,c,d] 0 (zG 4 f)=zG 4 f:=by
 unfold zf
 rw[List.take_zero,List.nil_append,List.drop_of_length_le (by rw[zap];exact Nat.le_refl _),List.append_nil]
theorem za9 (n:Nat) (f:Nat→Nat):(zG n f).all zaL=true:=by unfold zG;rw[List.all_map];exact List.all_eq_true.2 fun _ _=>rfl
theorem ztH (ws:Nat→Nat) (hw: ∀k,ws k<18446744073709551616) (c:Nat) (hc:c<256) {G:za} {H:zb} {R:Value→za→zb→Prop} (hR:R (.bool (mem ws c)) G H):FnT Tryz.prog 89 [.agg (zG 4 ws).toArray, .int .i64 (c:Nat)] G H R:=by
 have hl:=zap 4 ws
 have hq:c / 64<4:=by omega
 have hwk:=hw (c / 64)
 refine FnT.body tok [0,1,2,4] Tryz.func89 rfl Kk Kk (by show _≤15;simp) fun hsep=>?_
 rw[Tryz.results89]
 have hE:=hsep
 try simp only[zzs] at hE
 repeat(obtain⟨hx',hE⟩:=hE)
 repeat' first
  |with_reducible first|refine Nx.go ?_ |refine Bk.go (fun _=>?_) fun _=>?_ |refine Nb fun nb hnb hnb1 hnb2=>?_ |refine Nr fun nb nsp ncap hnb hncap hnb1 hnb2=>?_
  |simp -dsimp -implicitDefEqProofs (disch:=first|exact Kd|fail) only[go_sem,↓reduceIte,seval, -List.reduceReplicate,List.toList_toArray,hl,zec,zg7,zr1]
 all_goals refine Upd.finL ?_ hR ?_
 any_goals first|exact Ks|skip
 rw[zxS hwk]
 rfl
theorem zxT (ws:Nat→Nat) (hw: ∀k,ws k<18446744073709551616) (c:Nat) (hc:c<256) {G:za} {H:zb} {R:Value→za→zb→Prop} (hR:R (.agg (zG 4 (upd ws (c / 64) (ws (c / 64)|||2 ^ (c % 64)))).toArray) G H):FnT Tryz.prog 90 [.agg (zG 4 ws).toArray, .int .i64 (c:Nat)] G H R:=by
 have hl:=zap 4 ws
 have hq:c / 64<4:=by omega
 have hwk:=hw (c / 64)
 have hjj:c % 64<64:=by omega
 have hl':=fun f=>zap 4 f
 refine FnT.body tok [0,1,2,4] Tryz.func90 rfl Kk Kk (by show _≤18;simp) fun hsep=>?_
 rw[Tryz.results90]
 have hE:=hsep
 try simp only[zzs] at hE
 repeat(obtain⟨hx',hE⟩:=hE)
 repeat' first
  |with_reducible first|refine Nx.go ?_ |refine Bk.go (fun _=>?_) fun _=>?_ |refine Nb fun nb hnb hnb1 hnb2=>?_ |refine Nr fun nb nsp ncap hnb hncap hnb1 hnb2=>?_
  |simp -dsimp -implicitDefEqProofs (disch:=first|exact Kd|fail) only[go_sem,↓reduceIte,seval, -List.reduceReplicate,List.toList_toArray,hl,hl',zec,zg7,zr1,zqx hjj,zl8 hwk (zlj hjj),zhU,zbx,zcr,za9]
 all_goals refine Upd.finL ?_ hR ?_
 any_goals first|exact Ks|skip
 rfl
end Go.Proofs.YtomdbjfdbkejoaaGreatDoor
namespace Go.Proofs.YtomdbjfdbkejoaaGreatDoor
open Go Go.V Go.Proofs
def zy (m:List Int):List Int:=(zk m).map (zz m)
theorem zdj {m:List Int} {i k:Nat} (h3:i<k) (hk:k≤m.length):m[i]'Ko∈m.take k:=by
 rw[List.mem_iff_getElem]
 exact⟨i,by rw[List.length_take];omega,by rw[List.getElem_take]⟩
theorem zft {m:List Int} {i:Nat} (h:i<m.length):(zg m)[i]'(by rw[zr];exact h)=zz (zk (m.take (i+1))) m[i]:=by
 have key: ∀k,i<k→k≤m.length→zz (zk (m.take k)) m[i]=zz (zk (m.take (i+1))) m[i]:=fun k=>by
  induction k with
  |zero=>intro h1;omega
  |succ k ih=>
   intro h1 h2
   rcases Nat.lt_or_ge i k with h3|h3
   ·rw[←ih h3 Ko,List.take_succ_eq_append_getElem Ko,zaO]
    split
    ·rfl
    ·exact zmB ((zN _).2 (zdj h3 Ko)) _
   ·obtain rfl:k=i:=by omega
    rfl
 rw[zca h,←key m.length h (Nat.le_refl _),List.take_length]
theorem zqy {m:List Int} {i:Nat} (h:i<m.length):(zg m)[i]'(by rw[zr];exact h)=((zk (m.take i)).length:Int)↔m[i]∉m.take i:=by
 rw[zft h,List.take_succ_eq_append_getElem h]
 constructor
 ·intro e hm
  obtain⟨n,hn⟩:=zab ((zN _).2 hm)
  rw[(zc3 hn).1,zH hn] at e
  have:=(z6 hn).1
  omega
 ·intro hm
  have hp:=zcC fun h=>hm ((zN _).1 h)
  rw[(zcE hp).1,zH (zeo (zdK hp))]
theorem zqz {m:List Int} (hlen:m.length≤2000000) {G:za} {H:zb} {R:Value→za→zb→Prop} {v:Value} (hv:Sl G (Value.int .i64) v (zg m))
  (hR: ∀G' v',PLe G G'→Sep G' (zm H)→Sl G' (Value.int .i64) v' (zy m)→R v' G' H):FnT Tryz.prog 102 [v] G H R:=by
 obtain⟨a,cap,rfl,hrow,hcap⟩:=hv
 have hnl:=zr m
 rw[hnl] at hcap⊢
 refine FnT.sep ?_
 refine FnT.body tok [0,2,3,4,5,6,7,8,9,16] Tryz.func102 rfl Kk Kk (by show _≤23;simp) fun hsep=>?_
 rw[Tryz.results102]
 have hE:=hsep
 try simp only[zzs] at hE
 repeat(obtain⟨hx',hE⟩:=hE)
 repeat' first
  |with_reducible first|refine Nx.go ?_ |refine Bk.go (fun _=>?_) fun _=>?_ |refine Nb fun nb hnb hnb1 hnb2=>?_ |refine Nr fun nb nsp ncap hnb hncap hnb1 hnb2=>?_
  |simp -dsimp -implicitDefEqProofs (disch:=first|exact Kd|fail) only[go_sem,↓reduceIte,seval]
 refine Tri.loopU tok [0,2,3,4,5,6,7,8,9,16] Kk [0,2,3,6,7,8] (fun q G' fr H'=> ∃ (i:Nat) (v:Value) (kb:zb),i+q=m.length∧G'=G∧zS [] 3 1 v (zk (m.take i)).length (((zk (m.take i)).map (zz m)).map (Value.int .i64)) kb∧H'=kb++H∧fr=[(0, .slice a m.length cap),(2, .slice none 0 0),(3,v),(6, .slice a m.length cap),(7, .int .i64 m.length),(8, .int .i64 i)]) (m.length) ?_ ?_
 ·exact Upd.now ⟨0,_,[],by omega,rfl, .inl ⟨none,rfl,rfl,rfl,rfl⟩,rfl,rfl⟩
 ·rintro q G1 fr H' hle hs ⟨i,v,kb,hi,rfl,hv,rfl,rfl⟩
  have htl:=zai (m.take i)
  rw[List.length_take] at htl
  by_cases hil:i<m.length
  ·have had:Adr a:=hrow.adr (by rw[List.length_map,hnl];omega)
   have hin:i< (zg m).length:=by omega
   have htk:=List.take_succ_eq_append_getElem hil
   have hni:=zqy hil
   by_cases hnew:m[i]∈m.take i
   ·have hno:(zg m)[i]≠((zk (m.take i)).length:Int):=fun e=>(hni.1 e) hnew
    have ht:zk (m.take (i+1))=zk (m.take i):=by rw[htk,zaO,if_pos ((zN _).2 hnew)]
    rcases hv with ⟨a0,rfl,hn,hx,rfl⟩| ⟨b2,c2,sp,rfl,rfl,hx,hc⟩
    ·have:m[i]∈zk (m.take i):=(zN _).2 hnew
     rw[List.eq_nil_of_length_eq_zero hn] at this;cases this
    ·have hE:=hs
     try simp only[zzs] at hE
     repeat(obtain⟨hx',hE⟩:=hE)
     repeat' first
      |with_reducible first|refine Nx.go ?_ |refine Bk.go (fun _=>?_) fun _=>?_ |refine Nb fun nb hnb hnb1 hnb2=>?_ |refine Nr fun nb nsp ncap hnb hncap hnb1 hnb2=>?_
      |simp -dsimp -implicitDefEqProofs (disch:=first|exact Kd|fail) only[go_sem,↓reduceIte,seval,Row.obj hrow,List.getElem_map,List.length_map,hnl]
     exact Upd.now ⟨q - 1,by omega,i+1,_,[(b2, .cells (((zk (m.take (i+1))).map (zz m)).map (Value.int .i64)) sp 3)],by omega,rfl, .inr ⟨b2,c2,sp,by rw[ht],rfl,by rw[ht];exact hx,by rw[ht];exact hc⟩,by rw[ht];rfl,rfl⟩
   ·have hyes:=hni.2 hnew
    have hp:=zcC fun h=>hnew ((zN _).1 h)
    have ht:zk (m.take (i+1))=zk (m.take i)++[m[i]]:=by rw[htk];exact(zcE hp).1
    obtain⟨p,hpp,_,_,hpn⟩:=zb4 hil
    obtain rfl:p=i:=hpn.2 hnew
    have hce:((zk (m.take (p+1))).map (zz m)).map (Value.int .i64)=((zk (m.take p)).map (zz m)).map (Value.int .i64)++[Value.int .i64 p]:=by rw[ht,List.map_append,List.map_append,List.map_singleton,zH hpp];rfl
    have hcl:(zk (m.take (p+1))).length=(zk (m.take p)).length+1:=by rw[ht,List.length_append];rfl
    rcases hv with ⟨a0,rfl,hn,hx,rfl⟩| ⟨b2,c2,sp,rfl,rfl,hx,hc⟩
    ·have hE:=hs
     try simp only[zzs] at hE
     repeat(obtain⟨hx',hE⟩:=hE)
     repeat' first
      |with_reducible first|refine Nx.go ?_ |refine Bk.go (fun _=>?_) fun _=>?_ |refine Nb fun nb hnb hnb1 hnb2=>?_ |refine Nr fun nb nsp ncap hnb hncap hnb1 hnb2=>?_
      |simp -dsimp -implicitDefEqProofs (disch:=first|exact Kd|fail) only[go_sem,↓reduceIte,seval,Row.obj hrow,List.getElem_map,List.length_map,hnl,hyes,hn]
     rw[hx,List.nil_append] at hce
     rw[←hce]
     exact Upd.go (H':=(nb, .cells (((zk (m.take (p+1))).map (zz m)).map (Value.int .i64)) nsp 3)::H) Ks (Upd.now ⟨q - 1,by omega,p+1, .slice (some ⟨nb,0,none⟩) (zk (m.take (p+1))).length ncap,[(nb, .cells (((zk (m.take (p+1))).map (zz m)).map (Value.int .i64)) nsp 3)],by omega,rfl, .inr ⟨nb,ncap,nsp,rfl,rfl,by rw[List.length_map,List.length_map];omega,by rw[List.length_map,List.length_map];simp at hncap⊢;omega⟩,rfl,by rw[hcl,hn];rfl⟩)
    ·have hE:=hs
     try simp only[zzs] at hE
     repeat(obtain⟨hx',hE⟩:=hE)
     repeat' first
      |with_reducible first|refine Nx.go ?_ |refine Bk.go (fun _=>?_) fun _=>?_ |refine Nb fun nb hnb hnb1 hnb2=>?_ |refine Nr fun nb nsp ncap hnb hncap hnb1 hnb2=>?_
      |simp -dsimp -implicitDefEqProofs (disch:=first|exact Kd|fail) only[go_sem,↓reduceIte,seval,Row.obj hrow,List.getElem_map,List.length_map,hnl,hyes]
     rw[←hce]
     exact Upd.go (H':=(nb, .cells (((zk (m.take (p+1))).map (zz m)).map (Value.int .i64)) nsp 3)::H) Ks (Upd.now ⟨q - 1,by omega,p+1, .slice (some ⟨nb,0,none⟩) (zk (m.take (p+1))).length ncap,[(nb, .cells (((zk (m.take (p+1))).map (zz m)).map (Value.int .i64)) nsp 3)],by omega,rfl, .inr ⟨nb,ncap,nsp,rfl,rfl,by rw[List.length_map,List.length_map];omega,by rw[List.length_map,List.length_map];simp at hncap⊢;omega⟩,rfl,by rw[hcl];rfl⟩)
  ·obtain rfl:i=m.length:=by omega
   rw[List.take_length] at hv
   repeat' first
    |with_reducible first|refine Nx.go ?_ |refine Bk.go (fun _=>?_) fun _=>?_ |refine Nb fun nb hnb hnb1 hnb2=>?_ |refine Nr fun nb nsp ncap hnb hncap hnb1 hnb2=>?_
    |simp -dsimp -implicitDefEqProofs (disch:=first|exact Kd|fail) only[go_sem,↓reduceIte,seval]
   unfold zv
   refine Upd.go (H':=kb++H) Ks ?_
   rcases hv with ⟨a0,rfl,hn,hx,rfl⟩| ⟨b2,c2,sp,rfl,rfl,hx,hc⟩
   ·refine Upd.now ?_
    have hh:zy m=[]:=by unfold zy;rw[List.eq_nil_of_length_eq_zero hn];rfl
    exact fun hle hs=>hR _ _ (PLe.refl _) hs ⟨a0,0,by rw[hh];rfl,by rw[hh];exact Row.nil _ _,by rw[hh];exact Nat.le_refl _⟩
   ·have hE:=hs
    try simp only[zzs] at hE
    repeat(obtain⟨hx',hE⟩:=hE)
    refine Upd.shareRow Ka fun G2 hle2 hs2 hr2=>?_
    exact fun hle hs=>hR _ _ hle2 hs ⟨some ⟨b2,0,none⟩,c2,by unfold zy;rw[List.length_map],hr2,by unfold zy;rw[List.length_map] at hx hc⊢;rw[List.length_map] at hx hc;omega⟩
end Go.Proofs.YtomdbjfdbkejoaaGreatDoor
namespace Go.Proofs.YtomdbjfdbkejoaaGreatDoor
open Go Go.V Go.Proofs
def zaS (n:Nat) (f:Nat→Bool):List Value:=(List.range n).map fun k=>Value.bool (f k)
theorem zbZ (n:Nat) (f:Nat→Bool):(zaS n f).length=n:=by simp [zaS]
theorem zfm {n:Nat} {f:Nat→Bool} {i:Nat} (h:i< (zaS n f).length):(zaS n f)[i]= .bool (f i):=by simp [zaS]
theorem zlk {n:Nat} {f:Nat→Bool} {i:Nat} (h:i<n):(zaS n f)[i]? =some (.bool (f i)):=by
 rw[List.getElem?_eq_getElem (by rw[zbZ];exact h),zfm]
theorem zpU {n:Nat} {f:Nat→Bool} {i:Nat} (h:i<n) (x:Bool):zf (zaS n f) i [.bool x]=zaS n (upd f i x):=by
 rw[zg8 (by rw[zbZ];exact h)]
 apply List.ext_getElem (by rw[List.length_set,zbZ,zbZ])
 intro k h1 h2
 rw[zfm,List.getElem_set]
 by_cases hk:i=k
 ·subst hk;rw[if_pos rfl,zaR]
 ·rw[if_neg hk,zfm,zbo _ _ (Ne.symm hk)]
theorem zpV (n:Nat):List.replicate n (Value.bool false)=zaS n (fun _=>false):=by
 unfold zaS;rw[List.map_const',List.length_range]
theorem zr2 (n:Nat) (f:Nat→Bool):(zaS n f).all zaL=true:=by unfold zaS;rw[List.all_map];exact List.all_eq_true.2 fun _ _=>rfl
theorem zpW (n:Nat) (f g:Nat→Bool):zf (zaS n f) 0 (zaS n g)=zaS n g:=by
 unfold zf
 rw[List.take_zero,List.nil_append,List.drop_of_length_le (by rw[zbZ,zbZ];omega),List.append_nil]
theorem zgj {n:Nat} {f g:Nat→Bool} (h: ∀k,k<n→f k=g k):zaS n f=zaS n g:=by
 unfold zaS
 exact List.map_congr_left fun k hk=>by rw[h k (List.mem_range.1 hk)]
def zeC (l:List Int) (c:Nat) (W:List (Nat→Nat)):Prop:=
 W.length=(zk (l.take c)).length∧(∀ws∈W,∀k,ws k<18446744073709551616)∧ ∀i d (hi:i<W.length) (hd:d<l.length) (h2:i< (zk (l.take c)).length),mem W[i] d=decide (l[d]=(zk (l.take c))[i])
def zac:(Nat→Nat)→List Value:=zG 4
theorem zaX (ws:Nat→Nat):(zac ws).length=4:=zap 4 ws
theorem zkk (i:Nat):mem (fun _=>0) i=false:=by unfold mem;exact Nat.zero_testBit _
theorem zw9:[Value.int .u64 0,Value.int .u64 0,Value.int .u64 0,Value.int .u64 0]=zG 4 (fun _=>0):=rfl
theorem zyV {l:List Int} (hl:l.length=256) (hlb: ∀x∈l,0≤x∧x≤255) {G:za} {H:zb} {R:Value→za→zb→Prop}
  (hR: ∀G' v' W,PLe G G'→Sep G' (zm H)→SlM G' zac v' W→zeC l 256 W→R v' G' H):FnT Tryz.prog 57 [zbO l] G H R:=by
 have hu8:(u8L l).length=256:=by rw[List.length_map,hl]
 refine FnT.sep ?_
 refine FnT.body tok [0,1,2,3,4,5,6,7,11,18,26,35] Tryz.func57 rfl Kk Kk (by show _≤44;simp) fun hsep=>?_
 rw[Tryz.results57]
 have hE:=hsep
 try simp only[zzs] at hE
 repeat(obtain⟨hx',hE⟩:=hE)
 repeat' first
  |with_reducible first|refine Nx.go ?_ |refine Bk.go (fun _=>?_) fun _=>?_ |refine Nb fun nb hnb hnb1 hnb2=>?_ |refine Nr fun nb nsp ncap hnb hncap hnb1 hnb2=>?_
  |simp -dsimp -implicitDefEqProofs (disch:=first|exact Kd|fail) only[go_sem,↓reduceIte,seval, -List.reduceReplicate,List.toList_toArray,zpV,zbZ,zr2,zpW]
 rename_i b1 hb10 hb11 hb12 bo0 ho0 ho1 ho2
 revert nb
 intro bd hbd hbd1 hbd2
 refine Tri.loopU tok [0,1,2,3,4,5,6,7,11,18,26,35] Kk [1,2,3,4,5] (fun q G' fr H'=> ∃ (c bo cap:Nat) (W:List (Nat→Nat)) (sp:List Value),c+q=256∧G'=G∧zeC l c W∧W.length * 4+sp.length=cap * 4∧H'=(bd, .cells (zaS 256 (fun x=>decide ((x:Int)∈l.take c))) [] 117):: (bo, .cells (W.flatMap zac) sp 101):: (b1, .cells (u8L l) [] 22)::H∧fr=[(1, .pointer (some ⟨b1,0,none⟩)),(2, .slice none 0 0),(3, .slice (some ⟨bo,0,none⟩) W.length cap),(4, .pointer (some ⟨bd,0,none⟩)),(5, .int .i64 (c:Nat))]) (256) ?_ ?_
 ·refine Upd.now ⟨0,bo0,0,[],[],by omega,rfl,⟨rfl,(fun ws h=>by cases h),(fun i d h=>by cases h)⟩,rfl,?_,rfl⟩
  rw[show zaS 256 (fun x=>decide ((x:Int)∈l.take 0))=zaS 256 (fun _=>false) from zgj fun k _=>by simp]
  rfl
 ·rintro q G1 fr H' hle hs ⟨c,bo,cap,W,sp,hc,rfl,hW,hcap,rfl,rfl⟩
  have hE:=hs
  try simp only[zzs] at hE
  repeat(obtain⟨hx',hE⟩:=hE)
  obtain⟨hW1,hW2,hW3⟩:=id hW
  have htl:=zai (l.take c)
  rw[List.length_take] at htl
  have hfl:=zbq (enc:=zac) (m:=4) zaX W
  by_cases hcl:c<256
  ·have hcl2:c<l.length:=by omega
   have hx:=hlb _ (List.getElem_mem hcl2)
   obtain⟨y,hy⟩:=Int.eq_ofNat_of_zero_le hx.1
   have hy2:y<256:=by omega
   have htk:=List.take_succ_eq_append_getElem hcl2
   by_cases hold:l[c]∈l.take c
   ·have hdo:decide ((y:Int)∈l.take c)=true:=by rw[←hy];exact decide_eq_true hold
    have ht:zk (l.take (c+1))=zk (l.take c):=by rw[htk,zaO,if_pos ((zN _).2 hold)]
    repeat' first
     |with_reducible first|refine Nx.go ?_ |refine Bk.go (fun _=>?_) fun _=>?_ |refine Nb fun nb hnb hnb1 hnb2=>?_ |refine Nr fun nb nsp ncap hnb hncap hnb1 hnb2=>?_
     |simp -dsimp -implicitDefEqProofs (disch:=first|exact Kd|fail) only[go_sem,↓reduceIte,seval, -List.reduceReplicate,hu8,List.getElem_map,hy,zbZ,zfm,zlk,hdo,Int.toNat_natCast]
    rw[show zaS 256 (fun x=>decide ((x:Int)∈l.take c))=zaS 256 (fun x=>decide ((x:Int)∈l.take (c+1))) from zgj fun k _=>decide_eq_decide.2 (by
     rw[htk,List.mem_append,List.mem_singleton]
     exact⟨.inl,fun h=>by
      rcases h with h|h
      ·exact h
      ·rw[h];exact hold⟩)]
    exact Upd.now ⟨q - 1,by omega,c+1,bo,cap,W,sp,by omega,rfl,by unfold zeC;rw[ht];exact hW,hcap,rfl,rfl⟩
   ·have hdo:decide ((y:Int)∈l.take c)=false:=by rw[←hy];exact decide_eq_false hold
    repeat' first
     |with_reducible first|refine Nx.go ?_ |refine Bk.go (fun _=>?_) fun _=>?_ |refine Nb fun nb hnb hnb1 hnb2=>?_ |refine Nr fun nb nsp ncap hnb hncap hnb1 hnb2=>?_
     |simp -dsimp -implicitDefEqProofs (disch:=first|exact Kd|fail) only[go_sem,↓reduceIte,seval, -List.reduceReplicate,hu8,List.getElem_map,hy,zbZ,zfm,zlk,zpU,hdo,Int.toNat_natCast]
    revert nb
    intro bs hbs hbs1 hbs2
    rw[show zaS 256 (upd (fun x=>decide ((x:Int)∈l.take c)) y true)=zaS 256 (fun x=>decide ((x:Int)∈l.take (c+1))) from zgj fun k _=>by
     unfold upd
     rw[htk]
     by_cases e:k=y
     ·subst e
      rw[if_pos rfl]
      exact(decide_eq_true (by rw[List.mem_append,List.mem_singleton];exact .inr hy.symm)).symm
     ·rw[if_neg e]
      exact decide_eq_decide.2 (by
       rw[List.mem_append,List.mem_singleton]
       exact⟨.inl,fun h=>by
        rcases h with h|h
        ·exact h
        ·exact absurd Ko e⟩)]
    have ht:zk (l.take (c+1))=zk (l.take c)++[l[c]]:=by
     rw[htk,zaO,if_neg fun h=>hold ((zN _).1 h)]
    refine Tri.loopU tok [0,1,2,3,4,5,6,7,11,18,26,35] Kk [1,2,3,4,5,6,7] (fun q2 G' fr H'=> ∃ (d:Nat) (ws:Nat→Nat),d+q2=256∧c≤d∧(∀k,ws k<18446744073709551616)∧(∀x (hx:x<l.length),mem ws x=decide (c≤x∧x<d∧l[x]=l[c]))∧G'=G1∧H'=(bs, .cells (zG 4 ws) [] 101):: (bd, .cells (zaS 256 (fun x=>decide ((x:Int)∈l.take (c+1)))) [] 117):: (bo, .cells (W.flatMap zac) sp 101):: (b1, .cells (u8L l) [] 22)::H∧fr=[(1, .pointer (some ⟨b1,0,none⟩)),(2, .slice none 0 0),(3, .slice (some ⟨bo,0,none⟩) W.length cap),(4, .pointer (some ⟨bd,0,none⟩)),(5, .int .i64 (c:Nat)),(6, .pointer (some ⟨bs,0,none⟩)),(7, .int .i64 (d:Nat))]) ((256 - c)) ?_ ?_
    ·exact Upd.now ⟨c,fun _=>0,by omega,Nat.le_refl _,(fun _=>Nat.zero_lt_succ _),fun x hx=>by rw[zkk];exact(decide_eq_false Ko).symm,rfl,rfl,rfl⟩
    ·rintro q2 G2 fr H' hle2 hs2 ⟨d,ws,hd,hcd,hws,hmem,rfl,rfl,rfl⟩
     have hE:=hs2
     try simp only[zzs] at hE
     repeat(obtain⟨hx',hE⟩:=hE)
     have h4:=zap 4 ws
     have hov: ∀f:Nat→Nat,zf (zG 4 ws) 0 (zG 4 f)=zG 4 f:=fun f=>by
      unfold zf
      rw[List.take_zero,List.nil_append,List.drop_of_length_le (by rw[h4,zap];omega),List.append_nil]
     by_cases hdl:d<256
     ·have hdl2:d<l.length:=by omega
      by_cases hhit:l[d]=l[c]
      ·repeat' first
        |with_reducible first|refine Nx.go ?_ |refine Bk.go (fun _=>?_) fun _=>?_ |refine Nb fun nb hnb hnb1 hnb2=>?_ |refine Nr fun nb nsp ncap hnb hncap hnb1 hnb2=>?_
        |with_reducible refine Tri.drawH tok mixed [0,1,2,3,4,5,6,7,11,18,26,35] 12 [2,5] (.op 0 .plain (.op 1 .plain (.op 2 .held (.op 3 .plain (.op 4 .plain (.op 5 .held (.op 6 .plain .nil))))))) Kk [1] ?_
        |simp -dsimp -implicitDefEqProofs (disch:=first|exact Kd|fail) only[go_sem,↓reduceIte,seval, -List.reduceReplicate,hu8,List.getElem_map,hhit,h4,zbx,za9,zap,hov,List.toList_toArray]
        |with_reducible refine zxT ws hws d hdl ?_
       refine Upd.now ⟨q2 - 1,by omega,d+1,_,by omega,by omega,fun k=>?_,fun x hx=>?_,rfl,rfl,rfl⟩
       ·unfold upd;split
        ·exact zyU (hws _) Ko
        ·exact hws k
       ·rw[zqw,hmem x hx,Bool.eq_iff_iff]
        simp only[Bool.or_eq_true,decide_eq_true_eq]
        constructor
        ·rintro(⟨h1,h2,h3⟩|h)
         ·exact⟨h1,by omega,h3⟩
         ·subst h;exact⟨hcd,by omega,hhit⟩
        ·rintro⟨h1,h2,h3⟩
         by_cases e:x=d
         ·exact .inr e
         ·exact .inl ⟨h1,by omega,h3⟩
      ·repeat' first
        |with_reducible first|refine Nx.go ?_ |refine Bk.go (fun _=>?_) fun _=>?_ |refine Nb fun nb hnb hnb1 hnb2=>?_ |refine Nr fun nb nsp ncap hnb hncap hnb1 hnb2=>?_
        |with_reducible refine Tri.drawH tok mixed [0,1,2,3,4,5,6,7,11,18,26,35] 12 [2,5] (.op 0 .plain (.op 1 .plain (.op 2 .held (.op 3 .plain (.op 4 .plain (.op 5 .held (.op 6 .plain .nil))))))) Kk [1] ?_
        |simp -dsimp -implicitDefEqProofs (disch:=first|exact Kd|fail) only[go_sem,↓reduceIte,seval, -List.reduceReplicate,hu8,List.getElem_map]
       refine Upd.now ⟨q2 - 1,by omega,d+1,ws,by omega,by omega,hws,fun x hx=>?_,rfl,rfl,rfl⟩
       rw[hmem x hx]
       refine decide_eq_decide.2 ⟨fun h=>⟨h.1,by omega,h.2.2⟩,fun h=>⟨h.1,?_,h.2.2⟩⟩
       rcases Nat.lt_or_ge x d with h1|h1
       ·exact h1
       ·obtain rfl:x=d:=by omega
        exact absurd h.2.2 hhit
     ·obtain rfl:d=256:=by omega
      repeat' first
       |with_reducible first|refine Nx.go ?_ |refine Bk.go (fun _=>?_) fun _=>?_ |refine Nb fun nb hnb hnb1 hnb2=>?_ |refine Nr fun nb nsp ncap hnb hncap hnb1 hnb2=>?_
       |simp -dsimp -implicitDefEqProofs (disch:=first|exact Kd|fail) only[go_sem,↓reduceIte,seval, -List.reduceReplicate,h4,zbx,za9,zcr,List.toList_toArray]
      have hfl2:(W++[ws]).flatMap zac=W.flatMap zac++zG 4 ws:=by rw[List.flatMap_append];simp [zac]
      have hnew:zeC l (c+1) (W++[ws]):=by
       refine⟨by rw[ht,List.length_append,List.length_append,hW1];rfl,fun f hf=>?_,fun i d hi hd h2=>?_⟩
       ·rcases List.mem_append.1 hf with h|h
        ·exact hW2 f h
        ·rw[List.mem_singleton.1 h];exact hws
       ·have h3:(zk (l.take (c+1)))[i]=(zk (l.take c)++[l[c]])[i]'(by rw[←ht];exact h2):=by simp only[ht]
        rw[h3]
        rcases Nat.lt_or_ge i W.length with hiw|hiw
        ·rw[List.getElem_append_left hiw,List.getElem_append_left Ko]
         exact hW3 i d hiw hd Ko
        ·have hi2:i=W.length:=by rw[List.length_append,List.length_singleton] at hi;omega
         subst hi2
         rw[List.getElem_append_right (Nat.le_refl _),List.getElem_append_right Ko]
         simp only[hW1,Nat.sub_self,List.getElem_singleton]
         rw[hmem d hd]
         refine decide_eq_decide.2 ⟨fun h=>h.2.2,fun h=>⟨?_,by omega,h⟩⟩
         rcases Nat.lt_or_ge d c with h1|h1
         ·exact absurd (by rw[←h];exact zdj h1 Ko) hold
         ·exact h1
      rw[←hfl2]
      exact Upd.go (H':=(bd, .cells (zaS 256 (fun x=>decide ((x:Int)∈l.take (c+1)))) [] 117):: (nb, .cells ((W++[ws]).flatMap zac) nsp 101):: (b1, .cells (u8L l) [] 22)::H) Ks (Upd.now ⟨q - 1,by omega,c+1,nb,ncap,W++[ws],nsp,by omega,rfl,hnew,by rw[List.length_append];simp at hncap⊢;omega,rfl,by rw[List.length_append];rfl⟩)
  ·obtain rfl:c=256:=by omega
   repeat' first
    |with_reducible first|refine Nx.go ?_ |refine Bk.go (fun _=>?_) fun _=>?_ |refine Nb fun nb hnb hnb1 hnb2=>?_ |refine Nr fun nb nsp ncap hnb hncap hnb1 hnb2=>?_
    |simp -dsimp -implicitDefEqProofs (disch:=first|exact Kd|fail) only[go_sem,↓reduceIte,seval, -List.reduceReplicate]
   unfold zv
   refine Upd.go (H':=(bo, .cells (W.flatMap zac) sp 101)::H) Ks (Upd.shareRow Ka fun G2 hle2 hs2 hr2=>?_)
   exact fun _ hs=>hR G2 _ W hle2 hs ⟨some ⟨bo,0,none⟩,cap,rfl,hr2,by omega⟩ hW
end Go.Proofs.YtomdbjfdbkejoaaGreatDoor
namespace Go.Proofs.YtomdbjfdbkejoaaGreatDoor
open Go Go.V Go.Proofs
def u8F (f:Nat→Int):List Value:=(List.range 256).map fun k=>Value.int .u8 (f k)
theorem zay (f:Nat→Int):(u8F f).length=256:=by simp [u8F]
theorem zll {f:Nat→Int} {i:Nat} (h:i< (u8F f).length):(u8F f)[i]= .int .u8 (f i):=by simp [u8F]
theorem zkl {f:Nat→Int} {i:Nat} (h:i<256) (x:Int):zf (u8F f) i [.int .u8 x]=u8F (upd f i x):=by
 rw[zg8 (by rw[zay];exact h)]
 apply List.ext_getElem (by rw[List.length_set,zay,zay])
 intro k h1 h2
 rw[zll,List.getElem_set]
 by_cases hk:i=k
 ·subst hk;rw[if_pos rfl,zaR]
 ·rw[if_neg hk,zll,zbo _ _ (Ne.symm hk)]
theorem zcS (f:Nat→Int):(u8F f).all zaL=true:=by unfold u8F;rw[List.all_map];exact List.all_eq_true.2 fun _ _=>rfl
theorem zbE (f g:Nat→Int):zf (u8F f) 0 (u8F g)=u8F g:=by
 unfold zf
 rw[List.take_zero,List.nil_append,List.drop_of_length_le (by rw[zay,zay];omega),List.append_nil]
theorem zc4:List.replicate 256 (Value.int .u8 0)=u8F (fun _=>0):=by
 unfold u8F;rw[List.map_const',List.length_range]
theorem zc5 (f:Nat→Int):List.take 256 (u8F f)=u8F f:=List.take_of_length_le (by rw[zay];omega)
theorem zdz {f g:Nat→Int} (h: ∀k,k<256→f k=g k):u8F f=u8F g:=by
 unfold u8F
 exact List.map_congr_left fun k hk=>by rw[h k (List.mem_range.1 hk)]
def nD (l:List Int) (k:Nat):Int:=(zg l).getD k 0
theorem zhV {l:List Int} (hl:l.length=256):u8F (nD l)=u8L (zg l):=by
 apply List.ext_getElem (by rw[zay,List.length_map,zr,hl])
 intro k h1 h2
 have h3:k< (zg l).length:=by rw[List.length_map] at h2;exact h2
 rw[zll,List.getElem_map,nD,List.getD_eq_getElem?_getD,List.getElem?_eq_getElem h3];rfl
theorem zmG {l:List Int} {c i:Nat} (hc:c<l.length) (hi:i< (zk l).length):l[c]=(zk l)[i]↔nD l c=i:=by
 have h3:c< (zg l).length:=by rw[zr];exact hc
 unfold nD
 rw[List.getD_eq_getElem?_getD,List.getElem?_eq_getElem h3,Option.getD_some,zca hc]
 have hp:=zdx (zc2 l) hi
 constructor
 ·intro e;rw[e,zH hp]
 ·intro e
  refine ziN ((zN l).2 (List.getElem_mem hc)) (List.getElem_mem hi) ?_
  rw[e,zH hp]
def fU (l:List Int) (i c k:Nat):Int:=if nD l k<i∨(nD l k=i∧k<c) then nD l k else 0
theorem ztI {l:List Int} (hl:l.length=256) {W:List (Nat→Nat)} (hW:zeC l 256 W) {G:za} {H:zb} {R:Value→za→zb→Prop} {v:Value} (hv:SlM G zac v W)
  (hR:R (.tuple #[zbO (zg l), .int .i64 (zk l).length]) G H):FnT Tryz.prog 56 [v] G H R:=by
 obtain⟨a,cap,rfl,hrow,hcap⟩:=hv
 obtain⟨hW1,hW2,hW3⟩:=hW
 have hlt:l.take 256=l:=List.take_of_length_le Ko
 simp only[hlt] at hW1 hW3
 have htl:=zai l
 have hfl:=zbq (enc:=zac) (m:=4) zaX W
 refine FnT.body tok [0,2,3,4,5,6,11,15,23] Tryz.func56 rfl Kk Kk (by show _≤31;simp) fun hsep=>?_
 rw[Tryz.results56]
 have hE:=hsep
 try simp only[zzs] at hE
 repeat(obtain⟨hx',hE⟩:=hE)
 repeat' first
  |with_reducible first|refine Nx.go ?_ |refine Bk.go (fun _=>?_) fun _=>?_ |refine Nb fun nb hnb hnb1 hnb2=>?_ |refine Nr fun nb nsp ncap hnb hncap hnb1 hnb2=>?_
  |simp -dsimp -implicitDefEqProofs (disch:=first|exact Kd|fail) only[go_sem,↓reduceIte,seval, -List.reduceReplicate,List.toList_toArray,zc4,zay,zcS,zbE]
 rename_i b2 hb20 hb21 hb22
 revert nb
 intro b4 hb40 hb41 hb42
 refine Tri.loopU tok [0,2,3,4,5,6,11,15,23] Kk [0,2,3,4,5] (fun q G' fr H'=> ∃i:Nat,i+q=W.length∧G'=G∧H'=(b4, .cells (u8F (fU l i 0)) [] 22):: (b2, .cells (u8F (fun _=>0)) [] 22)::H∧fr=[(0, .slice a W.length cap),(2, .pointer (some ⟨b2,0,none⟩)),(3, .int .i64 0),(4, .pointer (some ⟨b4,0,none⟩)),(5, .int .i64 (i:Nat))]) (W.length) ?_ ?_
 ·refine Upd.now ⟨0,by omega,rfl,?_,rfl⟩
  rw[show u8F (fU l 0 0)=u8F (fun _=>0) from zdz fun k hk=>by
   have: ¬(nD l k< (0 :Nat)∨(nD l k=(0 :Nat)∧k<0)):=by
    have hk2:k< (zg l).length:=by rw[zr];omega
    have:=(zbd (List.getElem_mem hk2)).1
    have e:nD l k=(zg l)[k]:=by unfold nD;rw[List.getD_eq_getElem?_getD,List.getElem?_eq_getElem hk2];rfl
    omega
   unfold fU;rw[if_neg this]]
 ·rintro q G1 fr H' hle hs ⟨i,hi,rfl,rfl,rfl⟩
  have hE:=hs
  try simp only[zzs] at hE
  repeat(obtain⟨hx',hE⟩:=hE)
  by_cases hil:i<W.length
  ·have had:Adr a:=hrow.adr Ko
   have hit:i< (zk l).length:=by omega
   have hw:=zeO (n:=i) Ko
   have hws:=hW2 _ (List.getElem_mem hil)
   repeat' first
    |with_reducible first|refine Nx.go ?_ |refine Bk.go (fun _=>?_) fun _=>?_ |refine Nb fun nb hnb hnb1 hnb2=>?_ |refine Nr fun nb nsp ncap hnb hncap hnb1 hnb2=>?_
    |simp -dsimp -implicitDefEqProofs (disch:=first|exact Kd|fail) only[go_sem,↓reduceIte,seval, -List.reduceReplicate]
   refine Tri.loopU tok [0,2,3,4,5,6,11,15,23] Kk [0,2,3,4,5,6] (fun q2 G' fr H'=> ∃c:Nat,c+q2=256∧G'=G1∧H'=(b4, .cells (u8F (fU l i c)) [] 22):: (b2, .cells (u8F (fun _=>0)) [] 22)::H∧fr=[(0, .slice a W.length cap),(2, .pointer (some ⟨b2,0,none⟩)),(3, .int .i64 0),(4, .pointer (some ⟨b4,0,none⟩)),(5, .int .i64 (i:Nat)),(6, .int .i64 (c:Nat))]) (256) ?_ ?_
   ·exact Upd.now ⟨0,by omega,rfl,rfl,rfl⟩
   ·rintro q2 G2 fr H' hle2 hs2 ⟨c,hc,rfl,rfl,rfl⟩
    have hE:=hs2
    try simp only[zzs] at hE
    repeat(obtain⟨hx',hE⟩:=hE)
    by_cases hcl:c<256
    ·have hcl2:c<l.length:=by omega
     have hmem:=hW3 i c hil hcl2 hit
     have hcls:=zmG hcl2 hit
     by_cases hhit:nD l c=i
     ·rw[decide_eq_true (hcls.2 hhit)] at hmem
      repeat' first
       |with_reducible first|refine Nx.go ?_ |refine Bk.go (fun _=>?_) fun _=>?_ |refine Nb fun nb hnb hnb1 hnb2=>?_ |refine Nr fun nb nsp ncap hnb hncap hnb1 hnb2=>?_
       |simp -dsimp -implicitDefEqProofs (disch:=first|exact Kd|fail) only[go_sem,↓reduceIte,seval, -List.reduceReplicate,Row.objsM hrow zaX (by decide) hil,zac,hmem,hw,zkl,zay]
       |with_reducible refine ztH _ hws c hcl ?_
      rw[show u8F (upd (fU l i c) c i)=u8F (fU l i (c+1)) from zdz fun k _=>by
       unfold upd fU
       by_cases e:k=c
       ·subst e
        rw[if_pos rfl,if_pos Ko,hhit]
       ·rw[if_neg e]
        by_cases h:nD l k<i∨(nD l k=i∧k<c)
        ·rw[if_pos h,if_pos Ko]
        ·rw[if_neg h,if_neg Ko]]
      exact Upd.now ⟨q2 - 1,by omega,c+1,by omega,rfl,rfl,rfl⟩
     ·rw[decide_eq_false fun e=>hhit (hcls.1 e)] at hmem
      repeat' first
       |with_reducible first|refine Nx.go ?_ |refine Bk.go (fun _=>?_) fun _=>?_ |refine Nb fun nb hnb hnb1 hnb2=>?_ |refine Nr fun nb nsp ncap hnb hncap hnb1 hnb2=>?_
       |simp -dsimp -implicitDefEqProofs (disch:=first|exact Kd|fail) only[go_sem,↓reduceIte,seval, -List.reduceReplicate,Row.objsM hrow zaX (by decide) hil,zac,hmem]
       |with_reducible refine ztH _ hws c hcl ?_
      rw[show u8F (fU l i c)=u8F (fU l i (c+1)) from zdz fun k _=>by
       unfold fU
       by_cases e:k=c
       ·subst e
        by_cases h:nD l k<i
        ·rw[if_pos Ko,if_pos Ko]
        ·rw[if_neg Ko,if_neg Ko]
       ·by_cases h:nD l k<i∨(nD l k=i∧k<c)
        ·rw[if_pos h,if_pos Ko]
        ·rw[if_neg h,if_neg Ko]]
      exact Upd.now ⟨q2 - 1,by omega,c+1,by omega,rfl,rfl,rfl⟩
    ·obtain rfl:c=256:=by omega
     repeat' first
      |with_reducible first|refine Nx.go ?_ |refine Bk.go (fun _=>?_) fun _=>?_ |refine Nb fun nb hnb hnb1 hnb2=>?_ |refine Nr fun nb nsp ncap hnb hncap hnb1 hnb2=>?_
      |simp -dsimp -implicitDefEqProofs (disch:=first|exact Kd|fail) only[go_sem,↓reduceIte,seval, -List.reduceReplicate]
     rw[show u8F (fU l i 256)=u8F (fU l (i+1) 0) from zdz fun k hk=>by
      unfold fU
      by_cases h:nD l k<i∨(nD l k=i∧k<256)
      ·rw[if_pos h,if_pos Ko]
      ·rw[if_neg h,if_neg Ko]]
     exact Upd.now ⟨q - 1,by omega,i+1,by omega,rfl,rfl,rfl⟩
  ·obtain rfl:i=W.length:=by omega
   repeat' first
    |with_reducible first|refine Nx.go ?_ |refine Bk.go (fun _=>?_) fun _=>?_ |refine Nb fun nb hnb hnb1 hnb2=>?_ |refine Nr fun nb nsp ncap hnb hncap hnb1 hnb2=>?_
    |simp -dsimp -implicitDefEqProofs (disch:=first|exact Kd|fail) only[go_sem,↓reduceIte,seval, -List.reduceReplicate,zc5,zcS,zbE,zay,List.toList_toArray]
   rw[show u8F (fU l W.length 0)=u8L (zg l) by
    rw[←zhV hl]
    refine zdz fun k hk=>?_
    have hk2:k< (zg l).length:=by rw[zr];omega
    have:=(zbd (List.getElem_mem hk2)).2
    have e:nD l k=(zg l)[k]:=by unfold nD;rw[List.getD_eq_getElem?_getD,List.getElem?_eq_getElem hk2];rfl
    unfold fU;rw[if_pos Ko]]
   rw[←hW1] at hR
   all_goals refine Upd.finL ?_ hR ?_
   any_goals first|exact Ks|skip
   rfl
theorem zvQ {l:List Int} (hl:l.length=256) (hlb: ∀x∈l,0≤x∧x≤255) {G:za} {H:zb} {R:Value→za→zb→Prop}
  (hR: ∀G',PLe G G'→Sep G' (zm H)→R (.tuple #[zbO (zg l), .int .i64 (zk l).length]) G' H):FnT Tryz.prog 31 [zbO l] G H R:=by
 have hnl:(zg l).length=256:=by rw[zr,hl]
 have hu8:(u8L l).length=256:=by rw[List.length_map,hl]
 have hu9:(u8L (zg l)).length=256:=by rw[List.length_map,hnl]
 have hspl:zf (List.replicate 256 (Value.int .u8 0)) 0 (u8L (zg l))=u8L (zg l):=by
  unfold zf
  rw[List.take_zero,List.nil_append,List.drop_of_length_le (by rw[List.length_replicate,List.length_map,hnl];exact Nat.le_refl _),List.append_nil]
 have htake:List.take 256 (u8L (zg l))=u8L (zg l):=List.take_of_length_le (by rw[List.length_map,hnl];omega)
 have htake2:List.take 256 (u8L l)=u8L l:=List.take_of_length_le (by rw[List.length_map,hl];omega)
 refine FnT.sep ?_
 refine FnT.body tok [0,1,2,3] Tryz.func31 rfl Kk Kk (by show _≤9;simp) fun hsep=>?_
 rw[Tryz.results31]
 have hE:=hsep
 try simp only[zzs] at hE
 repeat(obtain⟨hx',hE⟩:=hE)
 repeat' first
  |with_reducible first|refine Nx.go ?_ |refine Bk.go (fun _=>?_) fun _=>?_ |refine Nb fun nb hnb hnb1 hnb2=>?_
  |simp -dsimp -implicitDefEqProofs (disch:=first|exact Kd|fail) only[go_sem,↓reduceIte,seval, -List.reduceReplicate,List.toList_toArray,hu8,htake2]
 refine zyV hl hlb fun G2 v2 W hle2 hs2 hsl hW=>?_
 obtain⟨a,cap,rfl,hr,hc⟩:=hsl
 have hE:=hs2
 try simp only[zzs] at hE
 repeat(obtain⟨hx',hE⟩:=hE)
 repeat' first
  |with_reducible first|refine Nx.go ?_ |refine Bk.go (fun _=>?_) fun _=>?_ |refine Nb fun nb hnb hnb1 hnb2=>?_
  |simp -dsimp -implicitDefEqProofs (disch:=first|exact Kd|fail) only[go_sem,↓reduceIte,seval, -List.reduceReplicate,List.toList_toArray]
 refine ztI hl hW ⟨a,cap,rfl,hr,hc⟩ ?_
 repeat' first
  |with_reducible first|refine Nx.go ?_ |refine Bk.go (fun _=>?_) fun _=>?_ |refine Nb fun nb hnb hnb1 hnb2=>?_
  |simp -dsimp -implicitDefEqProofs (disch:=first|exact Kd|fail) only[go_sem,↓reduceIte,seval, -List.reduceReplicate,List.toList_toArray,hspl,htake,hu9,List.length_replicate]
 unfold zv
 refine Upd.leave (H':=H) Ks ?_
 exact fun _ hs=>hR G2 hle2 hs
theorem ztJ {l:List Int} (hl:l.length=256) (hlb: ∀x∈l,0≤x∧x≤255) (w:Int) {G:za} {H:zb} {R:Value→za→zb→Prop}
  (hR: ∀G',PLe G G'→Sep G' (zm H)→R (.bool (decide (zg l=l)&&decide (((zk l).length:Int)=w))) G' H):FnT Tryz.prog 18 [zbO l, .int .i64 w] G H R:=by
 have hnl:(zg l).length=256:=by rw[zr,hl]
 have hspl:zf (List.replicate 256 (Value.int .u8 0)) 0 (u8L (zg l))=u8L (zg l):=by
  unfold zf
  rw[List.take_zero,List.nil_append,List.drop_of_length_le (by rw[List.length_replicate,List.length_map,hnl];exact Nat.le_refl _),List.append_nil]
 have htake:List.take 256 (u8L (zg l))=u8L (zg l):=List.take_of_length_le (by rw[List.length_map,hnl];omega)
 have htake2:List.take 256 (u8L l)=u8L l:=List.take_of_length_le (by rw[List.length_map,hl];omega)
 have heq:eqT T 9 22 (zbO (zg l)) (zbO l)=some (decide (zg l=l)):=zhS (d:=7) (t:=22) (e:=5) (n:=256) (k:= .u8) rfl rfl rfl hnl hl
 refine FnT.sep ?_
 refine FnT.body tok [0,1,2,4,5,6] Tryz.func18 rfl Kk Kk (by show _≤20;simp) fun hsep=>?_
 rw[Tryz.results18]
 have hE:=hsep
 try simp only[zzs] at hE
 repeat(obtain⟨hx',hE⟩:=hE)
 repeat' first
  |with_reducible first|refine Nx.go ?_ |refine Bk.go (fun _=>?_) fun _=>?_ |refine Nb fun nb hnb hnb1 hnb2=>?_
  |simp -dsimp -implicitDefEqProofs (disch:=first|exact Kd|fail) only[go_sem,↓reduceIte,seval, -List.reduceReplicate,List.toList_toArray,List.length_map,hl,hnl,htake,htake2]
 refine zvQ hl hlb fun G2 hle2 hs2=>?_
 have hE:=hs2
 try simp only[zzs] at hE
 repeat(obtain⟨hx',hE⟩:=hE)
 repeat' first
  |with_reducible first|refine Nx.go ?_ |refine Bk.go (fun _=>?_) fun _=>?_ |refine Nb fun nb hnb hnb1 hnb2=>?_
  |simp -dsimp -implicitDefEqProofs (disch:=first|exact Kd|fail) only[go_sem,↓reduceIte,seval, -List.reduceReplicate,List.toList_toArray,List.length_map,hl,hnl,htake,htake2,hspl,heq,List.length_replicate]
 ·rename_i he
  rw[decide_eq_true he] at hR
  simp only[Bool.true_and] at hR
  unfold zv
  refine Upd.leave (H':=H) Ks ?_
  exact fun _ hs=>hR G2 hle2 hs
 ·rename_i he
  rw[decide_eq_false he] at hR
  simp only[Bool.false_and] at hR
  unfold zv
  refine Upd.leave (H':=H) Ks ?_
  exact fun _ hs=>hR G2 hle2 hs
end Go.Proofs.YtomdbjfdbkejoaaGreatDoor
namespace Go.Proofs.YtomdbjfdbkejoaaGreatDoor
open Go Go.V Go.Proofs
structure ClsS where
 c:Nat
 w:Nat
 f:Nat→Int
 s:Rdr
def zc6 (f:Nat→Int) (c n:Nat) (k:Int):Nat→Int:=fun i=>if c≤i∧i<c+n then k else f i
def zbp (t:ClsS):ClsS:=
 if 256≤t.c∨t.s.1=true then t
 else if 256 - t.c< (zE 1 (zE 1 t.s).2).1+1 then⟨t.c,t.w,t.f,(true,(zE 1 (zE 1 t.s).2).2.2)⟩
 else⟨t.c+((zE 1 (zE 1 t.s).2).1+1),max t.w ((zE 1 t.s).1+1),zc6 t.f t.c ((zE 1 (zE 1 t.s).2).1+1) ((zE 1 t.s).1 :Nat),(zE 1 (zE 1 t.s).2).2⟩
def zed:Nat→ClsS→ClsS
 |0,t=>t
 |k+1,t=>zed k (zbp t)
def zaU (s:Rdr):ClsS:=zed 256 ⟨0,0,fun _=>0,s⟩
theorem zjv (s:Rdr):zed 256 ⟨0,0,fun _=>0,s⟩=zaU s:=(zaU.eq_1 s).symm
theorem zmH (k:Nat) (t:ClsS):zed (k+1) t=zed k (zbp t):=rfl
theorem zr3 {t:ClsS} (h:256≤t.c∨t.s.1=true):zbp t=t:=by unfold zbp;rw[if_pos h]
theorem zjw {t:ClsS} (h:256≤t.c∨t.s.1=true): ∀k,zed k t=t
 |0=>rfl
 |k+1=>by show zed k (zbp t)=t;rw[zr3 h];exact zjw h k
theorem zr4 (t:ClsS):(zbp t).s.2.length≤t.s.2.length:=by
 unfold zbp
 split
 ·exact Nat.le_refl _
 ·have:=zcj 1 (zE 1 t.s).2
  have:=zcj 1 t.s
  split
  ·show(zE 1 (zE 1 t.s).2).2.2.length≤_;omega
  ·show(zE 1 (zE 1 t.s).2).2.2.length≤_;omega
theorem zqA: ∀ (k:Nat) (t:ClsS),(zed k t).s.2.length≤t.s.2.length
 |0,_=>Nat.le_refl _
 |k+1,t=>Nat.le_trans (zqA k (zbp t)) (zr4 t)
theorem ztK {t:ClsS} (h:t.w≤256∧ ∀i,0≤t.f i∧t.f i≤255):(zbp t).w≤256∧ ∀i,0≤(zbp t).f i∧(zbp t).f i≤255:=by
 have:=zgK t.s
 unfold zbp
 split
 ·exact h
 ·split
  ·exact h
  ·refine⟨by show max _ _≤_;omega,fun i=>?_⟩
   show 0≤zc6 _ _ _ _ i∧zc6 _ _ _ _ i≤255
   unfold zc6
   split
   ·omega
   ·exact h.2 i
theorem ztL: ∀ (k:Nat) {t:ClsS},(t.w≤256∧ ∀i,0≤t.f i∧t.f i≤255)→(zed k t).w≤256∧ ∀i,0≤(zed k t).f i∧(zed k t).f i≤255
 |0,_,h=>h
 |k+1,_,h=>ztL k (ztK h)
theorem zr5 (f:Nat→Int) (c:Nat) (k:Int):zc6 f c 0 k=f:=by
 funext i;unfold zc6;rw[if_neg Ko]
theorem zr6 (f:Nat→Int) (c n:Nat) (k:Int):upd (zc6 f c n k) (c+n) k=zc6 f c (n+1) k:=by
 funext i
 unfold upd zc6
 by_cases e:i=c+n
 ·subst e;rw[if_pos rfl,if_pos Ko]
 ·rw[if_neg e]
  by_cases h:c≤i∧i<c+n
  ·rw[if_pos h,if_pos Ko]
  ·rw[if_neg h,if_neg Ko]
attribute [irreducible] zed
theorem ztM {s:Rdr} (hsl:s.2.length≤200000000) {bR:Nat} {sv:Value} {G:za} {H:zb} {R:Value→za→zb→Prop} (hs:Sl G zB sv s.2)
  (hR: ∀G' sv',PLe G G'→Sep G' (zm ((bR,Res.cells [sv', .bool (zaU s).s.1] [] 58)::H))→Sl G' zB sv' (zaU s).s.2→R (.tuple #[.agg (u8F (zaU s).f).toArray, .int .i64 ((zaU s).w:Nat)]) G' ((bR, .cells [sv', .bool (zaU s).s.1] [] 58)::H)):
  FnT Tryz.prog 60 [.pointer (some ⟨bR,0,none⟩)] G ((bR, .cells [sv, .bool s.1] [] 58)::H) R:=by
 refine FnT.sep ?_
 refine FnT.body tok [0,2,3,4,5,6,7,8,17,26,30,31,32] Tryz.func60 rfl Kk Kk (by show _≤46;simp) fun hsep=>?_
 rw[Tryz.results60]
 have hE:=hsep
 try simp only[zzs] at hE
 repeat(obtain⟨hx',hE⟩:=hE)
 repeat' first
  |with_reducible first|refine Nx.go ?_ |refine Bk.go (fun _=>?_) fun _=>?_ |refine Nb fun nb hnb hnb1 hnb2=>?_ |refine Nr fun nb nsp ncap hnb hncap hnb1 hnb2=>?_
  |simp -dsimp -implicitDefEqProofs (disch:=first|exact Kd|fail) only[go_sem,↓reduceIte,seval, -List.reduceReplicate,zc4]
 rename_i b2 hb2 hb21 hb22
 revert nb
 intro b4 hb4 hb41 hb42
 refine Tri.loopU tok [0,2,3,4,5,6,7,8,17,26,30,31,32] Kk [0,2,3,4,5,6] (fun q G' fr H'=> ∃ (t:ClsS) (sv':Value),PLe G G'∧zed q t=zaU s∧256 - t.c≤q∧t.c≤256∧t.w≤256∧t.s.2.length≤200000000∧Sl G' zB sv' t.s.2∧H'=(b4, .cells (u8F t.f) [] 22):: (b2, .cells (u8F fun _=>0) [] 22):: (bR, .cells [sv', .bool t.s.1] [] 58)::H∧fr=[(0, .pointer (some ⟨bR,0,none⟩)),(2, .pointer (some ⟨b2,0,none⟩)),(3, .int .i64 0),(4, .pointer (some ⟨b4,0,none⟩)),(5, .int .i64 (t.w:Nat)),(6, .int .i64 (t.c:Nat))]) (256) ?_ ?_
 ·exact Upd.now ⟨⟨0,0,fun _=>0,s⟩,sv,PLe.refl _,zjv s,by simp,Nat.zero_le _,Nat.zero_le _,hsl,hs,rfl,rfl⟩
 ·rintro q G2 fr H' hle2 hs2 ⟨t,sv2,hle02,hst,hq,hc,hw,hstl,hsv2,rfl,rfl⟩
  have hE:=hs2
  try simp only[zzs] at hE
  repeat(obtain⟨hx',hE⟩:=hE)
  by_cases hfin:256≤t.c∨t.s.1=true
  ·rw[zjw hfin] at hst
   subst hst
   by_cases h1:256≤(zaU s).c
   ·repeat' first
     |with_reducible first|refine Nx.go ?_ |refine Bk.go (fun _=>?_) fun _=>?_ |refine Nb fun nb hnb hnb1 hnb2=>?_ |refine Nr fun nb nsp ncap hnb hncap hnb1 hnb2=>?_
     |simp -dsimp -implicitDefEqProofs (disch:=first|exact Kd|fail) only[go_sem,↓reduceIte,seval, -List.reduceReplicate,zay,zbE,zc5,zcS]
    all_goals try(exfalso;omega)
    unfold zv
    refine Upd.leave (H':=(bR, .cells [sv2, .bool (zaU s).s.1] [] 58)::H) Ks ?_
    exact fun _ hs=>hR _ sv2 hle02 hs hsv2
   ·have h2:(zaU s).s.1=true:=hfin.resolve_left h1
    rw[h2] at hR
    repeat' first
     |with_reducible first|refine Nx.go ?_ |refine Bk.go (fun _=>?_) fun _=>?_ |refine Nb fun nb hnb hnb1 hnb2=>?_ |refine Nr fun nb nsp ncap hnb hncap hnb1 hnb2=>?_
     |simp -dsimp -implicitDefEqProofs (disch:=first|exact Kd|fail) only[go_sem,↓reduceIte,seval, -List.reduceReplicate,zay,zbE,zc5,zcS,h2]
    all_goals try(exfalso;omega)
    unfold zv
    refine Upd.leave (H':=(bR, .cells [sv2, .bool true] [] 58)::H) Ks ?_
    exact fun _ hs=>hR _ sv2 hle02 hs hsv2
  ·have hc2:t.c<256:=by omega
   have hbad:t.s.1=false:=by cases e:t.s.1 with|false=>rfl|true=>exact absurd (Or.inr e) hfin
   obtain⟨q,rfl⟩: ∃p,q=p+1:=⟨q - 1,by omega⟩
   have hno:zed q (zbp t)=zaU s:=(zmH q t).symm.trans hst
   obtain⟨c,w,f,bad,l⟩:=t
   simp only at hc2 hbad hc hw hstl hsv2 hq
   subst hbad
   have hstep:zbp ⟨c,w,f,(false,l)⟩=if 256 - c< (zE 1 (zE 1 (false,l)).2).1+1 then⟨c,w,f,(true,(zE 1 (zE 1 (false,l)).2).2.2)⟩ else⟨c+((zE 1 (zE 1 (false,l)).2).1+1),max w ((zE 1 (false,l)).1+1),zc6 f c ((zE 1 (zE 1 (false,l)).2).1+1) ((zE 1 (false,l)).1 :Nat),(zE 1 (zE 1 (false,l)).2).2⟩:=by
    unfold zbp;rw[if_neg hfin]
   have hn1:=zgK (false,l)
   have hl1:=zcj 1 (false,l)
   have hn2:=zgK (zE 1 (false,l)).2
   have hl2:=zcj 1 (zE 1 (false,l)).2
   obtain⟨r1,hr1⟩: ∃r,r=zE 1 (false,l):=⟨_,rfl⟩
   obtain⟨r2,hr2⟩: ∃r,r=zE 1 r1.2:=⟨_,rfl⟩
   obtain⟨k,hk⟩: ∃k,k=r1.1:=⟨_,rfl⟩
   obtain⟨n,hn⟩: ∃n,n=r2.1:=⟨_,rfl⟩
   rw[←hr1,←hr2,←hk,←hn] at hstep
   rw[←hr1] at hn1 hl1 hn2 hl2
   rw[←hr2] at hn2 hl2
   rw[←hk] at hn1
   rw[←hn] at hn2
   simp only at hl1
   repeat' first
    |with_reducible first|refine Nx.go ?_ |refine Bk.go (fun _=>?_) fun _=>?_ |refine Nb fun nb hnb hnb1 hnb2=>?_ |refine Nr fun nb nsp ncap hnb hncap hnb1 hnb2=>?_
    |simp -dsimp -implicitDefEqProofs (disch:=first|exact Kd|fail) only[go_sem,↓reduceIte,seval, -List.reduceReplicate]
   refine FnT.leave (H':=(bR, .cells [sv2, .bool false] [] 58):: (b4, .cells (u8F f) [] 22):: (b2, .cells (u8F fun _=>0) [] 22)::H) (zcb (s:=(false,l)) hstl (n:=1) Ko hsv2 fun G3 sv3 hle3 hs3 hsv3=>?_) Ks
   rw[←hr1] at hs3 hsv3⊢
   rw[←hk]
   have hE:=hs3
   try simp only[zzs] at hE
   repeat(obtain⟨hx',hE⟩:=hE)
   repeat' first
    |with_reducible first|refine Nx.go ?_ |refine Bk.go (fun _=>?_) fun _=>?_ |refine Nb fun nb hnb hnb1 hnb2=>?_ |refine Nr fun nb nsp ncap hnb hncap hnb1 hnb2=>?_
    |simp -dsimp -implicitDefEqProofs (disch:=first|exact Kd|fail) only[go_sem,↓reduceIte,seval, -List.reduceReplicate]
   refine zcb (s:=r1.2) Ko (n:=1) Ko hsv3 fun G4 sv4 hle4 hs4 hsv4=>?_
   rw[←hr2] at hs4 hsv4⊢
   rw[←hn]
   have hE:=hs4
   try simp only[zzs] at hE
   repeat(obtain⟨hx',hE⟩:=hE)
   by_cases hbig:256 - c<n+1
   ·rw[if_pos hbig] at hstep
    repeat' first
     |with_reducible first|refine Nx.go ?_ |refine Bk.go (fun _=>?_) fun _=>?_ |refine Nb fun nb hnb hnb1 hnb2=>?_ |refine Nr fun nb nsp ncap hnb hncap hnb1 hnb2=>?_
     |simp -dsimp -implicitDefEqProofs (disch:=first|exact Kd|fail) only[go_sem,↓reduceIte,seval, -List.reduceReplicate,zay,zbE,zc5,zcS]
    all_goals try(exfalso;omega)
    rw[hstep,zjw (Or.inr rfl)] at hno
    rw[←hno] at hR
    unfold zv
    refine Upd.leave (H':=(bR, .cells [sv4, .bool true] [] 58)::H) Ks ?_
    exact fun _ hs=>hR _ sv4 (hle02.trans (hle3.trans hle4)) hs hsv4
   ·rw[if_neg hbig] at hstep
    repeat' first
     |with_reducible first|refine Nx.go ?_ |refine Bk.go (fun _=>?_) fun _=>?_ |refine Nb fun nb hnb hnb1 hnb2=>?_ |refine Nr fun nb nsp ncap hnb hncap hnb1 hnb2=>?_
     |simp -dsimp -implicitDefEqProofs (disch:=first|exact Kd|fail) only[go_sem,↓reduceIte,seval, -List.reduceReplicate]
    all_goals try(exfalso;omega)
    refine Tri.loopU tok [0,2,3,4,5,6,7,8,17,26,30,31,32] Kk [0,2,3,4,5,6,7,30,31] (fun q2 G' fr H'=> ∃ (j:Nat),j+q2=n+1∧G'=G4∧H'=(bR, .cells [sv4, .bool r2.2.1] [] 58):: (b4, .cells (u8F (zc6 f c j (k:Nat))) [] 22):: (b2, .cells (u8F fun _=>0) [] 22)::H∧fr=[(0, .pointer (some ⟨bR,0,none⟩)),(2, .pointer (some ⟨b2,0,none⟩)),(3, .int .i64 0),(4, .pointer (some ⟨b4,0,none⟩)),(5, .int .i64 (w:Nat)),(6, .int .i64 ((c:Nat)+(j:Nat))),(7, .int .i64 (k:Nat)),(30, .int .i64 ((n:Nat)+1)),(31, .int .i64 (j:Nat))]) ((n+1)) ?_ ?_
    ·exact Upd.now ⟨0,by omega,rfl,by rw[zr5],by rw[show((0 :Nat):Int)=0 from rfl,Int.add_zero];rfl⟩
    ·rintro q2 G5 fr H' hle5 hs5 ⟨j,hjq,rfl,rfl,rfl⟩
     have hE:=hs5
     try simp only[zzs] at hE
     repeat(obtain⟨hx',hE⟩:=hE)
     by_cases hjn:j<n+1
     ·have hk8:IntKind.u8.wrap ((k:Nat):Int)=(k:Nat):=zgb (k:= .u8) rfl (by show _<256;omega)
      have hcj:((c:Int)+(j:Nat)).toNat=c+j:=by omega
      have hput:=zkl (f:=zc6 f c j (k:Nat)) (i:=c+j) Ko (k:Nat)
      rw[zr6] at hput
      repeat' first
       |with_reducible first|refine Nx.go ?_ |refine Bk.go (fun _=>?_) fun _=>?_ |refine Nb fun nb hnb hnb1 hnb2=>?_ |refine Nr fun nb nsp ncap hnb hncap hnb1 hnb2=>?_
       |simp -dsimp -implicitDefEqProofs (disch:=first|exact Kd|fail) only[go_sem,↓reduceIte,seval, -List.reduceReplicate,zay,hk8,hcj,hput]
      exact Upd.now ⟨q2 - 1,by omega,j+1,by omega,rfl,rfl,by rw[show((j+1 :Nat):Int)=(j:Int)+1 from rfl,←Int.add_assoc];rfl⟩
     ·obtain rfl:j=n+1:=by omega
      repeat' first
       |with_reducible first|refine Nx.go ?_ |refine Bk.go (fun _=>?_) fun _=>?_ |refine Nb fun nb hnb hnb1 hnb2=>?_ |refine Nr fun nb nsp ncap hnb hncap hnb1 hnb2=>?_
       |simp -dsimp -implicitDefEqProofs (disch:=first|exact Kd|fail) only[go_sem,↓reduceIte,seval, -List.reduceReplicate]
      rw[hstep] at hno
      refine Upd.go (H':=(b4, .cells (u8F (zc6 f c (n+1) (k:Nat))) [] 22):: (b2, .cells (u8F fun _=>0) [] 22):: (bR, .cells [sv4, .bool r2.2.1] [] 58)::H) Ks (Upd.now ⟨q,by omega,_,sv4,hle02.trans (hle3.trans hle4),hno,?_,?_,?_,?_,hsv4,rfl,?_⟩)
      ·show 256 - (c+(n+1))≤q;omega
      ·show c+(n+1)≤256;omega
      ·show max w (k+1)≤256;omega
      ·show r2.2.2.length≤_;omega
      ·have hmx:zu6 (w:Int) ((k:Nat)+1)=((max w (k+1):Nat):Int):=by unfold zu6;split <;> omega
       rw[hmx];rfl
end Go.Proofs.YtomdbjfdbkejoaaGreatDoor
namespace Go.Proofs.YtomdbjfdbkejoaaGreatDoor
open Go Go.V Go.Proofs
def atL (l:List Int) (x:Int):Int:=l.getD x.toNat 0
theorem zU {l:List Int} {x:Int} (h:x.toNat<l.length):atL l x=l[x.toNat]:=by unfold atL;rw[List.getD_eq_getElem?_getD,List.getElem?_eq_getElem h];rfl
theorem zxU {L:List Int} {a:Option Addr} {cap b1:Nat} {x y:Int} (hx:0≤x∧x<L.length) (hy:0≤y∧y<L.length) {G:za} {H:zb} {R:Value→za→zb→Prop} (hrow:Row G a (L.map (Value.int .i64)))
  (hg1:G b1=none) (hf:zq H b1=some (.cells [.slice a L.length cap] [] 24)) (hR:R (.bool (decide (atL L x=atL L y))) G H):FnT Tryz.prog 158 [.int .i64 x, .int .i64 y, .pointer (some ⟨b1,0,none⟩)] G H R:=by
 obtain⟨i,rfl⟩:=Int.eq_ofNat_of_zero_le hx.1
 obtain⟨j,rfl⟩:=Int.eq_ofNat_of_zero_le hy.1
 have hi:i<L.length:=by omega
 have hj:j<L.length:=by omega
 rw[zU (by simpa using hi),zU (by simpa using hj)] at hR
 simp only[Int.toNat_natCast] at hR
 have had:Adr a:=hrow.adr (by rw[List.length_map];omega)
 refine FnT.body tok [0,1,2,5] Tryz.func158 rfl Kk Kk (by show _≤15;simp) fun hsep=>?_
 rw[Tryz.results158]
 have hE:=hsep
 try simp only[zzs] at hE
 repeat(obtain⟨hx',hE⟩:=hE)
 repeat' first
  |with_reducible first|refine Nx.go ?_ |refine Bk.go (fun _=>?_) fun _=>?_
  |with_reducible refine Tri.drawM tok mixed [0,1,2,5] 1 [0,3,4,7] (.op 0 .held (.op 1 .plain (.op 2 .plain (.op 3 .held (.op 4 .held (.op 5 .plain (.op 6 .plain (.op 7 .held (.op 8 .plain (.op 9 .plain .nil)))))))))) Kk _ (List.Sublist.refl _) ?_
  |simp -dsimp -implicitDefEqProofs (disch:=first|exact Kd|fail) only[go_sem,↓reduceIte,seval,hf,Row.obj hrow,List.getElem_map]
 all_goals refine Upd.finL ?_ hR ?_
 any_goals first|exact Ks|skip
 rfl
def zeP (L xs ys:List Int):Prop:= ∃h:xs.length=ys.length,∀k (hk:k<xs.length),atL L xs[k]=atL L (ys[k]'(h▸hk))
theorem zzZ {L xs ys:List Int} (hlen:xs.length≤2000000) (hxs: ∀x∈xs,0≤x∧x<L.length) (hys: ∀y∈ys,0≤y∧y<L.length) {a ax ay:Option Addr} {cap cx cy b1:Nat} {G:za} {H:zb} {R:Value→za→zb→Prop} (hrow:Row G a (L.map (Value.int .i64)))
  (hrx:Row G ax (xs.map (Value.int .i64))) (hry:Row G ay (ys.map (Value.int .i64))) (hg1:G b1=none) (hf:zq H b1=some (.cells [.slice a L.length cap] [] 24)) (hR:R (.bool (zaF (zeP L xs ys))) G H):FnT Tryz.prog 159 [.slice ax xs.length cx, .slice ay ys.length cy, .func (.func 158) #[] #[.pointer (some ⟨b1,0,none⟩)]] G H R:=by
 by_cases hxy:xs.length=ys.length
 ·refine FnT.body tok [0,1,2,6,7,8,9,14,15,16,17,18,30] Tryz.func159 rfl Kk Kk (by show _≤32;simp) fun hsep=>?_
  rw[Tryz.results159]
  have hE:=hsep
  try simp only[zzs] at hE
  repeat(obtain⟨hx',hE⟩:=hE)
  repeat' first
   |with_reducible first|refine Nx.go ?_ |refine Bk.go (fun _=>?_) fun _=>?_ |refine Nb fun nb hnb hnb1 hnb2=>?_
   |simp -dsimp -implicitDefEqProofs (disch:=first|exact Kd|fail) only[go_sem,↓reduceIte,seval]
  all_goals try(exfalso;omega)
  refine Tri.loopU tok [0,1,2,6,7,8,9,14,15,16,17,18,30] Kk [0,1,2,6,15,16,17] (fun n G' l H'=> ∃i:Nat,i+n=xs.length∧(∀j (h:j<xs.length),j<i→atL L xs[j]=atL L (ys[j]'(hxy▸h)))∧G'=G∧H'=H∧l=[(0, .slice ax xs.length cx),(1, .slice ay ys.length cy),(2, .func (.func 158) #[] #[.pointer (some ⟨b1,0,none⟩)]),(6, .bool false),(15, .slice ax xs.length cx),(16, .int .i64 xs.length),(17, .int .i64 i)]) (xs.length) (Upd.now ?_) ?_
  ·exact⟨0,by omega,fun j _ h=>by omega,rfl,rfl,rfl⟩
  ·rintro n G' l H' hle hs ⟨i,hi,hno,rfl,rfl,rfl⟩
   by_cases hil:i<xs.length
   ·have hil':i<ys.length:=by omega
    have hx:=hxs _ (List.getElem_mem hil)
    have hy:=hys _ (List.getElem_mem hil')
    have had:Adr ax:=hrx.adr (by rw[List.length_map];omega)
    have had2:Adr ay:=hry.adr (by rw[List.length_map];omega)
    repeat' first
     |with_reducible first|refine Nx.go ?_ |refine Bk.go (fun _=>?_) fun _=>?_ |refine Nb fun nb hnb hnb1 hnb2=>?_
     |simp -dsimp -implicitDefEqProofs (disch:=first|exact Kd|fail) only[go_sem,↓reduceIte,seval,Row.obj hrx,Row.obj hry,List.getElem_map]
     |with_reducible refine zxU (cap:=cap) hx hy hrow hg1 hf ?_
    ·rename_i he
     exact Upd.now ⟨n - 1,by omega,i+1,by omega,fun j h hj=>by
      by_cases e:j=i
      ·subst e;exact he
      ·exact hno j h Ko,rfl,rfl,rfl⟩
    ·rename_i he
     rw[zA fun h=>he (h.2 i hil)] at hR
     all_goals refine Upd.finL ?_ hR ?_
     any_goals first|exact Ks|skip
     rfl
   ·obtain rfl:i=xs.length:=by omega
    rw[zK (p:=zeP L xs ys) ⟨hxy,fun k hk=>hno k hk hk⟩] at hR
    repeat' first
     |with_reducible first|refine Nx.go ?_ |refine Bk.go (fun _=>?_) fun _=>?_ |refine Nb fun nb hnb hnb1 hnb2=>?_
     |simp -dsimp -implicitDefEqProofs (disch:=first|exact Kd|fail) only[go_sem,↓reduceIte,seval]
    all_goals refine Upd.finL ?_ hR ?_
    any_goals first|exact Ks|skip
    rfl
 ·rw[zA fun h=>hxy h.1] at hR
  refine FnT.body tok [0,1,2,6,7,8,9,14,15,16,17,18,30] Tryz.func159 rfl Kk Kk (by show _≤32;simp) fun hsep=>?_
  rw[Tryz.results159]
  have hE:=hsep
  try simp only[zzs] at hE
  repeat(obtain⟨hx',hE⟩:=hE)
  repeat' first
   |with_reducible first|refine Nx.go ?_ |refine Bk.go (fun _=>?_) fun _=>?_ |refine Nb fun nb hnb hnb1 hnb2=>?_
   |simp -dsimp -implicitDefEqProofs (disch:=first|exact Kd|fail) only[go_sem,↓reduceIte,seval]
  all_goals try(exfalso;omega)
  all_goals refine Upd.finL ?_ hR ?_
  any_goals first|exact Ks|skip
  rfl
end Go.Proofs.YtomdbjfdbkejoaaGreatDoor
namespace Go.Proofs.YtomdbjfdbkejoaaGreatDoor
open Go Go.V Go.Proofs
def zfW (d:DfaT) (m:List Int):Prop:= ∀s t (hs:s<m.length) (h1:s<d.label.length) (h2:t<d.label.length) (h3:s<d.next.length) (h4:t<d.next.length),place m m[s]=some t→d.label[s]=d.label[t]∧zeP (zg m) d.next[s] d.next[t]
theorem zvR {d:DfaT} (hsm:zx d) (hok:zc d) {m:List Int} (hm:m.length=d.label.length) {G:za} {H:zb} {R:Value→za→zb→Prop} {v w:Value} (hv:IsD G d v) (hw:Sl G (Value.int .i64) w (zg m))
  (hR: ∀G',PLe G G'→Sep G' (zm H)→R (.bool (zaF (zfW d m))) G' H):FnT Tryz.prog 128 [v,w] G H R:=by
 obtain⟨C,an,al,ay,cn,cl,cs,rs,rfl,O⟩:=hv.opened
 obtain⟨hm1,hm2,hm3,hm4,hm5⟩:=id hsm
 obtain⟨hk1,hk2,hk3,hk4,hk5,hk6,hk7⟩:=id hok
 have hCl:=O.len
 have hCn:=O.n
 have hCx:=O.l
 have hnl:=zr m
 have hw0:=hw
 obtain⟨a,cap,rfl,hrow,hcap⟩:=hw
 refine FnT.sep ?_
 refine FnT.body tok [0,1,2,3,4,5,6,7,8,9,13,14,15,16,49] Tryz.func128 rfl Kk Kk (by show _≤51;simp) fun hsep=>?_
 rw[Tryz.results128]
 have hE:=hsep
 try simp only[zzs] at hE
 repeat(obtain⟨hx',hE⟩:=hE)
 repeat' first
  |with_reducible first|refine Nx.go ?_ |refine Bk.go (fun _=>?_) fun _=>?_ |refine Nb fun nb hnb hnb1 hnb2=>?_
  |simp -dsimp -implicitDefEqProofs (disch:=first|exact Kd|fail) only[go_sem,↓reduceIte,seval, -List.reduceReplicate,List.toList_toArray,hCl,hCn,hCx]
 rename_i b2 hb20 hb21 hb22
 refine zqz Ko hw0 fun G2 v2 hle2 hs2 hsl2=>?_
 obtain⟨ah,ch,rfl,hrh,hch⟩:=hsl2
 have hE:=hs2
 try simp only[zzs] at hE
 repeat(obtain⟨hx',hE⟩:=hE)
 repeat' first
  |with_reducible first|refine Nx.go ?_ |refine Bk.go (fun _=>?_) fun _=>?_ |refine Nb fun nb hnb hnb1 hnb2=>?_
  |simp -dsimp -implicitDefEqProofs (disch:=first|exact Kd|fail) only[go_sem,↓reduceIte,seval, -List.reduceReplicate,List.toList_toArray,hCl,hCn,hCx]
 have hhl:(zy m).length=(zk m).length:=by unfold zy;rw[List.length_map]
 refine Tri.loopU tok [0,1,2,3,4,5,6,7,8,9,13,14,15,16,49] Kk [2,3,4,5,13,14,15] (fun q G' fr H'=> ∃s:Nat,s+q=d.next.length∧(∀j t (hj:j<s) (hs:j<m.length) (h1:j<d.label.length) (h2:t<d.label.length) (h3:j<d.next.length) (h4:t<d.next.length),place m m[j]=some t→d.label[j]=d.label[t]∧zeP (zg m) d.next[j] d.next[t])∧G'=G2∧H'=(nb, .cells [.slice a (zg m).length cap] [] 24):: (b2, .cells C [] 27)::H∧fr=[(2, .pointer (some ⟨b2,0,none⟩)),(3, .pointer (some ⟨nb,0,none⟩)),(4, .bool false),(5, .slice ah (zy m).length ch),(13, .slice an d.next.length cn),(14, .int .i64 d.next.length),(15, .int .i64 s)]) (d.next.length) ?_ ?_
 ·exact Upd.now ⟨0,by omega,fun j t hj=>by omega,rfl,rfl,rfl⟩
 ·rintro q G1 fr H' hle hs ⟨s,hi,hno,rfl,rfl,rfl⟩
  have hE:=hs
  try simp only[zzs] at hE
  repeat(obtain⟨hx',hE⟩:=hE)
  by_cases hsl:s<d.next.length
  ·have hsv:s<rs.length:=by have:=O.rnl;omega
   have hsl2:s<d.label.length:=by omega
   have hsm':s<m.length:=by omega
   obtain⟨b,c,e1,e2,e3⟩:=O.rs s hsl hsv
   obtain⟨t,hpt,htl,⟨htl2,hte⟩,_⟩:=zb4 hsm'
   have htn:t<d.next.length:=by omega
   have htv:t<rs.length:=by have:=O.rnl;omega
   have htl3:t<d.label.length:=by omega
   obtain⟨b',c',f1,f2,f3⟩:=O.rs t htn htv
   obtain⟨n,hn⟩:=zab ((zN m).2 (List.getElem_mem hsm'))
   obtain⟨hn1,hn2⟩:=z6 hn
   rw[List.getElem?_eq_getElem hn1,Option.some.injEq] at hn2
   have hns:(zg m)[s]'Ko=(n:Int):=by rw[zca hsm',zH hn]
   have hht:(zy m)[n]'Ko=(t:Int):=by simp only[zy,List.getElem_map];rw[hn2,zH hpt]
   have hnh:n< (zy m).length:=by omega
   have hrow2:=hrow.mono hle2
   have hrn2:=O.rn.mono hle2
   have hrl2:=O.rl.mono hle2
   have had:Adr an:=O.rn.adr Ko
   have had2:Adr al:=O.rl.adr (by rw[List.length_map];omega)
   have had3:Adr a:=hrow.adr (by rw[List.length_map];omega)
   have had4:Adr ah:=hrh.adr (by rw[List.length_map];omega)
   have hr1:=(hk7 s hsl hsl2).2.2.2
   have hr2:=(hk7 t htn htl3).2.2.2
   rw[←hm,←hnl] at hr1 hr2
   repeat' first
    |with_reducible first|refine Nx.go ?_ |refine Bk.go (fun _=>?_) fun _=>?_ |refine Nb fun nb hnb hnb1 hnb2=>?_
    |with_reducible refine Tri.drawM tok mixed [0,1,2,3,4,5,6,7,8,9,13,14,15,16,49] 7 [1,4,6,9,14,17] (.op 0 .plain (.op 1 .held (.op 2 .plain (.op 3 .plain (.op 4 .held (.op 5 .plain (.op 6 .held (.op 7 .plain (.op 8 .plain (.op 9 .held (.op 10 .plain (.op 11 .plain (.op 12 .plain (.op 13 .plain (.op 14 .held (.op 15 .plain (.op 16 .plain (.op 17 .held (.op 18 .plain (.op 19 .keeps (.op 20 .plain (.op 21 .plain .nil)))))))))))))))))))))) Kk _ (List.Sublist.refl _) ?_
    |simp -dsimp -implicitDefEqProofs (disch:=first|exact Kd|fail) only[go_sem,↓reduceIte,seval, -List.reduceReplicate,List.toList_toArray,hCl,hCn,hCx,Row.obj hrn2,e1,f1,Row.obj hrl2,Row.obj hrow2,Row.obj hrh,List.getElem_map,hns,hht]
    |with_reducible refine zzZ (cap:=cap) (hm2 _ (List.getElem_mem hsl)) hr1 hr2 hrow2 (e2.mono hle2) (f2.mono hle2) Ka ?_ ?_
   ·rename_i he1 he2
    exact Upd.now ⟨q - 1,by omega,s+1,by omega,fun j t' hj hs h1 h2 h3 h4 hp=>by
     by_cases e:j=s
     ·subst e
      rw[hpt,Option.some.injEq] at hp
      subst hp
      exact⟨he1,zcp.1 he2⟩
     ·exact hno j t' Ko hs h1 h2 h3 h4 hp,rfl,rfl,rfl⟩
   ·rename_i he1 he2
    have hfin: ¬zfW d m:=fun h=>by
     rw[zK (h s t hsm' hsl2 htl3 hsl htn hpt).2] at he2;cases he2
    unfold zv
    refine Upd.leave (H':=H) Ks ?_
    rw[zA hfin] at hR
    exact fun _ hs=>hR _ hle2 hs
   ·rename_i he1
    have hfin: ¬zfW d m:=fun h=>he1 (h s t hsm' hsl2 htl3 hsl htn hpt).1
    unfold zv
    refine Upd.leave (H':=H) Ks ?_
    rw[zA hfin] at hR
    exact fun _ hs=>hR _ hle2 hs
  ·obtain rfl:s=d.next.length:=by omega
   have hfin:zfW d m:=fun s t hs h1 h2 h3 h4 hp=>hno s t Ko hs h1 h2 h3 h4 hp
   repeat' first
    |with_reducible first|refine Nx.go ?_ |refine Bk.go (fun _=>?_) fun _=>?_ |refine Nb fun nb hnb hnb1 hnb2=>?_
    |simp -dsimp -implicitDefEqProofs (disch:=first|exact Kd|fail) only[go_sem,↓reduceIte,seval, -List.reduceReplicate]
   unfold zv
   refine Upd.leave (H':=H) Ks ?_
   rw[zK hfin] at hR
   exact fun _ hs=>hR _ hle2 hs
end Go.Proofs.YtomdbjfdbkejoaaGreatDoor
namespace Go.Proofs.YtomdbjfdbkejoaaGreatDoor
open Go Go.V Go.Proofs
def zbv (d:DfaT) (l:List Int):Prop:=zc d∧l.length=d.label.length∧zfW d l
theorem zvS {d:DfaT} (hsm:zx d) {m:List Int} (hml:m.length≤2000000) {G:za} {H:zb} {R:Value→za→zb→Prop} {v w:Value} (hv:IsD G d v) (hw:Sl G (Value.int .i64) w m)
  (hR: ∀G',PLe G G'→Sep G' (zm H)→R (.bool (zaF (zbv d m))) G' H):FnT Tryz.prog 100 [v,w] G H R:=by
 obtain⟨C,an,al,ay,cn,cl,cs,rs,rfl,O⟩:=hv.opened
 have hCl:=O.len
 have hCx:=O.l
 have hCa:=O.all
 have hw0:=hw
 obtain⟨a,cap,rfl,hrow,hcap⟩:=hw
 refine FnT.sep ?_
 by_cases hok:zc d
 ·have hb:=zK hok
  by_cases hm:m.length=d.label.length
  ·refine FnT.body tok [0,1,2,4] Tryz.func100 rfl Kk Kk (by show _≤21;simp) fun hsep=>?_
   rw[Tryz.results100]
   have hE:=hsep
   try simp only[zzs] at hE
   repeat(obtain⟨hx',hE⟩:=hE)
   repeat' first
    |with_reducible first|refine Nx.go ?_ |refine Bk.go (fun _=>?_) fun _=>?_ |refine Nb fun nb hnb hnb1 hnb2=>?_
    |simp -dsimp -implicitDefEqProofs (disch:=first|exact Kd|fail) only[go_sem,↓reduceIte,seval, -List.reduceReplicate,List.toList_toArray,hCl,hCx,hCa,hb]
    |with_reducible refine Tri.drawH tok mixed [0,1,2,4] 1 [0,6,11] (.op 0 .held (.op 1 .keeps (.op 2 .plain (.op 3 .plain (.op 4 .plain (.op 5 .plain (.op 6 .held (.op 7 .plain (.op 8 .plain (.op 9 .plain (.op 10 .plain (.op 11 .held (.op 12 .plain (.op 13 .keeps (.op 14 .keeps (.op 15 .plain (.op 16 .plain .nil))))))))))))))))) Kk [2] ?_
    |with_reducible refine zaE hsm O.is ?_
    | ((with_reducible refine zoc hml hw0 fun G2 v2 hle2 hs2 hsl2=>?_);obtain⟨a2,c2,rfl,hr2,hc2⟩:=hsl2;have hsl2:Sl G2 (Value.int .i64) (.slice a2 (zg m).length c2) (zg m):=⟨a2,c2,rfl,hr2,hc2⟩;(have hE:=hs2;try simp only[zzs] at hE;repeat(obtain⟨hx',hE⟩:=hE)))
    | ((with_reducible refine zvR hsm hok hm (O.is.mono hle2) hsl2 fun G3 hle3 hs3=>?_);(have hE:=hs3;try simp only[zzs] at hE;repeat(obtain⟨hx',hE⟩:=hE)))
   unfold zv
   refine Upd.leave (H':=H) Ks ?_
   have hfin:zaF (zbv d m)=zaF (zfW d m):=by
    rw[Bool.eq_iff_iff,zcp,zcp]
    exact⟨fun h=>h.2.2,fun h=>⟨hok,hm,h⟩⟩
   rw[←hfin]
   exact fun _ hs=>hR G3 (hle2.trans hle3) hs
  ·rw[zA fun h=>hm h.2.1] at hR
   refine FnT.body tok [0,1,2,4] Tryz.func100 rfl Kk Kk (by show _≤21;simp) fun hsep=>?_
   rw[Tryz.results100]
   have hE:=hsep
   try simp only[zzs] at hE
   repeat(obtain⟨hx',hE⟩:=hE)
   repeat' first
    |with_reducible first|refine Nx.go ?_ |refine Bk.go (fun _=>?_) fun _=>?_ |refine Nb fun nb hnb hnb1 hnb2=>?_
    |simp -dsimp -implicitDefEqProofs (disch:=first|exact Kd|fail) only[go_sem,↓reduceIte,seval, -List.reduceReplicate,List.toList_toArray,hCl,hCx,hCa,hb]
    |with_reducible refine Tri.drawH tok mixed [0,1,2,4] 1 [0,6,11] (.op 0 .held (.op 1 .keeps (.op 2 .plain (.op 3 .plain (.op 4 .plain (.op 5 .plain (.op 6 .held (.op 7 .plain (.op 8 .plain (.op 9 .plain (.op 10 .plain (.op 11 .held (.op 12 .plain (.op 13 .keeps (.op 14 .keeps (.op 15 .plain (.op 16 .plain .nil))))))))))))))))) Kk [2] ?_
    |with_reducible refine zaE hsm O.is ?_
   all_goals try(exfalso;omega)
   unfold zv
   refine Upd.leave (H':=H) Ks ?_
   exact fun _ hs=>hR G (PLe.refl _) hs
 ·have hb:=zA hok
  rw[zA fun h=>hok h.1] at hR
  refine FnT.body tok [0,1,2,4] Tryz.func100 rfl Kk Kk (by show _≤21;simp) fun hsep=>?_
  rw[Tryz.results100]
  have hE:=hsep
  try simp only[zzs] at hE
  repeat(obtain⟨hx',hE⟩:=hE)
  repeat' first
   |with_reducible first|refine Nx.go ?_ |refine Bk.go (fun _=>?_) fun _=>?_ |refine Nb fun nb hnb hnb1 hnb2=>?_
   |simp -dsimp -implicitDefEqProofs (disch:=first|exact Kd|fail) only[go_sem,↓reduceIte,seval, -List.reduceReplicate,List.toList_toArray,hCl,hCx,hCa,hb]
   |with_reducible refine Tri.drawH tok mixed [0,1,2,4] 1 [0,6,11] (.op 0 .held (.op 1 .keeps (.op 2 .plain (.op 3 .plain (.op 4 .plain (.op 5 .plain (.op 6 .held (.op 7 .plain (.op 8 .plain (.op 9 .plain (.op 10 .plain (.op 11 .held (.op 12 .plain (.op 13 .keeps (.op 14 .keeps (.op 15 .plain (.op 16 .plain .nil))))))))))))))))) Kk [2] ?_
   |with_reducible refine zaE hsm O.is ?_
  unfold zv
  refine Upd.leave (H':=H) Ks ?_
  exact fun _ hs=>hR G (PLe.refl _) hs
end Go.Proofs.YtomdbjfdbkejoaaGreatDoor
namespace Go.Proofs.YtomdbjfdbkejoaaGreatDoor
open Go Go.V Go.Proofs
theorem zhW (l:List (List UInt8)) (hlen:l.length≤2000000) {G:za} {H:zb} {R:Value→za→zb→Prop} {v:Value} (hv:Sl G str v l)
  (hR: ∀G' v',PLe G G'→Sep G' (zm H)→Sl G' str v' l→R v' G' H):FnT Tryz.prog 70 [v] G H R:=by
 obtain⟨a,cap,rfl,hrow,hcap⟩:=hv
 refine FnT.sep ?_
 rcases a with _|a
 ·have h0:l=[]:=List.eq_nil_of_length_eq_zero (by
   rcases Nat.eq_zero_or_pos l.length with h|h
   ·exact h
   ·have:=hrow.adr (by rw[List.length_map];exact h)
    cases this)
  subst h0
  refine FnT.body tok [0,2,4] Tryz.func70 rfl Kk Kk (by show _≤8;simp) fun hsep=>?_
  rw[Tryz.results70]
  have hE:=hsep
  try simp only[zzs] at hE
  repeat(obtain⟨hx',hE⟩:=hE)
  repeat' first
   |with_reducible first|refine Nx.go ?_ |refine Bk.go (fun _=>?_) fun _=>?_ |refine Nb fun nb hnb hnb1 hnb2=>?_ |refine Nr fun nb nsp ncap hnb hncap hnb1 hnb2=>?_
   |simp -dsimp -implicitDefEqProofs (disch:=first|exact Kd|fail) only[go_sem,↓reduceIte,seval]
  unfold zv
  refine Upd.leave (H':=H) Ks ?_
  exact fun hle hs=>hR G _ (PLe.refl _) hs (Sl.nil _ _)
 ·refine FnT.body tok [0,2,4] Tryz.func70 rfl Kk Kk (by show _≤8;simp) fun hsep=>?_
  rw[Tryz.results70]
  have hE:=hsep
  try simp only[zzs] at hE
  repeat(obtain⟨hx',hE⟩:=hE)
  repeat' first
   |with_reducible first|refine Nx.go ?_ |refine Bk.go (fun _=>?_) fun _=>?_ |refine Nb fun nb hnb hnb1 hnb2=>?_ |refine Nr fun nb nsp ncap hnb hncap hnb1 hnb2=>?_
   |simp -dsimp -implicitDefEqProofs (disch:=first|exact Kd|fail) only[go_sem,↓reduceIte,seval,Row.rdSlAll hrow,List.length_map]
  ·rename_i h0
   have h0:l=[]:=List.eq_nil_of_length_eq_zero h0
   subst h0
   unfold zv
   refine Upd.leave (H':=H) Ks ?_
   exact fun hle hs=>hR G _ (PLe.refl _) hs ⟨_,0,rfl,Row.nil _ _,Nat.le_refl _⟩
  ·unfold zv
   refine Upd.go (H':=(nb, .cells (l.map str) nsp 9)::H) Ks (Upd.shareRow Ka fun G2 hle2 hs2 hr2=>?_)
   exact fun hle hs=>hR G2 _ hle2 hs ⟨some ⟨nb,0,none⟩,ncap,rfl,hr2,by omega⟩
def zao:DfaT:=⟨List.replicate 256 0,0,[],[],[]⟩
abbrev zI:List Value:=List.replicate 256 (Value.int .u8 0)++[Value.int .i64 0,Value.slice none 0 0,Value.slice none 0 0,Value.slice none 0 0]
theorem zn:zI.length=260:=by rw[List.length_append,List.length_replicate];rfl
theorem zad:zI.all zaL=true:=by rw[List.all_append,List.all_replicate];rfl
theorem zaf:List.take 260 zI=zI:=List.take_of_length_le (by rw[zn];omega)
theorem zaw:zf zI 0 zI=zI:=by
 unfold zf
 rw[List.take_zero,List.nil_append,List.drop_of_length_le (by rw[zn];omega),List.append_nil]
theorem zjW:zd zao (.slice none 0 0) (.slice none 0 0) (.slice none 0 0)=zI:=by
 unfold zd zao u8L
 rw[List.map_replicate]
theorem za2 (G:za):IsD G zao (.agg (List.toArray zI)):=by
 rw[←zjW]
 refine⟨List.length_replicate ..,fun x hx=>?_,_,_,_,rfl,⟨none,0,[],rfl,Row.nil _ _,rfl,Nat.le_refl _,fun i h=>by cases h⟩,Sl.nil _ _,Sl.nil _ _⟩
 have:x=0:=by
  unfold zao at hx
  exact List.eq_of_mem_replicate hx
 omega
def zee (d:DfaT) (m:List Int) (s:Nat):List Int:=(d.next.getD s []).map (atL (zg m))
def ofD (d:DfaT) (m:List Int):DfaT:=⟨d.of,d.width,(zy m).map (fun s=>zee d m s.toNat),(zy m).map (fun s=>d.label.getD s.toNat 0),d.names⟩
theorem zcG {d:DfaT} (h:d.of.length=256) (vn vl vs x:Value):zf (zd d vn vl vs) 257 [x]=zd d x vl vs:=by
 unfold zf zd
 have hl:(u8L d.of).length=256:=by rw[List.length_map,h]
 rw[show 257=(u8L d.of).length+1 by omega,List.take_length_add_append,List.length_singleton,show(u8L d.of).length+1+1=(u8L d.of).length+2 by omega,List.drop_length_add_append,List.append_assoc,List.append_assoc]
 rfl
theorem zbK {d:DfaT} (h:d.of.length=256) (vn vl vs x:Value):zf (zd d vn vl vs) 258 [x]=zd d vn x vs:=by
 unfold zf zd
 have hl:(u8L d.of).length=256:=by rw[List.length_map,h]
 rw[show 258=(u8L d.of).length+2 by omega,List.take_length_add_append,List.length_singleton,show(u8L d.of).length+2+1=(u8L d.of).length+3 by omega,List.drop_length_add_append,List.append_assoc,List.append_assoc]
 rfl
end Go.Proofs.YtomdbjfdbkejoaaGreatDoor
namespace Go.Proofs.YtomdbjfdbkejoaaGreatDoor
open Go Go.V Go.Proofs
def zbr (r:List Int) (k:Nat):List Int:=r.take k++List.replicate (r.length - k) 0
theorem zgL (r:List Int) {k:Nat} (h:k≤r.length):(zbr r k).length=r.length:=by
 unfold zbr;rw[List.length_append,List.length_take,List.length_replicate];omega
theorem zgM {r:List Int} {k:Nat} (h:k<r.length):zf ((zbr r k).map (Value.int .i64)) k [.int .i64 r[k]]=(zbr r (k+1)).map (Value.int .i64):=by
 unfold zf zbr
 have hn:(r.take k).length=k:=by rw[List.length_take];omega
 rw[List.take_succ_eq_append_getElem h]
 generalize r.take k=ps at hn
 rw[List.map_append,List.map_append,List.map_append,List.map_replicate,List.map_replicate,show r.length - k=(r.length - (k+1))+1 by omega,List.replicate_succ]
 rw[List.take_append_of_le_length (by rw[List.length_map];omega),List.take_of_length_le (by rw[List.length_map];omega)]
 rw[List.drop_append,List.drop_of_length_le (by rw[List.length_map];simp;omega)]
 simp [hn]
theorem zfK (r:List Int):List.replicate r.length (Value.int .i64 0)=(zbr r 0).map (Value.int .i64):=by
 unfold zbr;rw[List.take_zero,List.nil_append,List.map_replicate];rfl
theorem ziR (r:List Int):zbr r r.length=r:=by
 unfold zbr;rw[List.take_length];simp
theorem zbe {d:DfaT} {vn vl vs:Value} (h1:zaL vn=true) (h2:zaL vl=true) (h3:zaL vs=true):(zd d vn vl vs).all zaL=true:=by
 unfold zd u8L
 rw[List.all_append,List.all_map]
 simp only[List.all_cons,List.all_nil,h1,h2,h3,Bool.and_true,Bool.and_eq_true]
 exact⟨List.all_eq_true.2 fun _ _=>rfl,rfl⟩
theorem zhX {d:DfaT} (h:d.of.length=256):zf zI 0 (u8L d.of)=u8L d.of++[Value.int .i64 0,Value.slice none 0 0,Value.slice none 0 0,Value.slice none 0 0]:=by
 unfold zf
 rw[List.take_zero,List.nil_append,List.drop_append,List.drop_of_length_le (by rw[List.length_replicate,List.length_map,h];omega),List.length_replicate,List.length_map,h]
 rfl
theorem zfX {d:DfaT} (h:d.of.length=256):zf (u8L d.of++[Value.int .i64 0,Value.slice none 0 0,Value.slice none 0 0,Value.slice none 0 0]) 256 [Value.int .i64 d.width]=zd d (.slice none 0 0) (.slice none 0 0) (.slice none 0 0):=by
 have hl:(u8L d.of).length=256:=by rw[List.length_map,h]
 unfold zf zd
 rw[show 256=(u8L d.of).length+0 by omega,List.take_length_add_append,List.length_singleton,show(u8L d.of).length+0+1=(u8L d.of).length+1 by omega,List.drop_length_add_append,List.append_assoc,List.append_assoc]
 rfl
theorem zeQ {d:DfaT} (h:d.of.length=256) (vn vl vs x:Value):zf (zd d vn vl vs) 259 [x]=zd d vn vl x:=by
 have hl:(u8L d.of).length=256:=by rw[List.length_map,h]
 unfold zf zd
 rw[show 259=(u8L d.of).length+3 by omega,List.take_length_add_append,List.length_singleton,show(u8L d.of).length+3+1=(u8L d.of).length+4 by omega,List.drop_length_add_append,List.append_assoc,List.append_assoc]
 rfl
theorem zAK {d:DfaT} (hsm:zx d) {m:List Int} {C:List Value} {an al ay:Option Addr} {cn cl cs:Nat} {rs:List Value} {G:za} {H:zb} (O:OpenD G d C an al ay cn cl cs rs) {v0 v1:Value} {b2 b4:Nat} {an3:Option Addr} {cn3:Nat}:
  Tri Tryz.prog Tryz.f66.ntmps (piece [1,1,1,0] Tryz.f66) G [(0,v0),(1,v1),(2, .pointer (some ⟨b2,0,none⟩)),(4, .pointer (some ⟨b4,0,none⟩)),(5, .int .i64 0),(6, .slice an3 (zg m).length cn3)] ((b4, .cells zI [] 27):: (b2, .cells C [] 27)::H) (onlyN fun G' fr' H'=>
   ∃b7 vs,PLe G G'∧Sl G' str vs d.names∧zD [0,1,2,4,5,6,7] fr'=[(0,v0),(1,v1),(2, .pointer (some ⟨b2,0,none⟩)),(4, .pointer (some ⟨b4,0,none⟩)),(5, .int .i64 0),(6, .slice an3 (zg m).length cn3),(7, .pointer (some ⟨b7,0,none⟩))]∧H'=(b7, .cells (zd d (.slice none 0 0) (.slice none 0 0) vs) [] 27):: (b4, .cells zI [] 27):: (b2, .cells C [] 27)::H):=by
 obtain⟨hm1,hm2,hm3,hm4,hm5⟩:=id hsm
 have hCl:=O.len
 have hCw:=O.w
 have hCs:=O.s
 have hCo:=O.of
 have hofl:(u8L d.of).length=256:=by rw[List.length_map,O.ofl]
 have hb1:=zhX O.ofl
 have hb2:=zfX O.ofl
 have hl1:(u8L d.of++[Value.int .i64 0,Value.slice none 0 0,Value.slice none 0 0,Value.slice none 0 0]).length=260:=by rw[List.length_append,hofl];rfl
 have hl2: ∀v:Value,(zd d (.slice none 0 0) (.slice none 0 0) v).length=260:=fun v=>zat O.ofl _ _ _
 have hb3:=zeQ O.ofl (.slice none 0 0) (.slice none 0 0) (.slice none 0 0)
 have hputz: ∀v:Value,zf zI 0 (zd d (.slice none 0 0) (.slice none 0 0) v)=zd d (.slice none 0 0) (.slice none 0 0) v:=fun v=>by
  unfold zf
  rw[List.take_zero,List.nil_append,List.drop_of_length_le (by rw[zn,hl2];omega),List.append_nil]
 refine Tri.sepT fun hs0=>?_
 have hE:=hs0
 try simp only[zzs] at hE
 repeat(obtain⟨hx',hE⟩:=hE)
 refine Tri.piece (f:=Tryz.f66) rfl ?_
 refine Tri.run tok [0,1,2,4,5,6,7,9,10,11,12,13,18,35,36,37,38,48,49,50,51] Kk ?_
 repeat' first
  |with_reducible first|refine Nx.go ?_ |refine Bk.go (fun _=>?_) fun _=>?_ |refine Nb fun nb hnb hnb1 hnb2=>?_ |refine Nr fun nb nsp ncap hnb hncap hnb1 hnb2=>?_
  |with_reducible refine Tri.drawH tok mixed [0,1,2,4,5,6,7,9,10,11,12,13,18,35,36,37,38,48,49,50,51] 6 [1,3,5] (.op 0 .plain (.op 1 .held (.op 2 .plain (.op 3 .held (.op 4 .plain (.op 5 .held (.both (.op 6 .keeps (.op 7 .plain (.op 8 .keeps (.op 9 .plain .nil)))) (.op 8 .keeps (.op 6 .keeps (.op 7 .plain (.op 9 .plain .nil))))))))))) Kk [2] ?_
  |with_reducible refine Tri.drawM tok mixed [0,1,2,4,5,6,7,9,10,11,12,13,18,35,36,37,38,48,49,50,51] 17 [1,3,6] (.op 0 .plain (.op 1 .held (.op 2 .plain (.op 3 .held (.op 4 .plain (.op 5 .plain (.op 6 .held (.op 7 .keeps (.op 8 .keeps (.op 9 .plain (.op 10 .plain .nil))))))))))) Kk _ (List.Sublist.refl _) ?_
  |simp -dsimp -implicitDefEqProofs (disch:=first|exact Kd|fail) only[go_sem,↓reduceIte,seval, -List.reduceReplicate,List.toList_toArray,hCl,hCw,hCs,hCo,hofl,hb1,hb2,hb3,hl1,hl2,zn,zad,hputz]
  | ((with_reducible refine zhW d.names hm4 O.names fun G4 v4 hle4 hs4 hsl4=>?_);obtain⟨ay4,cy4,rfl,hr4,hc4⟩:=hsl4;have hone:=zbe (d:=d) (vn:= .slice none 0 0) (vl:= .slice none 0 0) (vs:= .slice ay4 d.names.length cy4) rfl rfl rfl;(have hE:=hs4;try simp only[zzs] at hE;repeat(obtain⟨hx',hE⟩:=hE)))
  | (with_reducible refine And.intro ?_ ?_)
 all_goals exact Upd.now ⟨nb,_,hle4,⟨ay4,cy4,rfl,hr4,hc4⟩,rfl,rfl⟩
end Go.Proofs.YtomdbjfdbkejoaaGreatDoor
namespace Go.Proofs.YtomdbjfdbkejoaaGreatDoor
open Go Go.V Go.Proofs
def zfY (t:List Int×Rdr):List Int×Rdr:=(t.1++[((zE 2 t.2).1 :Int)],(zE 2 t.2).2)
def zfu:Nat→List Int×Rdr→List Int×Rdr
 |0,t=>t
 |k+1,t=>zfu k (zfY t)
theorem zgN (k:Nat) (t:List Int×Rdr):zfu (k+1) t=zfu k (zfY t):=rfl
theorem ziS (t:List Int×Rdr):zfu 0 t=t:=rfl
theorem zol: ∀ (k:Nat) (t:List Int×Rdr),(zfu k t).1.length=t.1.length+k
 |0,_=>rfl
 |k+1,t=>by
  rw[zgN,zol k]
  show(t.1++[_]).length+k=_
  rw[List.length_append,List.length_singleton];omega
structure MacS where
 lab:List Int
 nxt:List (List Int)
 s:Rdr
def zck (w:Nat) (t:MacS):MacS:=
 if t.s.1=true then t else⟨t.lab++[((zE 1 t.s).1 :Int)],t.nxt++[(zfu w ([],(zE 1 t.s).2)).1],(zfu w ([],(zE 1 t.s).2)).2⟩
def zeD (w:Nat):Nat→MacS→MacS
 |0,t=>t
 |k+1,t=>zeD w k (zck w t)
theorem zgO (w k:Nat) (t:MacS):zeD w (k+1) t=zeD w k (zck w t):=rfl
theorem zmI (w:Nat) (t:MacS):zeD w 0 t=t:=rfl
theorem zqB {w:Nat} {t:MacS} (h:t.s.1=true): ∀k,zeD w k t=t
 |0=>rfl
 |k+1=>by
  have e:zck w t=t:=by unfold zck;rw[if_pos h]
  rw[zgO,e];exact zqB h k
theorem zr7 {w n:Nat} {t:MacS} (h:t.lab.length≤n∧t.nxt.length≤n∧ ∀r∈t.nxt,r.length=w):(zck w t).lab.length≤n+1∧(zck w t).nxt.length≤n+1∧ ∀r∈(zck w t).nxt,r.length=w:=by
 unfold zck
 split
 ·exact⟨by omega,by omega,h.2.2⟩
 ·refine⟨?_,?_,fun r hr=>?_⟩
  ·show(t.lab++[_]).length≤_;rw[List.length_append,List.length_singleton];omega
  ·show(t.nxt++[_]).length≤_;rw[List.length_append,List.length_singleton];omega
  ·have hr:r∈t.nxt++[_]:=hr
   rcases List.mem_append.1 hr with hr|hr
   ·exact h.2.2 r hr
   ·rw[List.mem_singleton.1 hr,zol];show 0+w=w;omega
theorem zqC (w:Nat): ∀ (k n:Nat) {t:MacS},(t.lab.length≤n∧t.nxt.length≤n∧ ∀r∈t.nxt,r.length=w)→(zeD w k t).lab.length≤n+k∧(zeD w k t).nxt.length≤n+k∧ ∀r∈(zeD w k t).nxt,r.length=w
 |0,_,_,h=>h
 |k+1,n,t,h=>by
  have:=zqC w k (n+1) (zr7 h)
  rw[zgO]
  exact⟨by omega,by omega,this.2.2⟩
def ofF (f:Nat→Int):List Int:=(List.range 256).map f
theorem zl9 (f:Nat→Int):(ofF f).length=256:=by simp [ofF]
theorem zyW (f:Nat→Int):u8L (ofF f)=u8F f:=by unfold u8L ofF u8F;rw[List.map_map];rfl
def zaG (s:Rdr):MacS:=zeD (zaU (zY s).2).w ((zE 2 (zaU (zY s).2).s).1+1) ⟨[],[],(zE 2 (zaU (zY s).2).s).2⟩
def zax (s:Rdr):DfaT:=⟨ofF (zaU (zY s).2).f,((zaU (zY s).2).w:Nat),(zaG s).nxt,(zaG s).lab,(zY s).1⟩
theorem znC (s:Rdr):(zE 2 s).1<65536:=by have:=zqv 2 s;omega
theorem zlm (s:Rdr):(zaU s).w≤256∧ ∀i,0≤(zaU s).f i∧(zaU s).f i≤255:=by
 rw[←zjv]
 exact ztL 256 ⟨Nat.zero_le _,fun i=>⟨Int.le_refl 0,by show(0 :Int)≤255;omega⟩⟩
theorem zxV (s:Rdr):(zaU s).s.2.length≤s.2.length:=by rw[←zjv];exact zqA 256 _
theorem zpX (s:Rdr):zx (zax s):=by
 have h1:=zoj s
 have h2:=zlm (zY s).2
 have h3:=znC (zaU (zY s).2).s
 obtain⟨h4,h5,h6⟩:=zqC (zaU (zY s).2).w ((zE 2 (zaU (zY s).2).s).1+1) 0 (t:=⟨[],[],(zE 2 (zaU (zY s).2).s).2⟩) ⟨Nat.le_refl 0,Nat.le_refl 0,fun r hr=>by cases hr⟩
 refine⟨?_,fun r hr=>?_,?_,?_,fun x hx=>?_⟩
 ·show(zaG s).nxt.length≤_;unfold zaG;omega
 ·have:=h6 r hr;omega
 ·show(zaG s).lab.length≤_;unfold zaG;omega
 ·show(zY s).1.length≤_;omega
 ·have:=h1.2 x hx;omega
theorem zvT {e:DfaT} (h:e.of.length=256) (f:Nat→Int) (a b c:Value):zf (zd e a b c) 0 (u8F f)=u8F f++[.int .i64 e.width,a,b,c]:=by
 unfold zf zd
 rw[List.take_zero,List.nil_append,List.drop_append,List.drop_of_length_le (by rw[List.length_map,h,zay];omega),zay,List.length_map,h]
 rfl
theorem zxW (f:Nat→Int) (w:Int) (d:DfaT) (hd:d.of=ofF f) (hw:d.width=w) (x a b c:Value):zf (u8F f++[x,a,b,c]) 256 [.int .i64 w]=zd d a b c:=by
 have hl:=zay f
 unfold zf zd
 rw[hd,zyW,hw,show 256=(u8F f).length+0 by omega,List.take_length_add_append,List.length_singleton,show(u8F f).length+0+1=(u8F f).length+1 by omega,List.drop_length_add_append,List.append_assoc,List.append_assoc]
 rfl
def zr8 (rows:List (List Int)) (G':za) (vn:Value) (kn:zb):Prop:=
 (rows=[]∧vn= .slice none 0 0∧kn=[])∨ ∃bn c1 rv sp1,vn= .slice (some ⟨bn,0,none⟩) rows.length c1∧kn=[(bn, .cells rv sp1 24)]∧rv.length=rows.length∧rows.length+sp1.length=c1∧
  ∀i (h:i<rows.length) (h2:i<rv.length),∃b c,rv[i]= .slice b rows[i].length c∧Row G' b (rows[i].map (Value.int .i64))∧rows[i].length≤c
theorem zr8.mono {rows:List (List Int)} {G G':za} (hle:PLe G G') {vn:Value} {kn:zb} (h:zr8 rows G vn kn):zr8 rows G' vn kn:=by
 rcases h with h| ⟨bn,c1,rv,sp1,h1,h2,h3,h4,h5⟩
 ·exact .inl h
 ·exact .inr ⟨bn,c1,rv,sp1,h1,h2,h3,h4,fun i a b=>by
   obtain⟨x,y,e1,e2,e3⟩:=h5 i a b
   exact⟨x,y,e1,e2.mono hle,e3⟩⟩
def zeR (w:Nat) (l:List Int):List Int:=l++List.replicate (w - l.length) 0
theorem zom (w:Nat):List.replicate w (Value.int .i64 0)=(zeR w []).map (Value.int .i64):=by unfold zeR;rw[List.nil_append,List.map_replicate];rfl
theorem zon {w:Nat} {l:List Int} (h:l.length≤w):(zeR w l).length=w:=by unfold zeR;rw[List.length_append,List.length_replicate];omega
theorem zoo {w:Nat} {l:List Int} (h:l.length=w):zeR w l=l:=by unfold zeR;rw[h,Nat.sub_self];simp
theorem zop {w:Nat} {l:List Int} (h:l.length<w) (x:Int):zf ((zeR w l).map (Value.int .i64)) l.length [.int .i64 x]=(zeR w (l++[x])).map (Value.int .i64):=by
 unfold zf zeR
 obtain⟨k,hk⟩: ∃k,w - l.length=k+1:=⟨w - l.length - 1,by omega⟩
 rw[hk,List.length_append,show w - (l.length+[x].length)=k by simp;omega,List.replicate_succ]
 simp only[List.map_append,List.map_cons,List.length_singleton]
 rw[List.take_append_of_le_length (by rw[List.length_map];omega),List.take_of_length_le (by rw[List.length_map];omega),List.drop_append,List.drop_of_length_le (by rw[List.length_map];omega),List.length_map,show l.length+1 - l.length=1 by omega]
 simp
attribute [irreducible] zeD zfu
theorem ztN {s:Rdr} (hsl:s.2.length≤200000000) {bR:Nat} {sv:Value} {G:za} {H:zb} {R:Value→za→zb→Prop} (hs:Sl G zB sv s.2)
  (hR: ∀G' v sv',PLe G G'→Sep G' (zm ((bR,Res.cells [sv', .bool (zaG s).s.1] [] 58)::H))→IsD G' (zax s) v→Sl G' zB sv' (zaG s).s.2→R v G' ((bR, .cells [sv', .bool (zaG s).s.1] [] 58)::H)):
  FnT Tryz.prog 34 [.pointer (some ⟨bR,0,none⟩)] G ((bR, .cells [sv, .bool s.1] [] 58)::H) R:=by
 have hzl:zao.of.length=256:=List.length_replicate ..
 have hzs: ∀x,zf zI 259 [x]=zd zao (.slice none 0 0) (.slice none 0 0) x:=fun x=>by rw[←zjW];exact zeQ hzl _ _ _ _
 have hr1: ∀x:Value,List.replicate 1 x=[x]:=fun _=>rfl
 have hof1: ∀a b c,zf (zd zao a b c) 0 (u8F (zaU (zY s).2).f)=u8F (zaU (zY s).2).f++[.int .i64 0,a,b,c]:=fun a b c=>zvT hzl _ _ _ _
 have hw1: ∀x a b c,zf (u8F (zaU (zY s).2).f++[x,a,b,c]) 256 [.int .i64 ((zaU (zY s).2).w:Nat)]=zd (zax s) a b c:=fun x a b c=>zxW _ _ (zax s) rfl rfl _ _ _ _
 have hcl0: ∀a b c,(zd zao a b c).length=260:=fun a b c=>zat hzl _ _ _
 have hcl1: ∀x a b c:Value,(u8F (zaU (zY s).2).f++[x,a,b,c]).length=260:=fun x a b c=>by rw[List.length_append,zay];rfl
 have hl1:=ztD s
 have hl2:=zxV (zY s).2
 have hcw:=zlm (zY s).2
 have hn2:=znC (zaU (zY s).2).s
 have hl3:=zcj 2 (zaU (zY s).2).s
 refine FnT.sep ?_
 refine FnT.body tok [0,2,3,4,5,6,7,8,33,47,48,49] Tryz.func34 rfl Kk Kk (by show _≤64;simp) fun hsep=>?_
 rw[Tryz.results34]
 have hE:=hsep
 try simp only[zzs] at hE
 repeat(obtain⟨hx',hE⟩:=hE)
 repeat' first
  |with_reducible first|refine Nx.go ?_ |refine Bk.go (fun _=>?_) fun _=>?_ |refine Nb fun nb hnb hnb1 hnb2=>?_ |refine Nr fun nb nsp ncap hnb hncap hnb1 hnb2=>?_
  |simp -dsimp -implicitDefEqProofs (disch:=first|exact Kd|fail) only[go_sem,↓reduceIte,seval, -List.reduceReplicate]
 rename_i b2 hb2 hb21 hb22
 revert nb
 intro b3 hb3 hb31 hb32
 refine FnT.leave (H':=(bR, .cells [sv, .bool s.1] [] 58):: (b3, .cells (List.replicate 256 (Value.int .u8 0)++[Value.int .i64 0,Value.slice none 0 0,Value.slice none 0 0,Value.slice none 0 0]) [] 27):: (b2, .cells (List.replicate 256 (Value.int .u8 0)++[Value.int .i64 0,Value.slice none 0 0,Value.slice none 0 0,Value.slice none 0 0]) [] 27)::H) (ztE hsl hs fun G1 v1 sv1 hle1 hs1 hnm hsv1=>?_) Ks
 have hnm0:=hnm
 obtain⟨a1,c1,rfl,hrn1,hcn1⟩:=hnm
 have hE:=hs1
 try simp only[zzs] at hE
 repeat(obtain⟨hx',hE⟩:=hE)
 repeat' first
  |with_reducible first|refine Nx.go ?_ |refine Bk.go (fun _=>?_) fun _=>?_ |refine Nb fun nb hnb hnb1 hnb2=>?_ |refine Nr fun nb nsp ncap hnb hncap hnb1 hnb2=>?_
  |simp -dsimp -implicitDefEqProofs (disch:=first|exact Kd|fail) only[go_sem,↓reduceIte,seval, -List.reduceReplicate,zn,hzs]
 refine ztM Ko hsv1 fun G2 sv2 hle2 hs2 hsv2=>?_
 have hE:=hs2
 try simp only[zzs] at hE
 repeat(obtain⟨hx',hE⟩:=hE)
 repeat' first
  |with_reducible first|refine Nx.go ?_ |refine Bk.go (fun _=>?_) fun _=>?_ |refine Nb fun nb hnb hnb1 hnb2=>?_ |refine Nr fun nb nsp ncap hnb hncap hnb1 hnb2=>?_
  |simp -dsimp -implicitDefEqProofs (disch:=first|exact Kd|fail) only[go_sem,↓reduceIte,seval, -List.reduceReplicate,zn,hzs,hof1,hw1,hcl0,hcl1,zay,zcS]
 refine zcb (n:=2) Ko Ko hsv2 fun G3 sv3 hle3 hs3 hsv3=>?_
 have hE:=hs3
 try simp only[zzs] at hE
 repeat(obtain⟨hx',hE⟩:=hE)
 obtain⟨t0,ht0⟩: ∃t,t=(⟨[],[],(zE 2 (zaU (zY s).2).s).2⟩:MacS):=⟨_,rfl⟩
 obtain⟨N,hN⟩: ∃n,n=(zE 2 (zaU (zY s).2).s).1:=⟨_,rfl⟩
 obtain⟨w,hw⟩: ∃w,w=(zaU (zY s).2).w:=⟨_,rfl⟩
 have hfin:zaG s=zeD w (N+1) t0:=by unfold zaG;rw[hw,hN,ht0]
 have hml:(zax s).of.length=256:=zl9 _
 have hL: ∀a b c:Value,(zd (zax s) a b c).length=260:=fun a b c=>zat hml _ _ _
 have hgl: ∀a b c:Value,(zd (zax s) a b c)[258]? =some b:=fun a b c=>zdy hml _ _ _
 have hgn: ∀a b c:Value,(zd (zax s) a b c)[257]? =some a:=fun a b c=>zeb hml _ _ _
 have hgw: ∀a b c:Value,(zd (zax s) a b c)[256]? =some (.int .i64 (w:Nat)):=fun a b c=>by rw[hw];exact zkj hml _ _ _
 have hpl: ∀a b c x:Value,zf (zd (zax s) a b c) 258 [x]=zd (zax s) a x c:=fun a b c x=>zbK hml _ _ _ _
 have hpn: ∀a b c x:Value,zf (zd (zax s) a b c) 257 [x]=zd (zax s) x b c:=fun a b c x=>zcG hml _ _ _ _
 have hputz: ∀a b c:Value,zf zI 0 (zd (zax s) a b c)=zd (zax s) a b c:=fun a b c=>by
  unfold zf
  rw[List.take_zero,List.nil_append,List.drop_of_length_le (by rw[zn,hL];omega),List.append_nil]
 have hone: ∀ (a a' a'':Option Addr) (b c b' c' b'' c'':Nat),(zd (zax s) (.slice a'' b'' c'') (.slice a b c) (.slice a' b' c')).all zaL=true:=fun a a' a'' b c b' c' b'' c''=>zbe rfl rfl rfl
 have htk: ∀a b c:Value,List.take 260 (zd (zax s) a b c)=zd (zax s) a b c:=fun a b c=>List.take_of_length_le (by rw[hL];omega)
 rw[←hw] at hcw
 rw[←hN] at hn2⊢
 have hle03:=hle1.trans (hle2.trans hle3)
 obtain⟨vs,hvs⟩: ∃vs,vs=Value.slice a1 (zY s).1.length c1:=⟨_,rfl⟩
 repeat' first
  |with_reducible first|refine Nx.go ?_ |refine Bk.go (fun _=>?_) fun _=>?_ |refine Nb fun nb hnb hnb1 hnb2=>?_ |refine Nr fun nb nsp ncap hnb hncap hnb1 hnb2=>?_
  |simp -dsimp -implicitDefEqProofs (disch:=first|exact Kd|fail) only[go_sem,↓reduceIte,seval, -List.reduceReplicate,zn,hzs]
 refine Tri.loopU tok [0,2,3,4,5,6,7,8,33,47,48,49] Kk [0,2,3,4,5,6] (fun q G' fr H'=> ∃ (i:Nat) (t:MacS) (sv' vn vl:Value) (kn kl:zb),i+q=N+1∧PLe G3 G'∧zeD w q t=zaG s∧t.lab.length=i∧t.nxt.length=i∧t.s.2.length≤200000000∧Sl G' zB sv' t.s.2∧zr8 t.nxt G' vn kn∧zS [] 3 1 vl i (t.lab.map (Value.int .i64)) kl∧H'=(bR, .cells [sv', .bool t.s.1] [] 58):: (b3, .cells (zd (zax s) vn vl vs) [] 27):: (b2, .cells zI [] 27):: (kl++(kn++H))∧fr=[(0, .pointer (some ⟨bR,0,none⟩)),(2, .pointer (some ⟨b2,0,none⟩)),(3, .pointer (some ⟨b3,0,none⟩)),(4, .func (.func 33) #[.pointer (some ⟨bR,0,none⟩)] #[]),(5, .int .i64 ((N:Nat)+1)),(6, .int .i64 (i:Nat))]) ((N+1)) ?_ ?_
 ·rw[←hvs]
  exact Upd.now ⟨0,t0,sv3,_,_,[],[],by omega,PLe.refl _,hfin.symm,by rw[ht0];rfl,by rw[ht0];rfl,by rw[ht0];exact Nat.le_trans hl3 Ko,by rw[ht0];exact hsv3, .inl ⟨by rw[ht0],rfl,rfl⟩, .inl ⟨none,rfl,rfl,by rw[ht0];rfl,rfl⟩,by rw[ht0];rfl,rfl⟩
 ·rintro q G4 fr H' hle4 hs4 ⟨i,t,sv4,vn,vl,kn,kl,hiq,hle34,hst,hti,htn,htl,hsv4,hY,hO,rfl,rfl⟩
  have hE:=hs4
  try simp only[zzs] at hE
  repeat(obtain⟨hx',hE⟩:=hE)
  by_cases hrun:i<N+1∧t.s.1=false
  ·obtain⟨hin,hbad⟩:=hrun
   obtain⟨q,rfl⟩: ∃p,q=p+1:=⟨q - 1,by omega⟩
   obtain⟨lab,nxt,bad,l⟩:=t
   simp only at hbad hti htn htl hsv4 hY hO
   subst hbad
   have hn1:=zgK (false,l)
   have hl4:=zcj 1 (false,l)
   simp only at hl4
   obtain⟨rfin,hrfin⟩: ∃r,r=zfu w ([],(zE 1 (false,l)).2):=⟨_,rfl⟩
   have hstep:zck w ⟨lab,nxt,(false,l)⟩=⟨lab++[((zE 1 (false,l)).1 :Int)],nxt++[rfin.1],rfin.2⟩:=by
    unfold zck;rw[if_neg (by simp),hrfin]
   have hno:zeD w q ⟨lab++[((zE 1 (false,l)).1 :Int)],nxt++[rfin.1],rfin.2⟩=zaG s:=by rw[←hstep,←zgO];exact hst
   rcases hO with ⟨al,rfl,hi0,hx,rfl⟩| ⟨bl,cl,sp,rfl,rfl,hx,hc⟩
   ·repeat' first
     |with_reducible first|refine Nx.go ?_ |refine Bk.go (fun _=>?_) fun _=>?_ |refine Nb fun nb hnb hnb1 hnb2=>?_ |refine Nr fun nb nsp ncap hnb hncap hnb1 hnb2=>?_
     |simp -dsimp -implicitDefEqProofs (disch:=first|exact Kd|fail) only[go_sem,↓reduceIte,seval, -List.reduceReplicate,hL,hgl,hgn,hgw,hpl,hpn,hr1]
     |with_reducible refine Tri.drawS tok mixed [0,2,3,4,5,6,7,8,33,47,48,49] 9 [1] (.op 0 .plain (.op 1 .held (.op 2 .plain (.op 3 .keeps (.op 4 .keeps (.op 5 .plain (.op 6 .plain (.op 7 .plain .nil)))))))) Kk [(b3, .cells (zd (zax s) vn (.slice al 0 0) vs) [] 27)] Ks ?_
    refine zcb (s:=(false,l)) htl (n:=1) Ko hsv4 fun G5 sv5 hle5 hs5 hsv5=>?_
    have hE:=hs5
    try simp only[zzs] at hE
    repeat(obtain⟨hx',hE⟩:=hE)
    repeat' first
     |with_reducible first|refine Nx.go ?_ |refine Bk.go (fun _=>?_) fun _=>?_ |refine Nb fun nb hnb hnb1 hnb2=>?_ |refine Nr fun nb nsp ncap hnb hncap hnb1 hnb2=>?_
     |simp -dsimp -implicitDefEqProofs (disch:=first|exact Kd|fail) only[go_sem,↓reduceIte,seval, -List.reduceReplicate,hL,hgl,hgn,hgw,hpl,hpn,hr1]
    rename_i bq hbq1 hbq2 hbq3
    obtain⟨br,e0⟩: ∃x,x=nb:=⟨_,rfl⟩
    subst e0
    obtain⟨cq,e0⟩: ∃x,x=ncap:=⟨_,rfl⟩
    subst e0
    obtain⟨sq,e0⟩: ∃x,x=nsp:=⟨_,rfl⟩
    subst e0
    refine Tri.loopU tok [0,2,3,4,5,6,7,8,33,47,48,49] Kk [0,2,3,4,5,6,7,47,48] (fun q2 G' fr H'=> ∃ (j:Nat) (u:List Int×Rdr) (sv':Value),j+q2=w∧PLe G5 G'∧zfu q2 u=rfin∧u.1.length=j∧u.2.2.length≤200000000∧Sl G' zB sv' u.2.2∧H'=(bR, .cells [sv', .bool u.2.1] [] 58):: (br, .cells ((zeR w u.1).map (Value.int .i64)) [] 3):: (b3, .cells (zd (zax s) vn (.slice (some ⟨bq,0,none⟩) 1 cq) vs) [] 27):: (b2, .cells zI [] 27):: (bq, .cells [Value.int .i64 ((zE 1 (false,l)).1 :Nat)] sq 3):: (kn++H)∧fr=[(0, .pointer (some ⟨bR,0,none⟩)),(2, .pointer (some ⟨b2,0,none⟩)),(3, .pointer (some ⟨b3,0,none⟩)),(4, .func (.func 33) #[.pointer (some ⟨bR,0,none⟩)] #[]),(5, .int .i64 ((N:Nat)+1)),(6, .int .i64 (i:Nat)),(7, .slice (some ⟨br,0,none⟩) w w),(47, .int .i64 w),(48, .int .i64 (j:Nat))]) (w) ?_ ?_
    ·rw[Nat.sub_self,List.replicate_zero,zom]
     exact Upd.go (H':=(bR, .cells [sv5, .bool (zE 1 (false,l)).2.1] [] 58):: (br, .cells ((zeR w []).map (Value.int .i64)) [] 3):: (b3, .cells (zd (zax s) vn (.slice (some ⟨bq,0,none⟩) 1 cq) vs) [] 27):: (b2, .cells zI [] 27):: (bq, .cells [Value.int .i64 ((zE 1 (false,l)).1 :Nat)] sq 3):: (kn++H)) Ks (Upd.now ⟨0,([],(zE 1 (false,l)).2),sv5,by omega,PLe.refl _,hrfin.symm,rfl,Nat.le_trans hl4 htl,hsv5,rfl,rfl⟩)
    ·rintro q2 G6 fr H' hle6 hs6 ⟨j,u,sv6,hjq,hle56,hu,huj,hul,hsv6,rfl,rfl⟩
     have hE:=hs6
     try simp only[zzs] at hE
     repeat(obtain⟨hx',hE⟩:=hE)
     have hpd:=zon (w:=w) (l:=u.1) Ko
     by_cases hjw:j<w
     ·obtain⟨q2,rfl⟩: ∃p,q2=p+1:=⟨q2 - 1,by omega⟩
      rw[zgN] at hu
      have hl7:=zcj 2 u.2
      have hn7:=znC u.2
      repeat' first
       |with_reducible first|refine Nx.go ?_ |refine Bk.go (fun _=>?_) fun _=>?_ |refine Nb fun nb hnb hnb1 hnb2=>?_ |refine Nr fun nb nsp ncap hnb hncap hnb1 hnb2=>?_
       |simp -dsimp -implicitDefEqProofs (disch:=first|exact Kd|fail) only[go_sem,↓reduceIte,seval, -List.reduceReplicate,hL,hgl,hgn,hgw,hpl,hpn,hr1]
      refine zcb hul (n:=2) Ko hsv6 fun G7 sv7 hle7 hs7 hsv7=>?_
      have hput:=zop (w:=w) (l:=u.1) Ko ((zE 2 u.2).1 :Nat)
      rw[huj] at hput
      have hE:=hs7
      try simp only[zzs] at hE
      repeat(obtain⟨hx',hE⟩:=hE)
      repeat' first
       |with_reducible first|refine Nx.go ?_ |refine Bk.go (fun _=>?_) fun _=>?_ |refine Nb fun nb hnb hnb1 hnb2=>?_ |refine Nr fun nb nsp ncap hnb hncap hnb1 hnb2=>?_
       |simp -dsimp -implicitDefEqProofs (disch:=first|exact Kd|fail) only[go_sem,↓reduceIte,seval, -List.reduceReplicate,hL,hgl,hgn,hgw,hpl,hpn,hr1,hput,List.length_map,hpd]
      exact Upd.now ⟨q2,by omega,j+1,zfY u,sv7,by omega,hle56.trans hle7,hu,by show(u.1++[_]).length=_;rw[List.length_append,huj];rfl,Nat.le_trans hl7 hul,hsv7,rfl,rfl⟩
     ·obtain rfl:j=w:=by omega
      obtain rfl:q2=0:=by omega
      rw[ziS] at hu
      have hall:=zoo (w:=j) (l:=u.1) huj
      rw[hall] at hs6⊢
      rw[←hu] at hno
      have hY6:=hY.mono (hle5.trans hle56)
      have hlab:zS [] 3 1 (.slice (some ⟨bq,0,none⟩) 1 cq) (i+1) ((lab++[((zE 1 (false,l)).1 :Int)]).map (Value.int .i64)) [(bq, .cells [Value.int .i64 ((zE 1 (false,l)).1 :Nat)] sq 3)]:=by rw[hi0,List.map_append,hx];exact .inr ⟨bq,cq,sq,rfl,rfl,rfl,hncap⟩
      rcases hY6 with ⟨hnil,rfl,rfl⟩| ⟨bn,c2,rv,sp1,rfl,rfl,hrv,hc2,hrws⟩
      ·have hE:=hs6
       try simp only[zzs] at hE
       repeat(obtain⟨hx',hE⟩:=hE)
       repeat' first
        |with_reducible first|refine Nx.go ?_ |refine Bk.go (fun _=>?_) fun _=>?_ |refine Nb fun nb hnb hnb1 hnb2=>?_ |refine Nr fun nb nsp ncap hnb hncap hnb1 hnb2=>?_
        |simp -dsimp -implicitDefEqProofs (disch:=first|exact Kd|fail) only[go_sem,↓reduceIte,seval, -List.reduceReplicate,hL,hgl,hgn,hgw,hpl,hpn,hr1]
       refine Upd.go (H':=(br, .cells (u.1.map (Value.int .i64)) [] 3):: (bR, .cells [sv6, .bool u.2.1] [] 58):: (b3, .cells (zd (zax s) (.slice (some ⟨nb,0,none⟩) 1 ncap) (.slice (some ⟨bq,0,none⟩) 1 cq) vs) [] 27):: (b2, .cells zI [] 27):: ([(bq, .cells [Value.int .i64 ((zE 1 (false,l)).1 :Nat)] sq 3)]++([(nb, .cells [.slice (some ⟨br,0,none⟩) j j] nsp 24)]++H))) Ks (Upd.shareRow Ka fun G8 hle8 hs8 hr8=>?_)
       exact⟨q,by omega,i+1,⟨lab++[((zE 1 (false,l)).1 :Int)],nxt++[u.1],u.2⟩,sv6,_,_,_,_,by omega,hle34.trans ((hle5.trans hle56).trans hle8),hno,by simp [hti],by simp [htn],hul,hsv6.mono hle8, .inr ⟨nb,ncap,_,nsp,by rw[hnil];rfl,rfl,by rw[hnil];rfl,by rw[hnil];exact(by simp at hncap⊢;omega),fun i2 h h2=>by
        rw[hnil] at h
        obtain rfl:i2=0:=by simp at h;omega
        refine⟨some ⟨br,0,none⟩,j,?_,?_,?_⟩
        ·simp only[hnil,List.nil_append,List.getElem_cons_zero];rw[huj]
        ·simp only[hnil,List.nil_append,List.getElem_cons_zero];exact hr8
        ·simp only[hnil,List.nil_append,List.getElem_cons_zero];omega⟩,hlab,rfl,rfl⟩
      ·have hn0:nxt.length+sp1.length=c2:=hc2
       have hE:=hs6
       try simp only[zzs] at hE
       repeat(obtain⟨hx',hE⟩:=hE)
       repeat' first
        |with_reducible first|refine Nx.go ?_ |refine Bk.go (fun _=>?_) fun _=>?_ |refine Nb fun nb hnb hnb1 hnb2=>?_ |refine Nr fun nb nsp ncap hnb hncap hnb1 hnb2=>?_
        |simp -dsimp -implicitDefEqProofs (disch:=first|exact Kd|fail) only[go_sem,↓reduceIte,seval, -List.reduceReplicate,hL,hgl,hgn,hgw,hpl,hpn,hr1]
       refine Upd.go (H':=(br, .cells (u.1.map (Value.int .i64)) [] 3):: (bR, .cells [sv6, .bool u.2.1] [] 58):: (b3, .cells (zd (zax s) (.slice (some ⟨nb,0,none⟩) (nxt.length+1) ncap) (.slice (some ⟨bq,0,none⟩) 1 cq) vs) [] 27):: (b2, .cells zI [] 27):: ([(bq, .cells [Value.int .i64 ((zE 1 (false,l)).1 :Nat)] sq 3)]++([(nb, .cells (rv++[.slice (some ⟨br,0,none⟩) j j]) nsp 24)]++H))) Ks (Upd.shareRow Ka fun G8 hle8 hs8 hr8=>?_)
       exact⟨q,by omega,i+1,⟨lab++[((zE 1 (false,l)).1 :Int)],nxt++[u.1],u.2⟩,sv6,_,_,_,_,by omega,hle34.trans ((hle5.trans hle56).trans hle8),hno,by simp [hti],by simp [htn],hul,hsv6.mono hle8, .inr ⟨nb,ncap,_,nsp,by rw[List.length_append];rfl,rfl,by rw[List.length_append,List.length_append,hrv];rfl,by rw[List.length_append];exact(by simp at hncap⊢;omega),fun i2 h h2=>by
        rcases Nat.lt_or_ge i2 nxt.length with hij|hij
        ·obtain⟨b',c',f1,f2,f3⟩:=hrws i2 hij Ko
         refine⟨b',c',?_,?_,?_⟩
         ·rw[List.getElem_append_left Ko];simp only[List.getElem_append_left hij];exact f1
         ·simp only[List.getElem_append_left hij];exact f2.mono hle8
         ·simp only[List.getElem_append_left hij];exact f3
        ·obtain rfl:i2=nxt.length:=by rw[List.length_append] at h;simp at h;omega
         refine⟨some ⟨br,0,none⟩,j,?_,?_,?_⟩
         ·rw[List.getElem_append_right Ko];simp [hrv,huj]
         ·simpa using hr8
         ·simp;omega⟩,hlab,rfl,rfl⟩
   ·rw[List.length_map,Nat.mul_one] at hx hc
    repeat' first
     |with_reducible first|refine Nx.go ?_ |refine Bk.go (fun _=>?_) fun _=>?_ |refine Nb fun nb hnb hnb1 hnb2=>?_ |refine Nr fun nb nsp ncap hnb hncap hnb1 hnb2=>?_
     |simp -dsimp -implicitDefEqProofs (disch:=first|exact Kd|fail) only[go_sem,↓reduceIte,seval, -List.reduceReplicate,hL,hgl,hgn,hgw,hpl,hpn,hr1]
     |with_reducible refine Tri.drawS tok mixed [0,2,3,4,5,6,7,8,33,47,48,49] 9 [1] (.op 0 .plain (.op 1 .held (.op 2 .plain (.op 3 .keeps (.op 4 .keeps (.op 5 .plain (.op 6 .plain (.op 7 .plain .nil)))))))) Kk [(b3, .cells (zd (zax s) vn (.slice (some ⟨bl,0,none⟩) i cl) vs) [] 27)] Ks ?_
    refine zcb (s:=(false,l)) htl (n:=1) Ko hsv4 fun G5 sv5 hle5 hs5 hsv5=>?_
    have hE:=hs5
    try simp only[zzs] at hE
    repeat(obtain⟨hx',hE⟩:=hE)
    repeat' first
     |with_reducible first|refine Nx.go ?_ |refine Bk.go (fun _=>?_) fun _=>?_ |refine Nb fun nb hnb hnb1 hnb2=>?_ |refine Nr fun nb nsp ncap hnb hncap hnb1 hnb2=>?_
     |simp -dsimp -implicitDefEqProofs (disch:=first|exact Kd|fail) only[go_sem,↓reduceIte,seval, -List.reduceReplicate,hL,hgl,hgn,hgw,hpl,hpn,hr1]
    rename_i bq hbq1 hbq2 hbq3
    obtain⟨br,e0⟩: ∃x,x=nb:=⟨_,rfl⟩
    subst e0
    obtain⟨cq,e0⟩: ∃x,x=ncap:=⟨_,rfl⟩
    subst e0
    obtain⟨sq,e0⟩: ∃x,x=nsp:=⟨_,rfl⟩
    subst e0
    refine Tri.loopU tok [0,2,3,4,5,6,7,8,33,47,48,49] Kk [0,2,3,4,5,6,7,47,48] (fun q2 G' fr H'=> ∃ (j:Nat) (u:List Int×Rdr) (sv':Value),j+q2=w∧PLe G5 G'∧zfu q2 u=rfin∧u.1.length=j∧u.2.2.length≤200000000∧Sl G' zB sv' u.2.2∧H'=(bR, .cells [sv', .bool u.2.1] [] 58):: (br, .cells ((zeR w u.1).map (Value.int .i64)) [] 3):: (b3, .cells (zd (zax s) vn (.slice (some ⟨bq,0,none⟩) (i+1) cq) vs) [] 27):: (b2, .cells zI [] 27):: (bq, .cells (lab.map (Value.int .i64)++[Value.int .i64 ((zE 1 (false,l)).1 :Nat)]) sq 3):: (kn++H)∧fr=[(0, .pointer (some ⟨bR,0,none⟩)),(2, .pointer (some ⟨b2,0,none⟩)),(3, .pointer (some ⟨b3,0,none⟩)),(4, .func (.func 33) #[.pointer (some ⟨bR,0,none⟩)] #[]),(5, .int .i64 ((N:Nat)+1)),(6, .int .i64 (i:Nat)),(7, .slice (some ⟨br,0,none⟩) w w),(47, .int .i64 w),(48, .int .i64 (j:Nat))]) (w) ?_ ?_
    ·rw[Nat.sub_self,List.replicate_zero,zom]
     exact Upd.go (H':=(bR, .cells [sv5, .bool (zE 1 (false,l)).2.1] [] 58):: (br, .cells ((zeR w []).map (Value.int .i64)) [] 3):: (b3, .cells (zd (zax s) vn (.slice (some ⟨bq,0,none⟩) (i+1) cq) vs) [] 27):: (b2, .cells zI [] 27):: (bq, .cells (lab.map (Value.int .i64)++[Value.int .i64 ((zE 1 (false,l)).1 :Nat)]) sq 3):: (kn++H)) Ks (Upd.now ⟨0,([],(zE 1 (false,l)).2),sv5,by omega,PLe.refl _,hrfin.symm,rfl,Nat.le_trans hl4 htl,hsv5,rfl,rfl⟩)
    ·rintro q2 G6 fr H' hle6 hs6 ⟨j,u,sv6,hjq,hle56,hu,huj,hul,hsv6,rfl,rfl⟩
     have hE:=hs6
     try simp only[zzs] at hE
     repeat(obtain⟨hx',hE⟩:=hE)
     have hpd:=zon (w:=w) (l:=u.1) Ko
     by_cases hjw:j<w
     ·obtain⟨q2,rfl⟩: ∃p,q2=p+1:=⟨q2 - 1,by omega⟩
      rw[zgN] at hu
      have hl7:=zcj 2 u.2
      have hn7:=znC u.2
      repeat' first
       |with_reducible first|refine Nx.go ?_ |refine Bk.go (fun _=>?_) fun _=>?_ |refine Nb fun nb hnb hnb1 hnb2=>?_ |refine Nr fun nb nsp ncap hnb hncap hnb1 hnb2=>?_
       |simp -dsimp -implicitDefEqProofs (disch:=first|exact Kd|fail) only[go_sem,↓reduceIte,seval, -List.reduceReplicate,hL,hgl,hgn,hgw,hpl,hpn,hr1]
      refine zcb hul (n:=2) Ko hsv6 fun G7 sv7 hle7 hs7 hsv7=>?_
      have hput:=zop (w:=w) (l:=u.1) Ko ((zE 2 u.2).1 :Nat)
      rw[huj] at hput
      have hE:=hs7
      try simp only[zzs] at hE
      repeat(obtain⟨hx',hE⟩:=hE)
      repeat' first
       |with_reducible first|refine Nx.go ?_ |refine Bk.go (fun _=>?_) fun _=>?_ |refine Nb fun nb hnb hnb1 hnb2=>?_ |refine Nr fun nb nsp ncap hnb hncap hnb1 hnb2=>?_
       |simp -dsimp -implicitDefEqProofs (disch:=first|exact Kd|fail) only[go_sem,↓reduceIte,seval, -List.reduceReplicate,hL,hgl,hgn,hgw,hpl,hpn,hr1,hput,List.length_map,hpd]
      exact Upd.now ⟨q2,by omega,j+1,zfY u,sv7,by omega,hle56.trans hle7,hu,by show(u.1++[_]).length=_;rw[List.length_append,huj];rfl,Nat.le_trans hl7 hul,hsv7,rfl,rfl⟩
     ·obtain rfl:j=w:=by omega
      obtain rfl:q2=0:=by omega
      rw[ziS] at hu
      have hall:=zoo (w:=j) (l:=u.1) huj
      rw[hall] at hs6⊢
      rw[←hu] at hno
      have hY6:=hY.mono (hle5.trans hle56)
      have hlab:zS [] 3 1 (.slice (some ⟨bq,0,none⟩) (i+1) cq) (i+1) ((lab++[((zE 1 (false,l)).1 :Int)]).map (Value.int .i64)) [(bq, .cells (lab.map (Value.int .i64)++[Value.int .i64 ((zE 1 (false,l)).1 :Nat)]) sq 3)]:=by rw[List.map_append];exact .inr ⟨bq,cq,sq,rfl,rfl,by simp;omega,by simp at hncap⊢;omega⟩
      rcases hY6 with ⟨hnil,rfl,rfl⟩| ⟨bn,c2,rv,sp1,rfl,rfl,hrv,hc2,hrws⟩
      ·have hE:=hs6
       try simp only[zzs] at hE
       repeat(obtain⟨hx',hE⟩:=hE)
       repeat' first
        |with_reducible first|refine Nx.go ?_ |refine Bk.go (fun _=>?_) fun _=>?_ |refine Nb fun nb hnb hnb1 hnb2=>?_ |refine Nr fun nb nsp ncap hnb hncap hnb1 hnb2=>?_
        |simp -dsimp -implicitDefEqProofs (disch:=first|exact Kd|fail) only[go_sem,↓reduceIte,seval, -List.reduceReplicate,hL,hgl,hgn,hgw,hpl,hpn,hr1]
       refine Upd.go (H':=(br, .cells (u.1.map (Value.int .i64)) [] 3):: (bR, .cells [sv6, .bool u.2.1] [] 58):: (b3, .cells (zd (zax s) (.slice (some ⟨nb,0,none⟩) 1 ncap) (.slice (some ⟨bq,0,none⟩) (i+1) cq) vs) [] 27):: (b2, .cells zI [] 27):: ([(bq, .cells (lab.map (Value.int .i64)++[Value.int .i64 ((zE 1 (false,l)).1 :Nat)]) sq 3)]++([(nb, .cells [.slice (some ⟨br,0,none⟩) j j] nsp 24)]++H))) Ks (Upd.shareRow Ka fun G8 hle8 hs8 hr8=>?_)
       exact⟨q,by omega,i+1,⟨lab++[((zE 1 (false,l)).1 :Int)],nxt++[u.1],u.2⟩,sv6,_,_,_,_,by omega,hle34.trans ((hle5.trans hle56).trans hle8),hno,by simp [hti],by simp [htn],hul,hsv6.mono hle8, .inr ⟨nb,ncap,_,nsp,by rw[hnil];rfl,rfl,by rw[hnil];rfl,by rw[hnil];exact(by simp at hncap⊢;omega),fun i2 h h2=>by
        rw[hnil] at h
        obtain rfl:i2=0:=by simp at h;omega
        refine⟨some ⟨br,0,none⟩,j,?_,?_,?_⟩
        ·simp only[hnil,List.nil_append,List.getElem_cons_zero];rw[huj]
        ·simp only[hnil,List.nil_append,List.getElem_cons_zero];exact hr8
        ·simp only[hnil,List.nil_append,List.getElem_cons_zero];omega⟩,hlab,rfl,rfl⟩
      ·have hn0:nxt.length+sp1.length=c2:=hc2
       have hE:=hs6
       try simp only[zzs] at hE
       repeat(obtain⟨hx',hE⟩:=hE)
       repeat' first
        |with_reducible first|refine Nx.go ?_ |refine Bk.go (fun _=>?_) fun _=>?_ |refine Nb fun nb hnb hnb1 hnb2=>?_ |refine Nr fun nb nsp ncap hnb hncap hnb1 hnb2=>?_
        |simp -dsimp -implicitDefEqProofs (disch:=first|exact Kd|fail) only[go_sem,↓reduceIte,seval, -List.reduceReplicate,hL,hgl,hgn,hgw,hpl,hpn,hr1]
       refine Upd.go (H':=(br, .cells (u.1.map (Value.int .i64)) [] 3):: (bR, .cells [sv6, .bool u.2.1] [] 58):: (b3, .cells (zd (zax s) (.slice (some ⟨nb,0,none⟩) (nxt.length+1) ncap) (.slice (some ⟨bq,0,none⟩) (i+1) cq) vs) [] 27):: (b2, .cells zI [] 27):: ([(bq, .cells (lab.map (Value.int .i64)++[Value.int .i64 ((zE 1 (false,l)).1 :Nat)]) sq 3)]++([(nb, .cells (rv++[.slice (some ⟨br,0,none⟩) j j]) nsp 24)]++H))) Ks (Upd.shareRow Ka fun G8 hle8 hs8 hr8=>?_)
       exact⟨q,by omega,i+1,⟨lab++[((zE 1 (false,l)).1 :Int)],nxt++[u.1],u.2⟩,sv6,_,_,_,_,by omega,hle34.trans ((hle5.trans hle56).trans hle8),hno,by simp [hti],by simp [htn],hul,hsv6.mono hle8, .inr ⟨nb,ncap,_,nsp,by rw[List.length_append];rfl,rfl,by rw[List.length_append,List.length_append,hrv];rfl,by rw[List.length_append];exact(by simp at hncap⊢;omega),fun i2 h h2=>by
        rcases Nat.lt_or_ge i2 nxt.length with hij|hij
        ·obtain⟨b',c',f1,f2,f3⟩:=hrws i2 hij Ko
         refine⟨b',c',?_,?_,?_⟩
         ·rw[List.getElem_append_left Ko];simp only[List.getElem_append_left hij];exact f1
         ·simp only[List.getElem_append_left hij];exact f2.mono hle8
         ·simp only[List.getElem_append_left hij];exact f3
        ·obtain rfl:i2=nxt.length:=by rw[List.length_append] at h;simp at h;omega
         refine⟨some ⟨br,0,none⟩,j,?_,?_,?_⟩
         ·rw[List.getElem_append_right Ko];simp [hrv,huj]
         ·simpa using hr8
         ·simp;omega⟩,hlab,rfl,rfl⟩
  ·have hfin2:t=zaG s:=by
    by_cases hin:i<N+1
    ·have hbad:t.s.1=true:=by cases e:t.s.1 with|true=>rfl|false=>exact absurd ⟨hin,e⟩ hrun
     rw[zqB hbad] at hst;exact hst
    ·obtain rfl:q=0:=by omega
     rw[zmI] at hst;exact hst
   have hD: ∀ (G':za) (an al:Option Addr) (cn cl:Nat),PLe G4 G'→SlS G' (.slice an i cn) t.nxt→Sl G' (Value.int .i64) (.slice al i cl) t.lab→IsD G' (zax s) (.agg (zd (zax s) (.slice an i cn) (.slice al i cl) vs).toArray):=fun G' an al cn cl hle h1 h2=>by
    refine⟨hml,fun x hx=>?_,_,_,_,rfl,?_,?_,?_⟩
    ·have hx:x∈ofF (zaU (zY s).2).f:=hx
     unfold ofF at hx
     obtain⟨k,_,rfl⟩:=List.mem_map.1 hx
     exact(zlm (zY s).2).2 k
    ·rw[hfin2] at h1;exact h1
    ·rw[hfin2] at h2;exact h2
    ·rw[hvs];exact hnm0.mono ((hle2.trans hle3).trans (hle34.trans hle))
   have hkey: ∀ (G':za) (an al:Option Addr) (cn cl:Nat),PLe G4 G'→SlS G' (.slice an i cn) t.nxt→Sl G' (Value.int .i64) (.slice al i cl) t.lab→Sep G' (zm ((bR,Res.cells [sv4, .bool t.s.1] [] 58)::H))→R (.agg (zd (zax s) (.slice an i cn) (.slice al i cl) vs).toArray) G' ((bR, .cells [sv4, .bool t.s.1] [] 58)::H):=fun G' an al cn cl hle h1 h2 hsp=>by
    have:=hR G' _ sv4 (hle03.trans (hle34.trans hle)) (by rw[←hfin2];exact hsp) (hD G' an al cn cl hle h1 h2) (by rw[←hfin2];exact hsv4.mono hle)
    rw[←hfin2] at this
    exact this
   have hvsl: ∃a n c,vs=Value.slice a n c:=⟨_,_,_,hvs⟩
   obtain⟨av,nv,cv,hvs2⟩:=hvsl
   clear hD
   rw[hvs2] at hkey⊢
   rcases hO with ⟨al,rfl,hi0,hx,rfl⟩| ⟨bl,cl,sp,rfl,rfl,hx,hc⟩
   ·rcases hY with ⟨hnil,rfl,rfl⟩| ⟨bn,c2,rv,sp1,rfl,rfl,hrv,hc2,hrws⟩
    ·have hdum:True:=trivial
     obtain rfl:i=0:=by rw[←htn,hnil];rfl
     have hE:=hs4
     try simp only[zzs] at hE
     repeat(obtain⟨hx',hE⟩:=hE)
     have hlz:t.lab=[]:=List.eq_nil_of_length_eq_zero Ko
     by_cases hin:0<N+1
     ·have hbad:t.s.1=true:=by cases e:t.s.1 with|true=>rfl|false=>exact absurd ⟨hin,e⟩ hrun
      have hkeyb:=hkey
      rw[hbad] at hkeyb
      repeat' first
       |with_reducible first|refine Nx.go ?_ |refine Bk.go (fun _=>?_) fun _=>?_ |refine Nb fun nb hnb hnb1 hnb2=>?_ |refine Nr fun nb nsp ncap hnb hncap hnb1 hnb2=>?_
       |simp -dsimp -implicitDefEqProofs (disch:=first|exact Kd|fail) only[go_sem,↓reduceIte,seval, -List.reduceReplicate,zn,hL,hputz,hone,htk,hbad]
      unfold zv
      refine Upd.go (H':=((bR, .cells [sv4, .bool true] [] 58)::H)) Ks ?_
      refine Upd.now ?_
      exact fun _ hs=>hkeyb G4 _ _ _ _ (PLe.refl _) ⟨none,0,[],by rw[hnil];rfl,Row.nil _ _,by rw[hnil];rfl,by rw[hnil];exact Nat.le_refl _,fun i h=>by rw[hnil] at h;cases h⟩ ⟨al,0,by rw[hlz];rfl,by rw[hlz];exact Row.nil _ _,by rw[hlz];exact Nat.le_refl _⟩ hs
     ·exact absurd (Nat.succ_pos N) hin
    ·have hdum:True:=trivial
     obtain rfl:i=0:=hi0
     rw[htn] at hs4⊢
     have hE:=hs4
     try simp only[zzs] at hE
     repeat(obtain⟨hx',hE⟩:=hE)
     have hlz:t.lab=[]:=List.eq_nil_of_length_eq_zero Ko
     by_cases hin:0<N+1
     ·have hbad:t.s.1=true:=by cases e:t.s.1 with|true=>rfl|false=>exact absurd ⟨hin,e⟩ hrun
      have hkeyb:=hkey
      rw[hbad] at hkeyb
      repeat' first
       |with_reducible first|refine Nx.go ?_ |refine Bk.go (fun _=>?_) fun _=>?_ |refine Nb fun nb hnb hnb1 hnb2=>?_ |refine Nr fun nb nsp ncap hnb hncap hnb1 hnb2=>?_
       |simp -dsimp -implicitDefEqProofs (disch:=first|exact Kd|fail) only[go_sem,↓reduceIte,seval, -List.reduceReplicate,zn,hL,hputz,hone,htk,hbad]
      unfold zv
      refine Upd.go (H':=[(bn, .cells rv sp1 24)]++((bR, .cells [sv4, .bool true] [] 58)::H)) Ks ?_
      refine Upd.shareRow Ka fun G6 hle6 hs6 hr6=>?_
      exact fun _ hs => hkeyb G6 _ _ _ _ hle6 ⟨some ⟨bn, 0, none⟩, c2, rv, by first | rfl | rw [htn], hr6, hrv, by omega, fun i h h2 => by
            obtain⟨b',c',f1,f2,f3⟩:=hrws i h h2
            exact⟨b',c',f1,f2.mono hle6,f3⟩⟩ ⟨al,0,by rw[hlz];rfl,by rw[hlz];exact Row.nil _ _,by rw[hlz];exact Nat.le_refl _⟩ hs
     ·exact absurd (Nat.succ_pos N) hin
   ·rcases hY with ⟨hnil,rfl,rfl⟩| ⟨bn,c2,rv,sp1,rfl,rfl,hrv,hc2,hrws⟩
    ·have hdum:True:=trivial
     obtain rfl:i=0:=by rw[←htn,hnil];rfl
     have hE:=hs4
     try simp only[zzs] at hE
     repeat(obtain⟨hx',hE⟩:=hE)
     rw[List.length_map,Nat.mul_one] at hx hc
     by_cases hin:0<N+1
     ·have hbad:t.s.1=true:=by cases e:t.s.1 with|true=>rfl|false=>exact absurd ⟨hin,e⟩ hrun
      have hkeyb:=hkey
      rw[hbad] at hkeyb
      repeat' first
       |with_reducible first|refine Nx.go ?_ |refine Bk.go (fun _=>?_) fun _=>?_ |refine Nb fun nb hnb hnb1 hnb2=>?_ |refine Nr fun nb nsp ncap hnb hncap hnb1 hnb2=>?_
       |simp -dsimp -implicitDefEqProofs (disch:=first|exact Kd|fail) only[go_sem,↓reduceIte,seval, -List.reduceReplicate,zn,hL,hputz,hone,htk,hbad]
      unfold zv
      refine Upd.go (H':=[(bl, .cells (t.lab.map (Value.int .i64)) sp 3)]++((bR, .cells [sv4, .bool true] [] 58)::H)) Ks ?_
      refine Upd.shareRow Ka fun G5 hle5 hs5 hr5=>?_
      exact fun _ hs=>hkeyb G5 _ _ _ _ hle5 ⟨none,0,[],by rw[hnil];rfl,Row.nil _ _,by rw[hnil];rfl,by rw[hnil];exact Nat.le_refl _,fun i h=>by rw[hnil] at h;cases h⟩ ⟨some ⟨bl,0,none⟩,cl,by rw[hti],hr5,by omega⟩ hs
     ·exact absurd (Nat.succ_pos N) hin
    ·have hdum:True:=trivial
     subst htn
     have hE:=hs4
     try simp only[zzs] at hE
     repeat(obtain⟨hx',hE⟩:=hE)
     rw[List.length_map,Nat.mul_one] at hx hc
     by_cases hin:t.nxt.length<N+1
     ·have hbad:t.s.1=true:=by cases e:t.s.1 with|true=>rfl|false=>exact absurd ⟨hin,e⟩ hrun
      have hkeyb:=hkey
      rw[hbad] at hkeyb
      repeat' first
       |with_reducible first|refine Nx.go ?_ |refine Bk.go (fun _=>?_) fun _=>?_ |refine Nb fun nb hnb hnb1 hnb2=>?_ |refine Nr fun nb nsp ncap hnb hncap hnb1 hnb2=>?_
       |simp -dsimp -implicitDefEqProofs (disch:=first|exact Kd|fail) only[go_sem,↓reduceIte,seval, -List.reduceReplicate,zn,hL,hputz,hone,htk,hbad]
      unfold zv
      refine Upd.go (H':=[(bl, .cells (t.lab.map (Value.int .i64)) sp 3)]++[(bn, .cells rv sp1 24)]++((bR, .cells [sv4, .bool true] [] 58)::H)) Ks ?_
      refine Upd.trans (Upd.shareRow Ka fun G5 hle5 hs5 hr5=>?_)
      refine Upd.shareRow (hs5.1.1) fun G6 hle6 hs6 hr6=>?_
      exact fun _ hs => hkeyb G6 _ _ _ _ (hle5.trans hle6) ⟨some ⟨bn, 0, none⟩, c2, rv, by first | rfl | rw [htn], hr6, hrv, by omega, fun i h h2 => by
            obtain⟨b',c',f1,f2,f3⟩:=hrws i h h2
            exact⟨b',c',f1,f2.mono (hle5.trans hle6),f3⟩⟩ ⟨some ⟨bl,0,none⟩,cl,by rw[hti],hr5.mono hle6,by omega⟩ hs
     ·repeat' first
       |with_reducible first|refine Nx.go ?_ |refine Bk.go (fun _=>?_) fun _=>?_ |refine Nb fun nb hnb hnb1 hnb2=>?_ |refine Nr fun nb nsp ncap hnb hncap hnb1 hnb2=>?_
       |simp -dsimp -implicitDefEqProofs (disch:=first|exact Kd|fail) only[go_sem,↓reduceIte,seval, -List.reduceReplicate,zn,hL,hputz,hone,htk]
      unfold zv
      refine Upd.go (H':=[(bl, .cells (t.lab.map (Value.int .i64)) sp 3)]++[(bn, .cells rv sp1 24)]++((bR, .cells [sv4, .bool t.s.1] [] 58)::H)) Ks ?_
      refine Upd.trans (Upd.shareRow Ka fun G5 hle5 hs5 hr5=>?_)
      refine Upd.shareRow (hs5.1.1) fun G6 hle6 hs6 hr6=>?_
      exact fun _ hs => hkey G6 _ _ _ _ (hle5.trans hle6) ⟨some ⟨bn, 0, none⟩, c2, rv, by first | rfl | rw [htn], hr6, hrv, by omega, fun i h h2 => by
            obtain⟨b',c',f1,f2,f3⟩:=hrws i h h2
            exact⟨b',c',f1,f2.mono (hle5.trans hle6),f3⟩⟩ ⟨some ⟨bl,0,none⟩,cl,by rw[hti],hr5.mono hle6,by omega⟩ hs
end Go.Proofs.YtomdbjfdbkejoaaGreatDoor
namespace Go.Proofs.YtomdbjfdbkejoaaGreatDoor
open Go Go.V Go.Proofs
def toD (d:DfaT) (s:Int) (c:Nat):Int:=atL (d.next.getD s.toNat []) (d.of.getD c 0)
theorem zbs {d:DfaT} (hok:zc d) {x:Int} (hx:x∈d.of):0≤x∧x<d.width:=by
 obtain⟨hk1,hk2,hk3,hk4,hk5,hk6,hk7⟩:=hok
 rw[←hk4] at hx
 have:=zbd hx
 omega
theorem zoq {d:DfaT} (hok:zc d) {C:List Value} {an al ay:Option Addr} {cn cl cs:Nat} {rs:List Value} {G:za} (O:OpenD G d C an al ay cn cl cs rs) {t c:Nat} (ht:t<d.label.length) (hc:c<256):
  ∃ (y:Nat) (z:Int) (b:Option Addr) (cc:Nat) (htn:t<d.next.length) (htv:t<rs.length) (hyk:y<d.next[t].length),y<256∧C[c]? =some (.int .u8 y)∧rs[t]= .slice b d.next[t].length cc∧Row G b (d.next[t].map (Value.int .i64))∧d.next[t].length≤cc∧d.next[t][y]=z∧toD d (t:Nat) c=z∧0≤z∧z<d.label.length∧Adr an∧Adr b:=by
 obtain⟨hk1,hk2,hk3,hk4,hk5,hk6,hk7⟩:=id hok
 have htn:t<d.next.length:=by omega
 have htv:t<rs.length:=by have:=O.rnl;omega
 obtain⟨b,cc,e1,e2,e3⟩:=O.rs t htn htv
 obtain⟨hw0,_,_,hrng⟩:=hk7 t htn ht
 have hco:c<d.of.length:=by rw[O.ofl];exact hc
 have hox:=zbs hok (List.getElem_mem hco)
 have hob:=O.ofb _ (List.getElem_mem hco)
 obtain⟨y,hy⟩:=Int.eq_ofNat_of_zero_le hox.1
 have hyk:y< (d.next[t]).length:=by omega
 have hCc:C[c]? =some (.int .u8 d.of[c]):=by
  have h1:(C.take 256)[c]? =C[c]? :=by rw[List.getElem?_take,if_pos hc]
  rw[←h1,O.of]
  unfold u8L
  rw[List.getElem?_map,List.getElem?_eq_getElem hco];rfl
 rw[hy] at hCc
 have hval:toD d (t:Nat) c=(d.next[t])[y]:=by
  unfold toD
  rw[Int.toNat_natCast,List.getD_eq_getElem?_getD,List.getElem?_eq_getElem htn,List.getD_eq_getElem?_getD,List.getElem?_eq_getElem hco]
  show atL d.next[t] d.of[c]=_
  rw[hy,zU (by simpa using hyk)]
  simp only[Int.toNat_natCast]
 have hz:=hrng _ (List.getElem_mem hyk)
 exact⟨y,d.next[t][y],b,cc,htn,htv,hyk,by omega,hCc,e1,e2,e3,rfl,hval,hz.1,hz.2,O.rn.adr Ko,e2.adr (by rw[List.length_map];omega)⟩
end Go.Proofs.YtomdbjfdbkejoaaGreatDoor
namespace Go.Proofs.YtomdbjfdbkejoaaGreatDoor
open Go Go.V Go.Proofs
def zcs:List UInt8:=[68,66,76,49]
def zjx (s:List UInt8):List UInt8:=beB 1 s.length++s
def zbB (l:List (List UInt8)):List UInt8:=l.flatMap zjx
def zbb (l:List Int):Nat→Nat
 |0=>0
 |c+1=>if l.getD (c+1) 0≠l.getD c 0 then c+1 else zbb l c
def emL (l:List Int) (c:Nat):List UInt8:=if c=255∨l.getD (c+1) 0≠l.getD c 0 then beB 1 (l.getD c 0).toNat++beB 1 (c - zbb l c) else[]
def zbt (l:List Int) (c:Nat):List UInt8:=(List.range c).flatMap (emL l)
theorem zeE (l:List Int) (c:Nat):zbt l (c+1)=zbt l c++emL l c:=by
 unfold zbt;rw[List.range_succ,List.flatMap_append,List.flatMap_singleton]
def zef (r:List Int):List UInt8:=r.flatMap fun t=>beB 2 t.toNat
def stE (d:DfaT) (s:Nat):List UInt8:=beB 1 (atL d.label (s:Nat)).toNat++zef (d.next.getD s [])
def zdk (d:DfaT) (k:Nat):List UInt8:=(List.range k).flatMap (stE d)
theorem ziT (d:DfaT) (k:Nat):zdk d (k+1)=zdk d k++stE d k:=by
 unfold zdk;rw[List.range_succ,List.flatMap_append,List.flatMap_singleton]
def za5 (d:DfaT):List UInt8:=zcs++beB 1 d.names.length++zbB d.names++zbt d.of 256++beB 2 (d.label.length - 1)++zdk d d.label.length
def zaJ (d:DfaT):List UInt8:=za5 d++beB 4 (zcR (za5 d))
theorem zmJ (l:List Int): ∀c,zbb l c≤c
 |0=>Nat.le_refl _
 |c+1=>by
  have:=zmJ l c
  unfold zbb;split <;> omega
theorem zxX (l:List Int) (c:Nat):(emL l c).length≤2:=by
 unfold emL;split
 ·rw[List.length_append,zaZ,zaZ];omega
 ·exact Nat.zero_le _
theorem ziU (l:List Int): ∀c,(zbt l c).length≤2 * c
 |0=>by simp [zbt]
 |c+1=>by
  have:=ziU l c
  have:=zxX l c
  rw[zeE,List.length_append];omega
theorem ztO (s:List UInt8):(zjx s).length=1+s.length:=by unfold zjx;rw[List.length_append,zaZ]
theorem zfL: ∀ (l:List (List UInt8)),(∀s∈l,s.length≤32)→(zbB l).length≤33 * l.length
 | [],_=>Nat.le_refl _
 |s::l,h=>by
  have h1:=zfL l fun x hx=>h x (List.mem_cons_of_mem _ hx)
  have h2:=h s List.mem_cons_self
  unfold zbB at h1⊢
  rw[List.flatMap_cons,List.length_append,ztO,List.length_cons];omega
theorem zkm: ∀ (r:List Int),(zef r).length=2 * r.length
 | []=>rfl
 |t::r=>by
  have h1:=zkm r
  unfold zef at h1⊢
  rw[List.flatMap_cons,List.length_append,zaZ,h1,List.length_cons];omega
theorem ztP (r:List Int) {k:Nat} (h:k<r.length):zef (r.take (k+1))=zef (r.take k)++beB 2 r[k].toNat:=by
 unfold zef;rw[List.take_succ_eq_append_getElem h,List.flatMap_append,List.flatMap_singleton]
theorem zpY (l:List (List UInt8)) {k:Nat} (h:k<l.length):zbB (l.take (k+1))=zbB (l.take k)++zjx l[k]:=by
 unfold zbB;rw[List.take_succ_eq_append_getElem h,List.flatMap_append,List.flatMap_singleton]
theorem zg9 {d:DfaT} (hok:zc d):d.names.length≤64∧ ∀s∈d.names,s.length≤32:=by
 obtain⟨h1,h2⟩:=hok.2.2.2.2.2.1
 refine⟨h1,fun s hs=>?_⟩
 obtain⟨i,hi,rfl⟩:=List.getElem_of_mem hs
 exact(zep.1 (h2 i hi).1).2.1
theorem zjX {d:DfaT} (hok:zc d) (hl:d.of.length=256):0≤d.width∧d.width≤256:=by
 have h1:=hok.2.2.2.2.1
 have h2:=zai d.of
 omega
theorem ztQ {d:DfaT} {s:Nat} (hs:s<d.next.length) (hl:s<d.label.length):stE d s=beB 1 d.label[s].toNat++zef d.next[s]:=by
 unfold stE
 rw[zU (by simpa using hl),List.getD_eq_getElem?_getD,List.getElem?_eq_getElem hs]
 simp only[Int.toNat_natCast];rfl
theorem zha {d:DfaT} (hok:zc d) (hl:d.of.length=256): ∀k,k≤d.label.length→(zdk d k).length≤513 * k
 |0,_=>by simp [zdk]
 |k+1,h=>by
  have h1:=zha hok hl k Ko
  have hn:=hok.2.2.1
  have hw:=(hok.2.2.2.2.2.2 k Ko Ko).1
  have hw2:=zjX hok hl
  rw[ziT,List.length_append,ztQ Ko Ko,List.length_append,zaZ,zkm];omega
theorem ziV {d:DfaT} (hok:zc d) (hl:d.of.length=256):(za5 d).length≤50000000:=by
 have h1:=zha hok hl d.label.length (Nat.le_refl _)
 have h2:=ziU d.of 256
 have h3:=zg9 hok
 have h4:=zfL d.names h3.2
 have h5:=hok.2.1
 unfold za5
 simp only[List.length_append,zaZ]
 have:zcs.length=4:=rfl
 omega
theorem zxY {b:List UInt8} (hbl:b.length≤200000000) {x cap:Nat} {sp:List Value} {G:za} {H:zb} {R:Value→za→zb→Prop} (hR:R (.int .u32 (zcR b:Nat)) G ((x, .cells (b.map zB) sp 5)::H)):FnT Tryz.prog 7 [.slice (some ⟨x,0,none⟩) b.length cap] G ((x, .cells (b.map zB) sp 5)::H) R:=by
 refine FnT.body tok [0,2,3,5,6,7,8,9] Tryz.func7 rfl Kk Kk (by show _≤20;simp) fun hsep=>?_
 rw[Tryz.results7]
 have hE:=hsep
 try simp only[zzs] at hE
 repeat(obtain⟨hx',hE⟩:=hE)
 repeat' first
  |with_reducible first|refine Nx.go ?_ |refine Bk.go (fun _=>?_) fun _=>?_ |refine Nb fun nb hnb hnb1 hnb2=>?_ |refine Nr fun nb nsp ncap hnb hncap hnb1 hnb2=>?_
  |simp -dsimp -implicitDefEqProofs (disch:=first|exact Kd|fail) only[go_sem,↓reduceIte,seval]
 refine Tri.loopU tok [0,2,3,5,6,7,8,9] Kk [0,2,3,6,7,8] (fun q G' fr H'=> ∃i:Nat,i+q=b.length∧G'=G∧H'=(x, .cells (b.map zB) sp 5)::H∧fr=[(0, .slice (some ⟨x,0,none⟩) b.length cap),(2, .int .u32 0),(3, .int .u32 (zcR (b.take i):Nat)),(6, .slice (some ⟨x,0,none⟩) b.length cap),(7, .int .i64 b.length),(8, .int .i64 (i:Nat))]) (b.length) (Upd.now ?_) ?_
 ·exact⟨0,by omega,rfl,rfl,rfl⟩
 ·rintro q G1 fr H' hle hs1 ⟨i,hiq,rfl,rfl,rfl⟩
  have hE:=hs1
  try simp only[zzs] at hE
  repeat(obtain⟨hx',hE⟩:=hE)
  by_cases hil:i<b.length
  ·have hst:=zmE b hil
   have hlt:=zhl (b.take i)
   have hget: ∀h,(b.map zB++sp)[i]'h=Value.int .u8 (b[i].toNat:Nat):=fun h=>by rw[List.getElem_append_left (by rw[List.length_map];exact hil),List.getElem_map];rfl
   repeat' first
    |with_reducible first|refine Nx.go ?_ |refine Bk.go (fun _=>?_) fun _=>?_ |refine Nb fun nb hnb hnb1 hnb2=>?_ |refine Nr fun nb nsp ncap hnb hncap hnb1 hnb2=>?_
    |simp -dsimp -implicitDefEqProofs (disch:=first|exact Kd|fail) only[go_sem,↓reduceIte,seval,List.length_map,hget,zlh hlt]
   exact Upd.now ⟨q - 1,by omega,i+1,by omega,rfl,rfl,by rw[hst];rfl⟩
  ·obtain rfl:i=b.length:=by omega
   rw[List.take_length]
   repeat' first
    |with_reducible first|refine Nx.go ?_ |refine Bk.go (fun _=>?_) fun _=>?_ |refine Nb fun nb hnb hnb1 hnb2=>?_ |refine Nr fun nb nsp ncap hnb hncap hnb1 hnb2=>?_
    |simp -dsimp -implicitDefEqProofs (disch:=first|exact Kd|fail) only[go_sem,↓reduceIte,seval]
   all_goals refine Upd.finL ?_ hR ?_
   any_goals first|exact Ks|skip
   all_goals rfl
end Go.Proofs.YtomdbjfdbkejoaaGreatDoor
namespace Go.Proofs.YtomdbjfdbkejoaaGreatDoor
open Go Go.V Go.Proofs
theorem Buf.own {v:Value} {kb:zb} {l:List UInt8} (h:Buf v kb l) (hl:0<l.length): ∃b cap sp,v= .slice (some ⟨b,0,none⟩) l.length cap∧kb=[(b, .cells (l.map zB) sp 5)]∧l.length+sp.length=cap:=by
 rcases h with ⟨a,rfl,hn0,hx,rfl⟩| ⟨b,cap,sp,rfl,rfl,hx,hc⟩
 ·omega
 ·rw[List.length_map,Nat.mul_one] at hc;exact⟨b,cap,sp,rfl,rfl,hc⟩
theorem Buf.mk {l:List UInt8} {b cap:Nat} {sp:List Value} (h:l.length+sp.length=cap):Buf (.slice (some ⟨b,0,none⟩) l.length cap) [(b, .cells (l.map zB) sp 5)] l:=
 .inr ⟨b,cap,sp,rfl,rfl,by rw[List.length_map,Nat.mul_one],by rw[List.length_map,Nat.mul_one];exact h⟩
theorem OpenD.ofAt {G:za} {d:DfaT} {C:List Value} {an al ay:Option Addr} {cn cl cs:Nat} {rs:List Value} (O:OpenD G d C an al ay cn cl cs rs) {c:Nat} (hc:c<256): ∃y:Nat,y<256∧d.of.getD c 0=(y:Nat)∧C[c]? =some (.int .u8 (y:Nat)):=by
 have hcd:c<d.of.length:=by rw[O.ofl];exact hc
 have hb:=O.ofb _ (List.getElem_mem hcd)
 obtain⟨y,hy⟩:=Int.eq_ofNat_of_zero_le hb.1
 refine⟨y,by omega,by rw[List.getD_eq_getElem?_getD,List.getElem?_eq_getElem hcd];exact hy,?_⟩
 have h1:(C.take 256)[c]? =C[c]? :=by rw[List.getElem?_take,if_pos hc]
 rw[←h1,O.of]
 unfold u8L
 rw[List.getElem?_map,List.getElem?_eq_getElem hcd,hy];rfl
theorem zr9 {d:DfaT} (hsm:zx d) (hok:zc d) {G:za} {H:zb} {R:Value→za→zb→Prop} {v:Value} (hv:IsD G d v) (hR: ∀v' kb',Buf v' kb' (zaJ d)→Sep G (zm (kb'++H))→R v' G (kb'++H)):FnT Tryz.prog 16 [v] G H R:=by
 obtain⟨C,an,al,ay,cn,cl,cs,rs,rfl,O⟩:=hv.opened
 obtain⟨hm1,hm2,hm3,hm4,hm5⟩:=id hsm
 obtain⟨hk1,hk2,hk3,hk4,hk5,hk6,hk7⟩:=id hok
 have hCl:=O.len
 have hCa:=O.all
 have hCn:=O.n
 have hCx:=O.l
 have hCs:=O.s
 have hnm:=zg9 hok
 have hbl:=ziV hok O.ofl
 have hr4: ∀x:Value,List.replicate 4 x=[x,x,x,x]:=fun _=>rfl
 refine FnT.sep ?_
 refine FnT.body tok [0,1,2,3,5,6,7,8,9,11,19,20,21,22,32,33,48,70,71,72,73,84,85,86,87] Tryz.func16 rfl Kk Kk (by show _≤100;simp) fun hsep=>?_
 rw[Tryz.results16]
 have hE:=hsep
 try simp only[zzs] at hE
 repeat(obtain⟨hx',hE⟩:=hE)
 repeat' first
  |with_reducible first|refine Nx.go ?_ |refine Bk.go (fun _=>?_) fun _=>?_ |refine Nb fun nb hnb hnb1 hnb2=>?_ |refine Nr fun nb nsp ncap hnb hncap hnb1 hnb2=>?_
  |simp -dsimp -implicitDefEqProofs (disch:=first|exact Kd|fail) only[go_sem,↓reduceIte,seval, -List.reduceReplicate,List.toList_toArray,hCl,hCa,hCs,hr4]
 rename_i b1 hb1 hb11 hb12
 have hb0:Buf (.slice (some ⟨nb,0,none⟩) 4 4) [(nb, .cells [Value.int .u8 68,Value.int .u8 66,Value.int .u8 76,Value.int .u8 49] [] 5)] zcs:= .inr ⟨nb,4,[],rfl,rfl,rfl,rfl⟩
 refine zfa (many:=1) (by decide) Ko Ko hb0 fun v1 kb1 hbf1 hs1=>?_
 obtain⟨l1,hl1⟩: ∃l,l=zcs++beB 1 d.names.length:=⟨_,rfl⟩
 have hl1l:l1.length=5:=by rw[hl1,List.length_append,zaZ];rfl
 rw[←hl1] at hbf1
 obtain⟨x1,c1,sp1,rfl,rfl,hc1⟩:=hbf1.own Ko
 have hE:=hs1
 try simp only[zzs] at hE
 repeat(obtain⟨hx',hE⟩:=hE)
 repeat' first
  |with_reducible first|refine Nx.go ?_ |refine Bk.go (fun _=>?_) fun _=>?_ |refine Nb fun nb hnb hnb1 hnb2=>?_ |refine Nr fun nb nsp ncap hnb hncap hnb1 hnb2=>?_
  |simp -dsimp -implicitDefEqProofs (disch:=first|exact Kd|fail) only[go_sem,↓reduceIte,seval, -List.reduceReplicate,List.toList_toArray,hCl,hCa,hCs]
 have hnl:=zfL d.names hnm.2
 refine Tri.loopU tok [0,1,2,3,5,6,7,8,9,11,19,20,21,22,32,33,48,70,71,72,73,84,85,86,87] Kk [1,2,3,19,20,21] (fun q G' fr H'=> ∃ (i:Nat) (v:Value) (kb:zb),i+q=d.names.length∧G'=G∧Buf v kb (l1++zbB (d.names.take i))∧H'=kb++((b1, .cells C [] 27)::H)∧fr=[(1, .pointer (some ⟨b1,0,none⟩)),(2, .slice none 0 0),(3,v),(19, .slice ay d.names.length cs),(20, .int .i64 d.names.length),(21, .int .i64 (i:Nat))]) (d.names.length) ?_ ?_
 ·exact Upd.now ⟨0,_,_,by omega,rfl,by rw[List.take_zero];show Buf _ _ (l1++[]);rw[List.append_nil];exact hbf1,rfl,rfl⟩
 ·rintro q G1 fr H' hle hs2 ⟨i,v,kb,hiq,rfl,hbf,rfl,rfl⟩
  by_cases hil:i<d.names.length
  ·have had:Adr ay:=O.ry.adr (by rw[List.length_map];omega)
   have hsl:=hnm.2 _ (List.getElem_mem hil)
   have hle1:(zbB (d.names.take i)).length≤33 * (d.names.take i).length:=zfL _ fun x hx=>hnm.2 x (List.mem_of_mem_take hx)
   rw[List.length_take] at hle1
   obtain⟨p,hp⟩: ∃p,p=l1++zbB (d.names.take i):=⟨_,rfl⟩
   have hpl:p.length≤5+33 * 64∧0<p.length:=by rw[hp,List.length_append];omega
   have hnext:l1++zbB (d.names.take (i+1))=(p++beB 1 (d.names[i]).length)++d.names[i]:=by rw[zpY _ hil,hp];unfold zjx;simp only[List.append_assoc]
   rw[←hp] at hbf
   have hx'0:=hs2
   have hE:=hs2
   try simp only[zzs] at hE
   repeat(obtain⟨hx',hE⟩:=hE)
   repeat' first
    |with_reducible first|refine Nx.go ?_ |refine Bk.go (fun _=>?_) fun _=>?_ |refine Nb fun nb hnb hnb1 hnb2=>?_ |refine Nr fun nb nsp ncap hnb hncap hnb1 hnb2=>?_
    |simp -dsimp -implicitDefEqProofs (disch:=first|exact Kd|fail) only[go_sem,↓reduceIte,seval, -List.reduceReplicate,Row.obj O.ry,List.getElem_map]
   refine zfa (many:=1) Ko Ko Ko hbf fun v2 kb2 hbf2 hs3=>?_
   obtain⟨p2,hp2⟩: ∃p2,p2=p++beB 1 (d.names[i]).length:=⟨_,rfl⟩
   have hp2l:p2.length=p.length+1:=by rw[hp2,List.length_append,zaZ]
   rw[←hp2] at hbf2 hnext
   obtain⟨x2,c2,sp2,rfl,rfl,hc2⟩:=hbf2.own Ko
   have hE:=hs3
   try simp only[zzs] at hE
   repeat(obtain⟨hx',hE⟩:=hE)
   repeat' first
    |with_reducible first|refine Nx.go ?_ |refine Bk.go (fun _=>?_) fun _=>?_ |refine Nb fun nb hnb hnb1 hnb2=>?_ |refine Nr fun nb nsp ncap hnb hncap hnb1 hnb2=>?_
    |simp -dsimp -implicitDefEqProofs (disch:=first|exact Kd|fail) only[go_sem,↓reduceIte,seval, -List.reduceReplicate,List.length_map]
   refine Upd.go (H':=[(nb, .cells (p2.map zB++(d.names[i]).map zB) nsp 5)]++((b1, .cells C [] 27)::H)) Ks (Upd.now ⟨q - 1,by omega,i+1,_,_,by omega,rfl,?_,rfl,rfl⟩)
   rw[hnext]
   exact .inr ⟨nb,ncap,nsp,by rw[List.length_append],by rw[List.map_append],by simp,by simp at hncap⊢;omega⟩
  ·obtain rfl:i=d.names.length:=by omega
   rw[List.take_length] at hbf
   obtain⟨p1,hp1⟩: ∃p,p=l1++zbB d.names:=⟨_,rfl⟩
   have hp1l:p1.length≤5+33 * 64∧0<p1.length:=by rw[hp1,List.length_append];omega
   rw[←hp1] at hbf
   repeat' first
    |with_reducible first|refine Nx.go ?_ |refine Bk.go (fun _=>?_) fun _=>?_ |refine Nb fun nb hnb hnb1 hnb2=>?_ |refine Nr fun nb nsp ncap hnb hncap hnb1 hnb2=>?_
    |simp -dsimp -implicitDefEqProofs (disch:=first|exact Kd|fail) only[go_sem,↓reduceIte,seval, -List.reduceReplicate]
   refine Tri.loopU tok [0,1,2,3,5,6,7,8,9,11,19,20,21,22,32,33,48,70,71,72,73,84,85,86,87] Kk [1,2,3,6,32] (fun q G' fr H'=> ∃ (c fm:Nat) (v:Value) (kb:zb),c+q=256∧G'=G1∧fm≤256∧(c<256→fm=zbb d.of c)∧Buf v kb (p1++zbt d.of c)∧H'=kb++((b1, .cells C [] 27)::H)∧fr=[(1, .pointer (some ⟨b1,0,none⟩)),(2, .slice none 0 0),(3,v),(6, .int .i64 (fm:Nat)),(32, .int .i64 (c:Nat))]) (256) ?_ ?_
   ·exact Upd.now ⟨0,0,v,kb,by omega,rfl,by omega,fun _=>rfl,by show Buf _ _ (p1++[]);rw[List.append_nil];exact hbf,rfl,rfl⟩
   ·rintro q G2 fr H' hle3 hs4 ⟨c,fm,v,kb,hcq,rfl,hfm,hfs,hbf,rfl,rfl⟩
    have hrl:=ziU d.of c
    obtain⟨p,hp⟩: ∃p,p=p1++zbt d.of c:=⟨_,rfl⟩
    have hpl:p.length≤5+33 * 64+512∧0<p.length:=by rw[hp,List.length_append];omega
    by_cases hcl:c<256
    ·have hfs:=hfs hcl
     have hsle:=zmJ d.of c
     obtain⟨y,hy1,hy2,hy3⟩:=O.ofAt hcl
     have hnext:p1++zbt d.of (c+1)=p++emL d.of c:=by rw[zeE,hp,List.append_assoc]
     rw[←hp] at hbf
     by_cases hem:c=255∨d.of.getD (c+1) 0≠d.of.getD c 0
     ·have hemv:emL d.of c=beB 1 y++beB 1 (c - fm):=by unfold emL;rw[if_pos hem,hy2,←hfs];simp only[Int.toNat_natCast]
      have hyw:IntKind.i64.wrap ((y:Nat):Int)=(y:Nat):=wrap_i64 Ko Ko
      have hsub:((c:Nat):Int) - (fm:Nat)=((c - fm:Nat):Int):=by omega
      obtain⟨x2,c2,sp2,rfl,rfl,hc2⟩:=hbf.own Ko
      have hE:=hs4
      try simp only[zzs] at hE
      repeat(obtain⟨hx',hE⟩:=hE)
      by_cases h255:c=255
      ·subst h255
       have hsub5:(255 :Int) - (fm:Nat)=((255 - fm:Nat):Int):=by omega
       repeat' first
        |with_reducible first|refine Nx.go ?_ |refine Bk.go (fun _=>?_) fun _=>?_ |refine Nb fun nb hnb hnb1 hnb2=>?_ |refine Nr fun nb nsp ncap hnb hncap hnb1 hnb2=>?_
        |with_reducible refine Tri.drawH tok mixed [0,1,2,3,5,6,7,8,9,11,19,20,21,22,32,33,48,70,71,72,73,84,85,86,87] 11 [7,11] (.op 0 .plain (.op 1 .plain (.op 2 .plain (.op 3 .plain (.op 4 .plain (.op 5 .plain (.op 6 .plain (.op 7 .held (.op 8 .plain (.op 9 .plain (.op 10 .plain (.op 11 .held (.op 12 .plain (.op 13 .plain .nil)))))))))))))) Kk [1] ?_
        |simp -dsimp -implicitDefEqProofs (disch:=first|exact Kd|fail) only[go_sem,↓reduceIte,seval, -List.reduceReplicate,hCl,hy3,hyw,hsub,hsub5]
       refine zfa (many:=1) Ko Ko Ko hbf fun v3 kb3 hbf3 hs5=>?_
       obtain⟨x3,c3,sp3,rfl,rfl,hc3⟩:=hbf3.own (by rw[List.length_append];omega)
       have hE:=hs5
       try simp only[zzs] at hE
       repeat(obtain⟨hx',hE⟩:=hE)
       repeat' first
        |with_reducible first|refine Nx.go ?_ |refine Bk.go (fun _=>?_) fun _=>?_ |refine Nb fun nb hnb hnb1 hnb2=>?_ |refine Nr fun nb nsp ncap hnb hncap hnb1 hnb2=>?_
        |with_reducible refine Tri.drawH tok mixed [0,1,2,3,5,6,7,8,9,11,19,20,21,22,32,33,48,70,71,72,73,84,85,86,87] 11 [7,11] (.op 0 .plain (.op 1 .plain (.op 2 .plain (.op 3 .plain (.op 4 .plain (.op 5 .plain (.op 6 .plain (.op 7 .held (.op 8 .plain (.op 9 .plain (.op 10 .plain (.op 11 .held (.op 12 .plain (.op 13 .plain .nil)))))))))))))) Kk [1] ?_
        |simp -dsimp -implicitDefEqProofs (disch:=first|exact Kd|fail) only[go_sem,↓reduceIte,seval, -List.reduceReplicate,hCl,hy3,hyw,hsub,hsub5]
       refine zfa (many:=1) (by rw[List.length_append,zaZ];omega) Ko Ko hbf3 fun v4 kb4 hbf4 hs6=>?_
       obtain⟨x4,c4,sp4,rfl,rfl,hc4⟩:=hbf4.own (by rw[List.length_append,List.length_append];omega)
       have hE:=hs6
       try simp only[zzs] at hE
       repeat(obtain⟨hx',hE⟩:=hE)
       repeat' first
        |with_reducible first|refine Nx.go ?_ |refine Bk.go (fun _=>?_) fun _=>?_ |refine Nb fun nb hnb hnb1 hnb2=>?_ |refine Nr fun nb nsp ncap hnb hncap hnb1 hnb2=>?_
        |with_reducible refine Tri.drawH tok mixed [0,1,2,3,5,6,7,8,9,11,19,20,21,22,32,33,48,70,71,72,73,84,85,86,87] 11 [7,11] (.op 0 .plain (.op 1 .plain (.op 2 .plain (.op 3 .plain (.op 4 .plain (.op 5 .plain (.op 6 .plain (.op 7 .held (.op 8 .plain (.op 9 .plain (.op 10 .plain (.op 11 .held (.op 12 .plain (.op 13 .plain .nil)))))))))))))) Kk [1] ?_
        |simp -dsimp -implicitDefEqProofs (disch:=first|exact Kd|fail) only[go_sem,↓reduceIte,seval, -List.reduceReplicate,hCl]
       refine Upd.now ⟨q - 1,by omega,255+1,255+1,_,[(x4, .cells ((p++beB 1 y++beB 1 (255 - fm)).map zB) sp4 5)],by omega,rfl,by omega,fun h=>by omega,?_,rfl,rfl⟩
       rw[hnext,hemv,←List.append_assoc]
       exact hbf4
      ·obtain⟨z,hz1,hz2,hz3⟩:=O.ofAt (c:=c+1) Ko
       have hzy: ¬(z:Int)=y:=by rcases hem with h|h;exact absurd h h255;rw[hz2,hy2] at h;exact h
       repeat' first
        |with_reducible first|refine Nx.go ?_ |refine Bk.go (fun _=>?_) fun _=>?_ |refine Nb fun nb hnb hnb1 hnb2=>?_ |refine Nr fun nb nsp ncap hnb hncap hnb1 hnb2=>?_
        |with_reducible refine Tri.drawH tok mixed [0,1,2,3,5,6,7,8,9,11,19,20,21,22,32,33,48,70,71,72,73,84,85,86,87] 11 [7,11] (.op 0 .plain (.op 1 .plain (.op 2 .plain (.op 3 .plain (.op 4 .plain (.op 5 .plain (.op 6 .plain (.op 7 .held (.op 8 .plain (.op 9 .plain (.op 10 .plain (.op 11 .held (.op 12 .plain (.op 13 .plain .nil)))))))))))))) Kk [1] ?_
        |simp -dsimp -implicitDefEqProofs (disch:=first|exact Kd|fail) only[go_sem,↓reduceIte,seval, -List.reduceReplicate,hCl,hy3,hyw,hsub,hz3]
       refine zfa (many:=1) Ko Ko Ko hbf fun v3 kb3 hbf3 hs5=>?_
       obtain⟨x3,c3,sp3,rfl,rfl,hc3⟩:=hbf3.own (by rw[List.length_append];omega)
       have hE:=hs5
       try simp only[zzs] at hE
       repeat(obtain⟨hx',hE⟩:=hE)
       repeat' first
        |with_reducible first|refine Nx.go ?_ |refine Bk.go (fun _=>?_) fun _=>?_ |refine Nb fun nb hnb hnb1 hnb2=>?_ |refine Nr fun nb nsp ncap hnb hncap hnb1 hnb2=>?_
        |with_reducible refine Tri.drawH tok mixed [0,1,2,3,5,6,7,8,9,11,19,20,21,22,32,33,48,70,71,72,73,84,85,86,87] 11 [7,11] (.op 0 .plain (.op 1 .plain (.op 2 .plain (.op 3 .plain (.op 4 .plain (.op 5 .plain (.op 6 .plain (.op 7 .held (.op 8 .plain (.op 9 .plain (.op 10 .plain (.op 11 .held (.op 12 .plain (.op 13 .plain .nil)))))))))))))) Kk [1] ?_
        |simp -dsimp -implicitDefEqProofs (disch:=first|exact Kd|fail) only[go_sem,↓reduceIte,seval, -List.reduceReplicate,hCl,hy3,hyw,hsub]
       refine zfa (many:=1) (by rw[List.length_append,zaZ];omega) Ko Ko hbf3 fun v4 kb4 hbf4 hs6=>?_
       obtain⟨x4,c4,sp4,rfl,rfl,hc4⟩:=hbf4.own (by rw[List.length_append,List.length_append];omega)
       have hE:=hs6
       try simp only[zzs] at hE
       repeat(obtain⟨hx',hE⟩:=hE)
       repeat' first
        |with_reducible first|refine Nx.go ?_ |refine Bk.go (fun _=>?_) fun _=>?_ |refine Nb fun nb hnb hnb1 hnb2=>?_ |refine Nr fun nb nsp ncap hnb hncap hnb1 hnb2=>?_
        |with_reducible refine Tri.drawH tok mixed [0,1,2,3,5,6,7,8,9,11,19,20,21,22,32,33,48,70,71,72,73,84,85,86,87] 11 [7,11] (.op 0 .plain (.op 1 .plain (.op 2 .plain (.op 3 .plain (.op 4 .plain (.op 5 .plain (.op 6 .plain (.op 7 .held (.op 8 .plain (.op 9 .plain (.op 10 .plain (.op 11 .held (.op 12 .plain (.op 13 .plain .nil)))))))))))))) Kk [1] ?_
        |simp -dsimp -implicitDefEqProofs (disch:=first|exact Kd|fail) only[go_sem,↓reduceIte,seval, -List.reduceReplicate,hCl]
       refine Upd.now ⟨q - 1,by omega,c+1,c+1,_,[(x4, .cells ((p++beB 1 y++beB 1 (c - fm)).map zB) sp4 5)],by omega,rfl,by omega,fun h=>by show c+1=zbb d.of (c+1);unfold zbb;rw[if_pos (hem.resolve_left h255)],?_,rfl,rfl⟩
       rw[hnext,hemv,←List.append_assoc]
       exact hbf4
     ·have hc5:c≠255:=fun h=>hem (Or.inl h)
      have heq:d.of.getD (c+1) 0=d.of.getD c 0:=Classical.byContradiction fun h=>hem (Or.inr h)
      obtain⟨z,hz1,hz2,hz3⟩:=O.ofAt (c:=c+1) Ko
      have hzy:z=y:=by rw[hz2,hy2] at heq;omega
      subst hzy
      have hemv:emL d.of c=[]:=by unfold emL;rw[if_neg hem]
      obtain⟨x2,c2,sp2,rfl,rfl,hc2⟩:=hbf.own Ko
      have hE:=hs4
      try simp only[zzs] at hE
      repeat(obtain⟨hx',hE⟩:=hE)
      repeat' first
       |with_reducible first|refine Nx.go ?_ |refine Bk.go (fun _=>?_) fun _=>?_ |refine Nb fun nb hnb hnb1 hnb2=>?_ |refine Nr fun nb nsp ncap hnb hncap hnb1 hnb2=>?_
       |with_reducible refine Tri.drawH tok mixed [0,1,2,3,5,6,7,8,9,11,19,20,21,22,32,33,48,70,71,72,73,84,85,86,87] 11 [7,11] (.op 0 .plain (.op 1 .plain (.op 2 .plain (.op 3 .plain (.op 4 .plain (.op 5 .plain (.op 6 .plain (.op 7 .held (.op 8 .plain (.op 9 .plain (.op 10 .plain (.op 11 .held (.op 12 .plain (.op 13 .plain .nil)))))))))))))) Kk [1] ?_
       |simp -dsimp -implicitDefEqProofs (disch:=first|exact Kd|fail) only[go_sem,↓reduceIte,seval, -List.reduceReplicate,hCl,hy3,hz3]
      refine Upd.now ⟨q - 1,by omega,c+1,fm,_,[(x2, .cells (p.map zB) sp2 5)],by omega,rfl,hfm,fun h=>by rw[hfs];show zbb d.of c=zbb d.of (c+1);rw[show zbb d.of (c+1)=if d.of.getD (c+1) 0≠d.of.getD c 0 then c+1 else zbb d.of c from rfl,if_neg (by rw[heq];simp)],?_,rfl,rfl⟩
      rw[hnext,hemv,List.append_nil]
      exact hbf
    ·obtain rfl:c=256:=by omega
     rw[←hp] at hbf
     obtain⟨x2,c2,sp2,rfl,rfl,hc2⟩:=hbf.own Ko
     have hE:=hs4
     try simp only[zzs] at hE
     repeat(obtain⟨hx',hE⟩:=hE)
     have hlsub:((d.label.length:Nat):Int) - 1=((d.label.length - 1 :Nat):Int):=by omega
     repeat' first
      |with_reducible first|refine Nx.go ?_ |refine Bk.go (fun _=>?_) fun _=>?_ |refine Nb fun nb hnb hnb1 hnb2=>?_ |refine Nr fun nb nsp ncap hnb hncap hnb1 hnb2=>?_
      |with_reducible refine Tri.drawH tok mixed [0,1,2,3,5,6,7,8,9,11,19,20,21,22,32,33,48,70,71,72,73,84,85,86,87] 11 [7,11] (.op 0 .plain (.op 1 .plain (.op 2 .plain (.op 3 .plain (.op 4 .plain (.op 5 .plain (.op 6 .plain (.op 7 .held (.op 8 .plain (.op 9 .plain (.op 10 .plain (.op 11 .held (.op 12 .plain (.op 13 .plain .nil)))))))))))))) Kk [1] ?_
      |simp -dsimp -implicitDefEqProofs (disch:=first|exact Kd|fail) only[go_sem,↓reduceIte,seval, -List.reduceReplicate,hCl,hCx,hlsub]
     refine zfa (many:=2) Ko Ko Ko hbf fun v5 kb5 hbf5 hs5=>?_
     obtain⟨p5,hp5⟩: ∃p5,p5=p++beB 2 (d.label.length - 1):=⟨_,rfl⟩
     have hp5l:p5.length=p.length+2:=by rw[hp5,List.length_append,zaZ]
     rw[←hp5] at hbf5
     obtain⟨x5,c5,sp5,rfl,rfl,hc5⟩:=hbf5.own Ko
     have hE:=hs5
     try simp only[zzs] at hE
     repeat(obtain⟨hx',hE⟩:=hE)
     repeat' first
      |with_reducible first|refine Nx.go ?_ |refine Bk.go (fun _=>?_) fun _=>?_ |refine Nb fun nb hnb hnb1 hnb2=>?_ |refine Nr fun nb nsp ncap hnb hncap hnb1 hnb2=>?_
      |with_reducible refine Tri.drawH tok mixed [0,1,2,3,5,6,7,8,9,11,19,20,21,22,32,33,48,70,71,72,73,84,85,86,87] 11 [7,11] (.op 0 .plain (.op 1 .plain (.op 2 .plain (.op 3 .plain (.op 4 .plain (.op 5 .plain (.op 6 .plain (.op 7 .held (.op 8 .plain (.op 9 .plain (.op 10 .plain (.op 11 .held (.op 12 .plain (.op 13 .plain .nil)))))))))))))) Kk [1] ?_
      |simp -dsimp -implicitDefEqProofs (disch:=first|exact Kd|fail) only[go_sem,↓reduceIte,seval, -List.reduceReplicate,hCl,hCn]
     have hrnl:=O.rnl
     refine Tri.loopU tok [0,1,2,3,5,6,7,8,9,11,19,20,21,22,32,33,48,70,71,72,73,84,85,86,87] Kk [1,2,3,70,71,72] (fun q G' fr H'=> ∃ (k:Nat) (v:Value) (kb:zb),k+q=d.next.length∧G'=G2∧Buf v kb (p5++zdk d k)∧H'=kb++((b1, .cells C [] 27)::H)∧fr=[(1, .pointer (some ⟨b1,0,none⟩)),(2, .slice none 0 0),(3,v),(70, .slice an d.next.length cn),(71, .int .i64 d.next.length),(72, .int .i64 (k:Nat))]) (d.next.length) ?_ ?_
     ·exact Upd.now ⟨0,_,[(x5, .cells (p5.map zB) sp5 5)],by omega,rfl,by show Buf _ _ (p5++[]);rw[List.append_nil];exact hbf5,rfl,rfl⟩
     ·rintro q G3 fr H' hle4 hs6 ⟨k,v,kb,hkq,rfl,hbf,rfl,rfl⟩
      obtain⟨p6,hp6⟩: ∃p6,p6=p5++zdk d k:=⟨_,rfl⟩
      have hstl:=zha hok O.ofl k Ko
      have hp6l:p6.length≤50000000∧0<p6.length:=by rw[hp6,List.length_append];omega
      rw[←hp6] at hbf
      obtain⟨x6,c6,sp6,rfl,rfl,hc6⟩:=hbf.own Ko
      have hE:=hs6
      try simp only[zzs] at hE
      repeat(obtain⟨hx',hE⟩:=hE)
      by_cases hkl:k<d.next.length
      ·have had:Adr an:=O.rn.adr Ko
       obtain⟨b,cc,e1,e2,e3⟩:=O.rs k hkl Ko
       obtain⟨hw1,hw2,hw3,hw4⟩:=hk7 k hkl Ko
       have hkl2:k<d.label.length:=by omega
       have had2:Adr al:=O.rl.adr (by rw[List.length_map];omega)
       have hww:=zjX hok O.ofl
       obtain⟨lb,hlb⟩:=Int.eq_ofNat_of_zero_le hw2
       have hse:=ztQ hkl hkl2
       rw[hlb,Int.toNat_natCast] at hse
       obtain⟨row,hrow⟩: ∃row,row=d.next[k]:=⟨_,rfl⟩
       rw[←hrow] at e1 e2 e3 hw1 hw4 hse
       have hnext:p5++zdk d (k+1)=(p6++beB 1 lb)++zef row:=by rw[ziT,hse,hp6];simp only[List.append_assoc]
       repeat' first
        |with_reducible first|refine Nx.go ?_ |refine Bk.go (fun _=>?_) fun _=>?_ |refine Nb fun nb hnb hnb1 hnb2=>?_ |refine Nr fun nb nsp ncap hnb hncap hnb1 hnb2=>?_
        |simp -dsimp -implicitDefEqProofs (disch:=first|exact Kd|fail) only[go_sem,↓reduceIte,seval, -List.reduceReplicate,hCl,hCx,Row.obj O.rn,e1,Row.obj O.rl,List.getElem_map,hlb]
       refine zfa (many:=1) Ko Ko Ko hbf fun v7 kb7 hbf7 hs7=>?_
       obtain⟨p7,hp7⟩: ∃p7,p7=p6++beB 1 lb:=⟨_,rfl⟩
       have hp7l:p7.length=p6.length+1:=by rw[hp7,List.length_append,zaZ]
       rw[←hp7] at hbf7 hnext
       obtain⟨x7,c7,sp7,rfl,rfl,hc7⟩:=hbf7.own Ko
       have hE:=hs7
       try simp only[zzs] at hE
       repeat(obtain⟨hx',hE⟩:=hE)
       repeat' first
        |with_reducible first|refine Nx.go ?_ |refine Bk.go (fun _=>?_) fun _=>?_ |refine Nb fun nb hnb hnb1 hnb2=>?_ |refine Nr fun nb nsp ncap hnb hncap hnb1 hnb2=>?_
        |simp -dsimp -implicitDefEqProofs (disch:=first|exact Kd|fail) only[go_sem,↓reduceIte,seval, -List.reduceReplicate,hCl]
       refine Tri.loopU tok [0,1,2,3,5,6,7,8,9,11,19,20,21,22,32,33,48,70,71,72,73,84,85,86,87] Kk [1,2,3,70,71,72,84,85,86] (fun q2 G' fr H'=> ∃ (j:Nat) (v:Value) (kb:zb),j+q2=row.length∧G'=G3∧Buf v kb (p7++zef (row.take j))∧H'=kb++((b1, .cells C [] 27)::H)∧fr=[(1, .pointer (some ⟨b1,0,none⟩)),(2, .slice none 0 0),(3,v),(70, .slice an d.next.length cn),(71, .int .i64 d.next.length),(72, .int .i64 (k:Nat)),(84, .slice b row.length cc),(85, .int .i64 row.length),(86, .int .i64 (j:Nat))]) (row.length) ?_ ?_
       ·exact Upd.now ⟨0,_,[(x7, .cells (p7.map zB) sp7 5)],by omega,rfl,by rw[List.take_zero];show Buf _ _ (p7++[]);rw[List.append_nil];exact hbf7,rfl,rfl⟩
       ·rintro q2 G4 fr H' hle5 hs8 ⟨j,v,kb,hjq,rfl,hbf,rfl,rfl⟩
        have hrl:=zkm (row.take j)
        rw[List.length_take] at hrl
        obtain⟨p8,hp8⟩: ∃p8,p8=p7++zef (row.take j):=⟨_,rfl⟩
        have hp8l:p8.length≤100000000∧0<p8.length:=by rw[hp8,List.length_append];omega
        by_cases hjl:j<row.length
        ·have hadb:Adr b:=e2.adr (by rw[List.length_map];omega)
         have ht:=hw4 _ (List.getElem_mem hjl)
         obtain⟨t,htn⟩:=Int.eq_ofNat_of_zero_le ht.1
         have hnx:=ztP row hjl
         rw[htn,Int.toNat_natCast] at hnx
         rw[←hp8] at hbf
         obtain⟨x8,c8,sp8,rfl,rfl,hc8⟩:=hbf.own Ko
         have hE:=hs8
         try simp only[zzs] at hE
         repeat(obtain⟨hx',hE⟩:=hE)
         repeat' first
          |with_reducible first|refine Nx.go ?_ |refine Bk.go (fun _=>?_) fun _=>?_ |refine Nb fun nb hnb hnb1 hnb2=>?_ |refine Nr fun nb nsp ncap hnb hncap hnb1 hnb2=>?_
          |simp -dsimp -implicitDefEqProofs (disch:=first|exact Kd|fail) only[go_sem,↓reduceIte,seval, -List.reduceReplicate,Row.obj e2,List.getElem_map,htn]
         refine zfa (many:=2) Ko Ko Ko hbf fun v9 kb9 hbf9 hs9=>?_
         obtain⟨x9,c9,sp9,rfl,rfl,hc9⟩:=hbf9.own (by rw[List.length_append];omega)
         have hE:=hs9
         try simp only[zzs] at hE
         repeat(obtain⟨hx',hE⟩:=hE)
         repeat' first
          |with_reducible first|refine Nx.go ?_ |refine Bk.go (fun _=>?_) fun _=>?_ |refine Nb fun nb hnb hnb1 hnb2=>?_ |refine Nr fun nb nsp ncap hnb hncap hnb1 hnb2=>?_
          |simp -dsimp -implicitDefEqProofs (disch:=first|exact Kd|fail) only[go_sem,↓reduceIte,seval, -List.reduceReplicate]
         refine Upd.now ⟨q2 - 1,by omega,j+1,_,[(x9, .cells ((p8++beB 2 t).map zB) sp9 5)],by omega,rfl,?_,rfl,rfl⟩
         rw[hnx,←List.append_assoc,←hp8]
         exact hbf9
        ·obtain rfl:j=row.length:=by omega
         rw[List.take_length] at hp8
         rw[List.take_length,←hp8] at hbf
         obtain⟨x8,c8,sp8,rfl,rfl,hc8⟩:=hbf.own Ko
         have hE:=hs8
         try simp only[zzs] at hE
         repeat(obtain⟨hx',hE⟩:=hE)
         repeat' first
          |with_reducible first|refine Nx.go ?_ |refine Bk.go (fun _=>?_) fun _=>?_ |refine Nb fun nb hnb hnb1 hnb2=>?_ |refine Nr fun nb nsp ncap hnb hncap hnb1 hnb2=>?_
          |simp -dsimp -implicitDefEqProofs (disch:=first|exact Kd|fail) only[go_sem,↓reduceIte,seval, -List.reduceReplicate]
         refine Upd.now ⟨q - 1,by omega,k+1,_,[(x8, .cells (p8.map zB) sp8 5)],by omega,rfl,?_,rfl,rfl⟩
         rw[hnext,←hp8]
         exact hbf
      ·obtain rfl:k=d.next.length:=by omega
       have hbody:p6=za5 d:=by rw[hp6,hp5,hp,hp1,hl1,hk3];rfl
       have hsum:=zhl (za5 d)
       rw[hbody] at hbf hs6 hc6 hp6l⊢
       have hwr:IntKind.i64.wrap ((zcR (za5 d):Nat):Int)=(zcR (za5 d):Nat):=wrap_i64 Ko Ko
       repeat' first
        |with_reducible first|refine Nx.go ?_ |refine Bk.go (fun _=>?_) fun _=>?_ |refine Nb fun nb hnb hnb1 hnb2=>?_ |refine Nr fun nb nsp ncap hnb hncap hnb1 hnb2=>?_
        |simp -dsimp -implicitDefEqProofs (disch:=first|exact Kd|fail) only[go_sem,↓reduceIte,seval, -List.reduceReplicate]
       refine zxY Ko ?_
       repeat' first
        |with_reducible first|refine Nx.go ?_ |refine Bk.go (fun _=>?_) fun _=>?_ |refine Nb fun nb hnb hnb1 hnb2=>?_ |refine Nr fun nb nsp ncap hnb hncap hnb1 hnb2=>?_
        |simp -dsimp -implicitDefEqProofs (disch:=first|exact Kd|fail) only[go_sem,↓reduceIte,seval, -List.reduceReplicate,hwr]
       refine zfa (many:=4) Ko Ko Ko hbf fun v9 kb9 hbf9 hs9=>?_
       obtain⟨x9,c9,sp9,rfl,rfl,hc9⟩:=hbf9.own (by rw[List.length_append];omega)
       have hE:=hs9
       try simp only[zzs] at hE
       repeat(obtain⟨hx',hE⟩:=hE)
       repeat' first
        |with_reducible first|refine Nx.go ?_ |refine Bk.go (fun _=>?_) fun _=>?_ |refine Nb fun nb hnb hnb1 hnb2=>?_ |refine Nr fun nb nsp ncap hnb hncap hnb1 hnb2=>?_
        |simp -dsimp -implicitDefEqProofs (disch:=first|exact Kd|fail) only[go_sem,↓reduceIte,seval, -List.reduceReplicate]
       unfold zv
       refine Upd.leave (H':=[(x9, .cells ((za5 d++beB 4 (zcR (za5 d))).map zB) sp9 5)]++H) Ks ?_
       exact fun _ hs=>hR _ _ hbf9 hs
end Go.Proofs.YtomdbjfdbkejoaaGreatDoor
namespace Go.Proofs.YtomdbjfdbkejoaaGreatDoor
open Go Go.V Go.Proofs
theorem zqD {l:List Int} {c n:Nat} (hs:zbb l c=c) (hn:n≤256) (heq: ∀i,c≤i→i<n→l.getD i 0=l.getD c 0): ∀m,c+m<n→zbb l (c+m)=c∧zbt l (c+m)=zbt l c
 |0,_=>⟨hs,rfl⟩
 |m+1,h=>by
  obtain⟨h1,h2⟩:=zqD hs hn heq m Ko
  have e1:=heq (c+m) Ko Ko
  have e2:=heq (c+m+1) Ko Ko
  refine⟨?_,?_⟩
  ·show zbb l (c+m+1)=c
   rw[show zbb l (c+m+1)=if l.getD (c+m+1) 0≠l.getD (c+m) 0 then c+m+1 else zbb l (c+m) from rfl,if_neg (by rw[e1,e2];simp),h1]
  ·show zbt l (c+m+1)=_
   rw[zeE,h2]
   unfold emL
   rw[if_neg (by rw[e1,e2];simp;omega),List.append_nil]
theorem zxZ {l:List Int} {c n:Nat} (hs:zbb l c=c) (hcn:c<n) (hn:n≤256) (heq: ∀i,c≤i→i<n→l.getD i 0=l.getD c 0) (hend:n=256∨l.getD n 0≠l.getD c 0):
  zbt l n=zbt l c++(beB 1 (l.getD c 0).toNat++beB 1 (n - c - 1))∧(n<256→zbb l n=n):=by
 obtain⟨m,rfl⟩: ∃m,n=c+m+1:=⟨n - c - 1,by omega⟩
 obtain⟨h1,h2⟩:=zqD hs hn heq m Ko
 have e1:=heq (c+m) Ko Ko
 refine⟨?_,fun h=>?_⟩
 ·rw[zeE,h2]
  unfold emL
  rw[h1,e1,if_pos (by rcases hend with h|h;exact Or.inl Ko;exact Or.inr h),show c+m+1 - c - 1=c+m - c by omega]
 ·rw[show zbb l (c+m+1)=if l.getD (c+m+1) 0≠l.getD (c+m) 0 then c+m+1 else zbb l (c+m) from rfl,e1,if_pos (hend.resolve_left Ko)]
end Go.Proofs.YtomdbjfdbkejoaaGreatDoor
namespace Go.Proofs.YtomdbjfdbkejoaaGreatDoor
open Go Go.V Go.Proofs
theorem DfaT.ext2 {d e:DfaT} (h1:d.of=e.of) (h2:d.width=e.width) (h3:d.next=e.next) (h4:d.label=e.label) (h5:d.names=e.names):d=e:=by
 cases d;cases e;simp only at h1 h2 h3 h4 h5;subst h1 h2 h3 h4 h5;rfl
def zaj (d:DfaT) (w:List UInt8):Int:=w.foldl (fun s b=>toD d s b.toNat) 0
theorem zdA (d:DfaT) (w:List UInt8) {i:Nat} (h:i<w.length):zaj d (w.take (i+1))=toD d (zaj d (w.take i)) w[i].toNat:=by
 unfold zaj;rw[List.take_succ_eq_append_getElem h,List.foldl_append];rfl
theorem zhm {d:DfaT} (hok:zc d) (hof:d.of.length=256) {s:Int} (hs:0≤s∧s<d.label.length) {c:Nat} (hc:c<256):0≤toD d s c∧toD d s c<d.label.length:=by
 obtain⟨t,rfl⟩:=Int.eq_ofNat_of_zero_le hs.1
 obtain⟨hk1,hk2,hk3,hk4,hk5,hk6,hk7⟩:=id hok
 have htn:t<d.next.length:=by omega
 have hco:c<d.of.length:=by omega
 have hox:=zbs hok (List.getElem_mem hco)
 obtain⟨y,hy⟩:=Int.eq_ofNat_of_zero_le hox.1
 obtain⟨hw0,_,_,hrng⟩:=hk7 t htn Ko
 have hyk:y< (d.next[t]).length:=by omega
 have hval:toD d (t:Nat) c=(d.next[t])[y]:=by
  unfold toD
  rw[Int.toNat_natCast,List.getD_eq_getElem?_getD,List.getElem?_eq_getElem htn,List.getD_eq_getElem?_getD,List.getElem?_eq_getElem hco]
  show atL d.next[t] d.of[c]=_
  rw[hy,zU (by simpa using hyk)]
  simp only[Int.toNat_natCast]
 rw[hval]
 exact hrng _ (List.getElem_mem hyk)
theorem za6 {d:DfaT} (hok:zc d) (hof:d.of.length=256) (w:List UInt8):0≤zaj d w∧zaj d w<d.label.length:=by
 have key: ∀i,i≤w.length→0≤zaj d (w.take i)∧zaj d (w.take i) <d.label.length:=by
  intro i
  induction i with
  |zero=>intro _;rw[List.take_zero];have:=hok.1;exact⟨Int.le_refl 0,by show(0 :Int) <_;omega⟩
  |succ i ih=>
   intro h
   rw[zdA d w h]
   exact zhm hok hof (ih Ko) w[i].toNat_lt
 have:=key w.length (Nat.le_refl _)
 rwa [List.take_length] at this
def zX (d:DfaT) (w:List UInt8):Int:=atL d.label (zaj d w)
def zaT (d:DfaT) (k:Int):List UInt8:=if 0<k then d.names.getD (k - 1).toNat [] else[]
end Go.Proofs.YtomdbjfdbkejoaaGreatDoor
namespace Go.Proofs.YtomdbjfdbkejoaaGreatDoor
open Go Go.V Go.Proofs
theorem ziW {x Y:List UInt8} {n:Nat} (h:x.length=n):za4 n (false,x++Y)=(x,(false,Y)):=by
 unfold za4
 rw[if_neg (by simp only[Bool.false_eq_true,false_or,List.length_append];omega)]
 simp only[]
 rw[List.take_append_of_le_length Ko,List.take_of_length_le Ko,List.drop_append,List.drop_of_length_le Ko,h,Nat.sub_self,List.drop_zero,List.nil_append]
theorem zx0 {n:Nat} (h:n<256):beV (beB 1 n)=n:=by
 rw[zxQ]
 simp only[beV,List.foldl_cons,List.foldl_nil,UInt8.toNat_ofNat']
 omega
theorem zx1 {n:Nat} (h:n<65536):beV (beB 2 n)=n:=by
 rw[zxR]
 simp only[beV,List.foldl_cons,List.foldl_nil,UInt8.toNat_ofNat']
 omega
theorem zvU {n:Nat} (h:n<4294967296):beV (beB 4 n)=n:=by
 rw[zvO]
 simp only[beV,List.foldl_cons,List.foldl_nil,UInt8.toNat_ofNat']
 omega
theorem zgk {n:Nat} (h:n<256) (Y:List UInt8):zE 1 (false,beB 1 n++Y)=(n,(false,Y)):=by
 unfold zE;rw[ziW (zaZ 1 n),zx0 h]
theorem zor {n:Nat} (h:n<65536) (Y:List UInt8):zE 2 (false,beB 2 n++Y)=(n,(false,Y)):=by
 unfold zE;rw[ziW (zaZ 2 n),zx1 h]
theorem zln: ∀ (l acc:List (List UInt8)) (Y:List UInt8),(∀s∈l,s.length≤32)→zcq l.length (acc,(false,zbB l++Y))=(acc++l,(false,Y))
 | [],acc,Y,_=>by show(acc,(false,Y))=_;rw[List.append_nil]
 |s::l,acc,Y,h=>by
  have hs:=h s List.mem_cons_self
  show zcq l.length (zbD (acc,(false,zbB (s::l)++Y)))=_
  have e:zbD (acc,(false,zbB (s::l)++Y))=(acc++[s],(false,zbB l++Y)):=by
   unfold zbD zbB
   rw[List.flatMap_cons,List.append_assoc]
   unfold zjx
   rw[List.append_assoc,zgk Ko,ziW rfl]
  rw[e,zln l _ Y fun x hx=>h x (List.mem_cons_of_mem _ hx),List.append_assoc];rfl
theorem zfM {l:List (List UInt8)} (hl:l.length≤64) (h: ∀s∈l,s.length≤32) (Y:List UInt8):zY (false,beB 1 l.length++(zbB l++Y))=(l,(false,Y)):=by
 unfold zY
 rw[zgk Ko,zln l [] Y h,List.nil_append]
theorem zos: ∀ (r acc:List Int) (Y:List UInt8),(∀t∈r,0≤t∧t<65536)→zfu r.length (acc,(false,zef r++Y))=(acc++r,(false,Y))
 | [],acc,Y,_=>by rw[List.length_nil,ziS,List.append_nil];rfl
 |t::r,acc,Y,h=>by
  have ht:=h t List.mem_cons_self
  rw[List.length_cons,zgN]
  have e:zfY (acc,(false,zef (t::r)++Y))=(acc++[t],(false,zef r++Y)):=by
   unfold zfY zef
   rw[List.flatMap_cons,List.append_assoc]
   obtain⟨n,hn⟩:=Int.eq_ofNat_of_zero_le ht.1
   simp only[hn,Int.toNat_natCast]
   rw[zor Ko]
  rw[e,zos r _ Y fun x hx=>h x (List.mem_cons_of_mem _ hx),List.append_assoc];rfl
def zma (p:Int×List Int):List UInt8:=beB 1 p.1.toNat++zef p.2
theorem zot {w:Nat}: ∀ (ps:List (Int×List Int)) (lab:List Int) (nxt:List (List Int)) (Y:List UInt8),(∀p∈ps,0≤p.1∧p.1<256∧p.2.length=w∧ ∀t∈p.2,0≤t∧t<65536)→
  zeD w ps.length ⟨lab,nxt,(false,ps.flatMap zma++Y)⟩=⟨lab++ps.map (·.1),nxt++ps.map (·.2),(false,Y)⟩
 | [],lab,nxt,Y,_=>by rw[List.length_nil,zmI];simp
 |p::ps,lab,nxt,Y,h=>by
  obtain⟨h1,h2,h3,h4⟩:=h p List.mem_cons_self
  rw[List.length_cons,zgO]
  have e:zck w ⟨lab,nxt,(false,(p::ps).flatMap zma++Y)⟩=⟨lab++[p.1],nxt++[p.2],(false,ps.flatMap zma++Y)⟩:=by
   unfold zck
   rw[if_neg (by simp)]
   obtain⟨n,hn⟩:=Int.eq_ofNat_of_zero_le h1
   simp only[List.flatMap_cons,zma,List.append_assoc]
   rw[hn,Int.toNat_natCast,zgk Ko,←h3,zos _ _ _ h4,List.nil_append]
  rw[e,zot ps _ _ Y fun x hx=>h x (List.mem_cons_of_mem _ hx)]
  simp
theorem zpZ {d:DfaT} (hok:zc d):zdk d d.label.length=(d.label.zip d.next).flatMap zma∧(d.label.zip d.next).map (·.1)=d.label∧(d.label.zip d.next).map (·.2)=d.next:=by
 have hn:=hok.2.2.1
 have hz:(d.label.zip d.next).length=d.label.length:=by rw[List.length_zip];omega
 refine⟨?_,?_,?_⟩
 ·have e:d.label.zip d.next=(List.range d.label.length).map fun s=>(atL d.label (s:Nat),d.next.getD s []):=by
   apply List.ext_getElem (by rw[hz,List.length_map,List.length_range])
   intro i h1 h2
   have hi:i<d.label.length:=by omega
   rw[List.getElem_zip,List.getElem_map,List.getElem_range,zU (by simpa using hi),List.getD_eq_getElem?_getD,List.getElem?_eq_getElem Ko]
   simp only[Int.toNat_natCast];rfl
  rw[e,List.flatMap_map]
  rfl
 ·apply List.ext_getElem (by rw[List.length_map,hz])
  intro i h1 h2
  rw[List.getElem_map,List.getElem_zip]
 ·apply List.ext_getElem (by rw[List.length_map,hz,hn])
  intro i h1 h2
  rw[List.getElem_map,List.getElem_zip]
theorem zmK (l:List Int) (c:Nat): ∀k,∃D,zbt l (c+k)=zbt l c++D
 |0=>⟨[],by rw[Nat.add_zero,List.append_nil]⟩
 |k+1=>by
  obtain⟨D,h⟩:=zmK l c k
  exact⟨D++emL l (c+k),by rw[←Nat.add_assoc,zeE,h,List.append_assoc]⟩
def zfb (l:List Int) (c:Nat):List UInt8:=(zbt l 256).drop (zbt l c).length
theorem zou (l:List Int) {c:Nat} (h:c≤256):zbt l 256=zbt l c++zfb l c:=by
 obtain⟨D,e⟩:=zmK l c (256 - c)
 rw[show c+(256 - c)=256 by omega] at e
 unfold zfb
 rw[e,List.drop_append,List.drop_length,Nat.sub_self,List.drop_zero,List.nil_append]
theorem ztR {l:List Int} {c:Nat}: ∀k n,n+k=256→c<n→(∀i,c≤i→i<n→l.getD i 0=l.getD c 0)→ ∃m,n≤m∧m≤256∧(∀i,c≤i→i<m→l.getD i 0=l.getD c 0)∧(m=256∨l.getD m 0≠l.getD c 0)
 |0,n,hn,hc,h=>⟨n,Nat.le_refl _,by omega,h,Or.inl Ko⟩
 |k+1,n,hn,hc,h=>by
  by_cases e:l.getD n 0=l.getD c 0
  ·have hstep: ∀i,c≤i→i<n+1→l.getD i 0=l.getD c 0:=fun i a b=>by
    by_cases e2:i=n
    ·subst e2;exact e
    ·exact h i a Ko
   obtain⟨m,h1,h2,h3,h4⟩:=ztR (c:=c) k (n+1) Ko Ko hstep
   exact⟨m,by omega,h2,h3,h4⟩
  ·exact⟨n,Nat.le_refl _,by omega,h,Or.inr e⟩
def wT (l:List Int) (c:Nat):Nat:=(zk (l.take c)).length
theorem zqE {l:List Int} (hn:zg l=l) {c:Nat} (hc:c<l.length):wT l (c+1)=max (wT l c) ((l[c]).toNat+1):=by
 unfold wT
 have e1:l[c]=(zg l)[c]'(by rw[zr];exact hc):=by simp only[hn]
 have htk:l.take (c+1)=l.take c++[l[c]]:=List.take_succ_eq_append_getElem hc
 by_cases h:l[c]∈l.take c
 ·have e2:zk (l.take (c+1))=zk (l.take c):=by rw[htk,zaO,if_pos ((zN _).2 h)]
  have e3:(zg l)[c]'(by rw[zr];exact hc)=zz (zk (l.take c)) l[c]:=by rw[zft hc,e2]
  obtain⟨n,hn2⟩:=zab ((zN _).2 h)
  have:=(z6 hn2).1
  rw[zH hn2] at e3
  rw[e2]
  rw[e3] at e1
  omega
 ·have e2:(zk (l.take (c+1))).length=(zk (l.take c)).length+1:=by rw[htk,zaO,if_neg fun h2=>h ((zN _).1 h2),List.length_append];rfl
  have e3:=(zqy hc).2 h
  rw[e2]
  rw[e3] at e1
  omega
theorem ztS {l:List Int} (hn:zg l=l) (hl:l.length=256) {c:Nat} (hc:c<256): ∀k,c+k+1≤256→(∀i,c≤i→i<c+k+1→l.getD i 0=l.getD c 0)→wT l (c+k+1)=max (wT l c) ((l.getD c 0).toNat+1)
 |0,_,_=>by
  rw[Nat.add_zero,zqE hn Ko,List.getD_eq_getElem?_getD,List.getElem?_eq_getElem Ko];rfl
 |k+1,h,heq=>by
  have ih:=ztS hn hl hc k Ko fun i a b=>heq i a Ko
  have e:=heq (c+k+1) Ko Ko
  have hlt:c+k+1<l.length:=by omega
  rw[List.getD_eq_getElem?_getD,List.getElem?_eq_getElem hlt] at e
  have e:l[c+k+1]=l.getD c 0:=e
  rw[show c+(k+1)+1=(c+k+1)+1 by omega,zqE hn hlt,ih,e];omega
def zfv (l:List Int) (c:Nat):Nat→Int:=fun i=>if i<c then l.getD i 0 else 0
theorem zov {l:List Int} (hn:zg l=l) (hl:l.length=256) (hb: ∀x∈l,0≤x∧x≤255) (Y:List UInt8): ∀ (m k c:Nat),256 - c≤m→c≤256→256 - c≤k→(c<256→zbb l c=c)→
  zed k ⟨c,wT l c,zfv l c,(false,zfb l c++Y)⟩=⟨256,wT l 256,zfv l 256,(false,Y)⟩
 |m,k,c,hm,hc,hk,hst=>by
  by_cases h256:c=256
  ·subst h256
   rw[zjw (Or.inl (Nat.le_refl _))]
   have:zfb l 256=[]:=by unfold zfb;rw[List.drop_length]
   rw[this];rfl
  ·obtain⟨m,rfl⟩: ∃j,m=j+1:=⟨m - 1,by omega⟩
   obtain⟨k,rfl⟩: ∃j,k=j+1:=⟨k - 1,by omega⟩
   obtain⟨n,h1,h2,h3,h4⟩:=ztR (l:=l) (c:=c) (256 - (c+1)) (c+1) Ko Ko fun i a b=>by
    obtain rfl:i=c:=by omega
    rfl
   obtain⟨r1,r2⟩:=zxZ (hst Ko) Ko h2 h3 h4
   obtain⟨j,rfl⟩: ∃j,n=c+j+1:=⟨n - c - 1,by omega⟩
   have hcl:c<l.length:=by omega
   have hgd:l.getD c 0=l[c]:=by rw[List.getD_eq_getElem?_getD,List.getElem?_eq_getElem hcl];rfl
   have hcb:=hb _ (List.getElem_mem hcl)
   obtain⟨y,hy⟩:=Int.eq_ofNat_of_zero_le hcb.1
   have hfrom:zfb l c=beB 1 y++(beB 1 j++zfb l (c+j+1)):=by
    have e1:=zou l (c:=c) Ko
    rw[zou l (c:=c+j+1) h2,r1,hgd,hy,Int.toNat_natCast,show c+j+1 - c - 1=j by omega,List.append_assoc] at e1
    have:=List.append_cancel_left e1
    rw[←this,List.append_assoc]
   rw[zmH,hfrom]
   have e:zbp ⟨c,wT l c,zfv l c,(false,beB 1 y++(beB 1 j++zfb l (c+j+1))++Y)⟩=⟨c+j+1,wT l (c+j+1),zfv l (c+j+1),(false,zfb l (c+j+1)++Y)⟩:=by
    unfold zbp
    rw[if_neg (by simp;omega)]
    simp only[List.append_assoc]
    rw[zgk Ko,zgk Ko,if_neg Ko]
    have ew:=ztS hn hl Ko j h2 h3
    rw[hgd,hy,Int.toNat_natCast] at ew
    have ef:zc6 (zfv l c) c (j+1) ((y:Nat):Int)=zfv l (c+j+1):=by
     funext i
     unfold zc6 zfv
     by_cases hi:c≤i∧i<c+(j+1)
     ·rw[if_pos hi,if_pos Ko,h3 i hi.1 Ko,hgd,hy]
     ·rw[if_neg hi]
      by_cases hi2:i<c
      ·rw[if_pos hi2,if_pos Ko]
      ·rw[if_neg hi2,if_neg Ko]
    simp only[ew,ef]
    rfl
   rw[e]
   exact zov hn hl hb Y m k (c+j+1) Ko h2 Ko r2
theorem zkn {l:List Int} (hn:zg l=l) (hl:l.length=256) (hb: ∀x∈l,0≤x∧x≤255) (Y:List UInt8):zaU (false,zbt l 256++Y)=⟨256,wT l 256,zfv l 256,(false,Y)⟩:=by
 have h:=zov hn hl hb Y 256 256 0 Ko Ko Ko fun _=>rfl
 have e1:zfb l 0=zbt l 256:=rfl
 have e2:zfv l 0=fun _=>0:=by funext i;unfold zfv;rw[if_neg Ko]
 have e3:wT l 0=0:=rfl
 rw[e1,e2,e3,zjv] at h
 exact h
theorem zvV {d:DfaT} (hok:zc d) (hl:d.of.length=256) (hb: ∀x∈d.of,0≤x∧x≤255) (Y:List UInt8):zax (false,(za5 d).drop 4++Y)=d∧(zaG (false,(za5 d).drop 4++Y)).s=(false,Y):=by
 have hnm:=zg9 hok
 obtain⟨hk1,hk2,hk3,hk4,hk5,hk6,hk7⟩:=id hok
 obtain⟨s1,s2,s3⟩:=zpZ hok
 have hbody:(za5 d).drop 4++Y=beB 1 d.names.length++(zbB d.names++(zbt d.of 256++(beB 2 (d.label.length - 1)++((d.label.zip d.next).flatMap zma++Y)))):=by
  unfold za5
  rw[s1]
  simp only[List.append_assoc]
  rw[show(4 :Nat)=zcs.length from rfl,List.drop_left]
  simp only[List.append_assoc]
 have hps: ∀p∈d.label.zip d.next,0≤p.1∧p.1<256∧p.2.length=d.width.toNat∧ ∀t∈p.2,0≤t∧t<65536:=fun p hp=>by
  obtain⟨i,hi,rfl⟩:=List.getElem_of_mem hp
  rw[List.length_zip] at hi
  rw[List.getElem_zip]
  obtain⟨hw1,hw2,hw3,hw4⟩:=hk7 i Ko Ko
  refine⟨hw2,by show d.label[i] <256;omega,by show(d.next[i]).length=_;omega,fun t ht=>?_⟩
  have:=hw4 t ht
  omega
 have hz:(d.label.zip d.next).length=d.label.length:=by rw[List.length_zip];omega
 have hwt:wT d.of 256=d.width.toNat:=by unfold wT;rw[List.take_of_length_le Ko];omega
 have hof:ofF (zfv d.of 256)=d.of:=by
  apply List.ext_getElem (by rw[zl9,hl])
  intro i h1 h2
  have:i<256:=by omega
  simp only[ofF,List.getElem_map,List.getElem_range]
  unfold zfv
  rw[if_pos this,List.getD_eq_getElem?_getD,List.getElem?_eq_getElem h2];rfl
 have hm:=zot (w:=d.width.toNat) (d.label.zip d.next) [] [] Y hps
 rw[hz,s2,s3,List.nil_append,List.nil_append] at hm
 have hrest:zaG (false,(za5 d).drop 4++Y)=⟨d.label,d.next,(false,Y)⟩:=by
  unfold zaG
  rw[hbody,zfM hnm.1 hnm.2]
  simp only[]
  rw[zkn hk4 hl hb]
  simp only[]
  rw[zor Ko,hwt,show d.label.length - 1+1=d.label.length by omega]
  exact hm
 refine⟨?_,by rw[hrest]⟩
 apply DfaT.ext2
 ·show ofF (zaU (zY (false,(za5 d).drop 4++Y)).2).f=_
  rw[hbody,zfM hnm.1 hnm.2]
  simp only[]
  rw[zkn hk4 hl hb]
  exact hof
 ·show(((zaU (zY (false,(za5 d).drop 4++Y)).2).w:Nat):Int)=_
  rw[hbody,zfM hnm.1 hnm.2]
  simp only[]
  rw[zkn hk4 hl hb]
  show((wT d.of 256 :Nat):Int)=_
  omega
 ·show(zaG _).nxt=_;rw[hrest]
 ·show(zaG _).lab=_;rw[hrest]
 ·show(zY (false,(za5 d).drop 4++Y)).1=_
  rw[hbody,zfM hnm.1 hnm.2]
end Go.Proofs.YtomdbjfdbkejoaaGreatDoor
namespace Go.Proofs.YtomdbjfdbkejoaaGreatDoor
open Go Go.V Go.Proofs
def Fit (d:DfaT):Prop:=zc d∧d.of.length=256∧ ∀x∈d.of,0≤x∧x≤255
theorem zp0 (d:DfaT):za5 d=zcs++(za5 d).drop 4:=by
 unfold za5
 simp only[List.append_assoc]
 rw[show(4 :Nat)=zcs.length from rfl,List.drop_left]
theorem zeq (d:DfaT):8≤(zaJ d).length∧(zaJ d).take 4=zcs∧(zaJ d).take ((zaJ d).length - 4)=za5 d∧(zaJ d).drop ((zaJ d).length - 4)=beB 4 (zcR (za5 d)):=by
 have h1:=zp0 d
 have hl:(zaJ d).length=(za5 d).length+4:=by unfold zaJ;rw[List.length_append,zaZ]
 have hb:(za5 d).length=4+((za5 d).drop 4).length:=by
  have:=congrArg List.length h1
  rw[List.length_append] at this
  exact this
 refine⟨by omega,?_,?_,?_⟩
 ·unfold zaJ
  rw[h1,List.append_assoc,show(4 :Nat)=zcs.length from rfl,List.take_left]
 ·rw[hl,Nat.add_sub_cancel];unfold zaJ;rw[List.take_left]
 ·rw[hl,Nat.add_sub_cancel];unfold zaJ;rw[List.drop_left]
theorem zmb {d:DfaT} (h:Fit d):zax (false,((zaJ d).take ((zaJ d).length - 4)).drop 4)=d∧(zaG (false,((zaJ d).take ((zaJ d).length - 4)).drop 4)).s=(false,[]):=by
 have:=zvV h.1 h.2.1 h.2.2 []
 rw[List.append_nil] at this
 rw[(zeq d).2.2.1]
 exact this
theorem ztT {s:Rdr} (h:zc (zax s)):Fit (zax s):=by
 refine⟨h,zl9 _,fun x hx=>?_⟩
 have hx:x∈ofF (zaU (zY s).2).f:=hx
 unfold ofF at hx
 obtain⟨k,_,rfl⟩:=List.mem_map.1 hx
 exact(zlm (zY s).2).2 k
theorem zqF {d e:DfaT} (hd:Fit d) (he:Fit e) (h:zaJ d=zaJ e):d=e:=by
 have h1:=(zmb hd).1
 have h2:=(zmb he).1
 rw[h] at h1
 exact h1.symm.trans h2
def zfZ (b:List UInt8):Prop:=8≤b.length∧b.take 4=zcs
def zjy (b:List UInt8):Prop:=beV (b.drop (b.length - 4))=zcR (b.take (b.length - 4))
def zsa (b:List UInt8):Prop:= ∃d,Fit d∧zaJ d=b
noncomputable def zcf (b:List UInt8):DfaT×Int:=
 haveI:=Classical.propDecidable
 if zfZ b then if zjy b then if h:zsa b then(Classical.choose h,0) else(zao,3) else(zao,19) else(zao,3)
theorem zjY {b:List UInt8} (h: ¬zfZ b):zcf b=(zao,3):=by unfold zcf;rw[if_neg h]
theorem ztU {b:List UInt8} (h:zfZ b) (h2: ¬zjy b):zcf b=(zao,19):=by unfold zcf;rw[if_pos h,if_neg h2]
theorem zvW {b:List UInt8} (h:zfZ b) (h2:zjy b) (h3: ¬zsa b):zcf b=(zao,3):=by unfold zcf;rw[if_pos h,if_pos h2,dif_neg h3]
theorem zvX {d:DfaT} (hd:Fit d):zfZ (zaJ d)∧zjy (zaJ d):=by
 obtain⟨h1,h2,h3,h4⟩:=zeq d
 refine⟨⟨h1,h2⟩,?_⟩
 unfold zjy
 rw[h3,h4,zvU (zhl _)]
theorem zmL {d:DfaT} (hd:Fit d):zcf (zaJ d)=(d,0):=by
 obtain⟨h1,h2⟩:=zvX hd
 have h3:zsa (zaJ d):=⟨d,hd,rfl⟩
 unfold zcf
 rw[if_pos h1,if_pos h2,dif_pos h3]
 obtain⟨h4,h5⟩:=Classical.choose_spec h3
 rw[zqF h4 hd h5]
theorem zvY (xs ys:List UInt8) (hlen:xs.length≤200000000) {G:za} {H:zb} {R:Value→za→zb→Prop} {v w:Value} (hv:Sl G zB v xs) (hw:Sl G zB w ys) (hR:R (.bool (decide (xs=ys))) G H):FnT Tryz.prog 35 [v,w] G H R:=by
 obtain⟨a,cap,rfl,hrow,hcap⟩:=hv
 obtain⟨a',cap',rfl,hrow',hcap'⟩:=hw
 refine FnT.body tok [0,1,4,5,10,12,13,14,24] Tryz.func35 rfl Kk Kk (by show _≤26;simp) fun hsep=>?_
 rw[Tryz.results35]
 have hE:=hsep
 try simp only[zzs] at hE
 repeat(obtain⟨hx',hE⟩:=hE)
 repeat' first
  |with_reducible first|refine Nx.go ?_ |refine Bk.go (fun _=>?_) fun _=>?_ |refine Nb fun nb hnb hnb1 hnb2=>?_
  |simp -dsimp -implicitDefEqProofs (disch:=first|exact Kd|fail) only[go_sem,↓reduceIte,seval]
 ·rename_i hne
  have hxy:xs.length=ys.length:=by omega
  refine Tri.loopU tok [0,1,4,5,10,12,13,14,24] Kk [0,1,4,12,13] (fun n G' l H'=> ∃i:Nat,i+n=xs.length∧(∀j (h:j<xs.length),j<i→xs[j]=ys[j])∧G'=G∧H'=H∧l=[(0, .slice a xs.length cap),(1, .slice a' ys.length cap'),(4, .bool false),(12, .int .i64 xs.length),(13, .int .i64 i)]) (xs.length) (Upd.now ?_) ?_
  ·exact⟨0,by omega,fun j _ h=>by omega,rfl,rfl,rfl⟩
  ·rintro n G' l H' hle hs ⟨i,hi,hno,rfl,rfl,rfl⟩
   by_cases hil:i<xs.length
   ·have hil':i<ys.length:=by omega
    have had:Adr a:=hrow.adr (by rw[List.length_map];omega)
    have had':Adr a':=hrow'.adr (by rw[List.length_map];omega)
    repeat' first
     |with_reducible first|refine Nx.go ?_ |refine Bk.go (fun _=>?_) fun _=>?_ |refine Nb fun nb hnb hnb1 hnb2=>?_
     |with_reducible refine Tri.drawH tok mixed [0,1,4,5,10,12,13,14,24] 6 [3,7] (.op 0 .plain (.op 1 .plain (.op 2 .plain (.op 3 .held (.op 4 .plain (.op 5 .plain (.op 6 .plain (.op 7 .held (.op 8 .plain .nil))))))))) Kk [0,1] ?_
     |simp -dsimp -implicitDefEqProofs (disch:=first|exact Kd|fail) only[go_sem,↓reduceIte,seval,Row.obj hrow,Row.obj hrow',List.getElem_map,zB]
    ·rename_i he
     exact Upd.now ⟨n - 1,by omega,i+1,by omega,fun j h hj=>by
      by_cases e:j=i
      ·subst e;exact UInt8.toNat_inj.1 Ko
      ·exact hno j h Ko,rfl,rfl,rfl⟩
    ·rename_i he
     rw[decide_eq_false (fun e=>he (by subst e;rfl))] at hR
     all_goals refine Upd.finL ?_ hR ?_
     any_goals first|exact Ks|skip
     rfl
   ·obtain rfl:i=xs.length:=by omega
    rw[decide_eq_true (List.ext_getElem hxy fun j h1 h2=>hno j h1 h1)] at hR
    repeat' first
     |with_reducible first|refine Nx.go ?_ |refine Bk.go (fun _=>?_) fun _=>?_ |refine Nb fun nb hnb hnb1 hnb2=>?_
     |simp -dsimp -implicitDefEqProofs (disch:=first|exact Kd|fail) only[go_sem,↓reduceIte,seval]
    all_goals refine Upd.finL ?_ hR ?_
    any_goals first|exact Ks|skip
    rfl
 ·rename_i hne
  rw[decide_eq_false (fun e=>hne (by subst e;rfl))] at hR
  all_goals refine Upd.finL ?_ hR ?_
  any_goals first|exact Ks|skip
  rfl
end Go.Proofs.YtomdbjfdbkejoaaGreatDoor
namespace Go.Proofs.YtomdbjfdbkejoaaGreatDoor
open Go Go.V Go.Proofs
theorem zmc {G:za} {d:DfaT} {C:List Value} (h:IsD G d (.agg C.toArray)):C.all zaL=true:=by
 obtain⟨_,_,vn,vl,vs,e,⟨an,cn,rs,rfl,_⟩,⟨al,cl,rfl,_⟩,⟨ay,cy,rfl,_⟩⟩:=h
 have e2:=congrArg (fun v=>match v with|Value.agg a=>a.toList|_=>[]) e
 simp only[List.toList_toArray] at e2
 rw[e2];exact zbe rfl rfl rfl
theorem zmd {C:List Value} (h:C.length=260):zf zI 0 C=C:=by
 unfold zf
 rw[List.take_zero,List.nil_append,List.drop_of_length_le (by rw[zn];omega),List.append_nil]
--IF dfa.Trim
theorem Sl.drop {G:za} {a:Option Addr} {c n:Nat} {l:List UInt8} (hr:Row G a (l.map zB)) (hc:l.length≤c) (h:n≤l.length):Sl G zB (.slice (zbH a n c n) (l.length - n) (c - n)) (l.drop n):=by
 have h2:Row G (zbH a n c n) ((l.drop n).map zB):=by
  have:=hr.drop (l:=n) (m:=c) (s:=1) (fun e=>by rw[List.length_map];omega)
  rw[Nat.mul_one,←List.map_drop] at this
  exact this
 exact⟨_,c - n,by rw[List.length_drop],h2,by rw[List.length_drop];omega⟩
theorem Sl.mid {G:za} {a:Option Addr} {c n m:Nat} {l:List UInt8} (hr:Row G a (l.map zB)) (hc:l.length≤c) (h:n≤l.length) (hm:m≤n):Sl G zB (.slice (zbH a m c m) (n - m) (c - m)) ((l.take n).drop m):=by
 have h2:Row G (zbH a m c m) (((l.take n).drop m).map zB):=by
  by_cases hmn:m=n
  ·have:(l.take n).drop m=[]:=List.drop_of_length_le (by rw[List.length_take];omega)
   rw[this];exact Row.nil _ _
  have:=(hr.take n).drop (l:=m) (m:=c) (s:=1) (fun e=>by rw[List.length_take,List.length_map];omega)
  rw[Nat.mul_one,←List.map_take,←List.map_drop] at this
  exact this
 exact⟨_,c - m,by rw[List.length_drop,List.length_take,Nat.min_eq_left h],h2,by rw[List.length_drop,List.length_take];omega⟩
theorem Sl.take {G:za} {a:Option Addr} {c n:Nat} {l:List UInt8} (hr:Row G a (l.map zB)) (hc:l.length≤c) (h:n≤l.length):Sl G zB (.slice (zbH a 0 c 0) (n - 0) (c - 0)) (l.take n):=by
 have h2:Row G (zbH a 0 c 0) ((l.take n).map zB):=by
  have:=(hr.take n).drop (l:=0) (m:=c) (s:=1) (fun e=>by rw[List.length_take,List.length_map];omega)
  rw[Nat.zero_mul,List.drop_zero,←List.map_take] at this
  exact this
 exact⟨_,c - 0,by rw[List.length_take,Nat.min_eq_left h,Nat.sub_zero],h2,by rw[List.length_take];omega⟩
theorem Row.midB {G:za} {a:Option Addr} {c n m:Nat} {l:List UInt8} (hr:Row G a (l.map zB)) (hc:l.length≤c) (h:n≤l.length) (hm:m≤n):Row G (zbH a m c m) (((l.take n).drop m).map zB):=by
 by_cases hmn:m=n
 ·have:(l.take n).drop m=[]:=List.drop_of_length_le (by rw[List.length_take];omega)
  rw[this];exact Row.nil _ _
 ·have:=(hr.take n).drop (l:=m) (m:=c) (s:=1) (fun e=>by rw[List.length_take,List.length_map];omega)
  rw[Nat.mul_one,←List.map_take,←List.map_drop] at this
  exact this
theorem zvZ:V.Callee Tryz.prog 35:=⟨_,_,Tryz.func35,rfl,by kernel_rfl⟩
theorem zx2 {b:List UInt8} (hbl:b.length≤200000000) {G:za} {H:zb} {R:Value→za→zb→Prop} {v:Value} (hv:Sl G zB v b)
  (hR: ∀G' v',PLe G G'→Sep G' (zm H)→IsD G' (zcf b).1 v'→R (.tuple #[v', .int .i64 (zcf b).2]) G' H):FnT Tryz.prog 20 [v] G H R:=by
 have hv0:=hv
 obtain⟨a,c,rfl,hr,hc⟩:=hv
 refine FnT.sep ?_
 by_cases hs8:8≤b.length
 ·have hr4:Row G (zbH a 0 c 0) ((b.take 4).map zB):=by
   have:=(hr.take 4).drop (l:=0) (m:=c) (s:=1) (fun e=>by rw[List.length_take,List.length_map];omega)
   rw[Nat.zero_mul,List.drop_zero,←List.map_take] at this
   exact this
  have h4l:(b.take 4).length=4:=by rw[List.length_take];omega
  by_cases hf2:b.take 4=zcs
  ·have hf:zfZ b:=⟨hs8,hf2⟩
   have hn4:((b.length:Nat):Int) - 4=((b.length - 4 :Nat):Int):=by omega
   have hnt:(((b.length:Nat):Int) - 4).toNat=b.length - 4:=by omega
   have hend:=Sl.drop (n:=b.length - 4) hr hc Ko
   have hbd:=Sl.take (n:=b.length - 4) hr hc Ko
   have hsr:Sl G zB (.slice (zbH a (b.length - 4) c (b.length - 4)) (b.length - (b.length - 4)) (c - (b.length - 4))) ((false,b.drop (b.length - 4)):Rdr).2:=hend
   have hdl:(b.drop (b.length - 4)).length=4:=by rw[List.length_drop];omega
   have htk:za4 4 (false,b.drop (b.length - 4))=(b.drop (b.length - 4),(false,[])):=by
    unfold za4
    rw[if_neg (by simp [hdl])]
    show(List.take 4 (b.drop (b.length - 4)),((false,List.drop 4 (b.drop (b.length - 4))):Rdr))=_
    have e1:List.take 4 (b.drop (b.length - 4))=b.drop (b.length - 4):=List.take_of_length_le Ko
    have e2:List.drop 4 (b.drop (b.length - 4))=[]:=List.drop_of_length_le Ko
    rw[e1,e2]
   have hnum:zE 4 (false,b.drop (b.length - 4))=(beV (b.drop (b.length - 4)),(false,[])):=by unfold zE;rw[htk]
   have hsl:=zhl (b.take (b.length - 4))
   have hwr:IntKind.i64.wrap ((zcR (b.take (b.length - 4)):Nat):Int)=(zcR (b.take (b.length - 4)):Nat):=wrap_i64 Ko Ko
   refine FnT.body tok [0,2,3,4,5,6,7,18,30,56] Tryz.func20 rfl Kk Kk (by show _≤59;simp) fun hsep=>?_
   rw[Tryz.results20]
   have hE:=hsep
   try simp only[zzs] at hE
   repeat(obtain⟨hx',hE⟩:=hE)
   repeat' first
    |with_reducible first|refine Nx.go ?_ |refine Bk.go (fun _=>?_) fun _=>?_ |refine Nb fun nb hnb hnb1 hnb2=>?_ |refine Nr fun nb nsp ncap hnb hncap hnb1 hnb2=>?_
    |with_reducible refine Tri.drawM tok mixed [0,2,3,4,5,6,7,18,30,56] 5 [] (.op 1 .plain (.op 2 .plain (.op 3 .plain (.op 0 .keeps (.op 4 .keeps (.op 5 .plain (.op 6 .plain .nil))))))) Kk [] (List.nil_sublist _) ?_
    |simp -dsimp -implicitDefEqProofs (disch:=first|exact Kd|fail) only[go_sem,↓reduceIte,seval, -List.reduceReplicate,zn,zad,zaf,zaw,Row.rdSlAll hr4,List.length_map,hnt]
   ·rename_i b2 hb20 hb21 hb22
    revert nb
    intro b5 hb50 hb51 hb52
    refine zcb (s:=(false,b.drop (b.length - 4))) (by show(b.drop (b.length - 4)).length≤_;omega) (n:=4) Ko hsr fun G1 sv1 hle1 hs1 hsv1=>?_
    rw[hnum] at hs1 hsv1⊢
    have hE:=hs1
    try simp only[zzs] at hE
    repeat(obtain⟨hx',hE⟩:=hE)
    repeat' first
     |with_reducible first|refine Nx.go ?_ |refine Bk.go (fun _=>?_) fun _=>?_ |refine Nb fun nb hnb hnb1 hnb2=>?_ |refine Nr fun nb nsp ncap hnb hncap hnb1 hnb2=>?_
     |simp -dsimp -implicitDefEqProofs (disch:=first|exact Kd|fail) only[go_sem,↓reduceIte,seval, -List.reduceReplicate,zn,zad,zaf,zaw,hnt]
    refine ztB (b:=b.take (b.length - 4)) (by rw[List.length_take];omega) (hbd.mono hle1) ?_
    repeat' first
     |with_reducible first|refine Nx.go ?_ |refine Bk.go (fun _=>?_) fun _=>?_ |refine Nb fun nb hnb hnb1 hnb2=>?_ |refine Nr fun nb nsp ncap hnb hncap hnb1 hnb2=>?_
     |simp -dsimp -implicitDefEqProofs (disch:=first|exact Kd|fail) only[go_sem,↓reduceIte,seval, -List.reduceReplicate,zn,zad,zaf,zaw,hnt,hwr]
    ·rename_i hsum
     revert nb
     intro b6 hb60 hb61 hb62
     have hso:zjy b:=Int.ofNat_inj.1 hsum
     have htkl:(b.take (b.length - 4)).length=b.length - 4:=by rw[List.length_take];omega
     have hmid:=Sl.mid (n:=b.length - 4) (m:=4) hr hc Ko Ko
     obtain⟨l0,hl0⟩: ∃l,l=(b.take (b.length - 4)).drop 4:=⟨_,rfl⟩
     rw[←hl0] at hmid
     have hl0l:l0.length≤200000000:=by rw[hl0,List.length_drop,htkl];omega
     refine ztN (s:=(false,l0)) hl0l (hmid.mono hle1) fun G2 v2 sv2 hle2 hs2 hI2 hsv2=>?_
     have hsmd:=zpX (false,l0)
     obtain⟨bad,lr,hrest⟩: ∃bad lr,(zaG (false,l0)).s=(bad,lr):=⟨_,_,rfl⟩
     have hdec: ∀d,Fit d→zaJ d=b→zax (false,l0)=d∧(zaG (false,l0)).s=(false,[]):=fun d hd e=>by
      have:=zmb hd
      rw[e,←hl0] at this
      exact this
     have hnot: ¬(bad=false∧lr=[]∧zc (zax (false,l0))∧zaJ (zax (false,l0))=b)→zcf b=(zao,3):=fun h=>zvW hf hso fun⟨d,hd,e⟩=>h (by
      obtain⟨e1,e2⟩:=hdec d hd e
      rw[hrest] at e2
      cases e2
      exact⟨rfl,rfl,e1▸hd.1,by rw[e1];exact e⟩)
     obtain⟨d0,hd0⟩: ∃d,d=zax (false,l0):=⟨_,rfl⟩
     have hfit:zc d0→Fit d0:=fun h=>by rw[hd0] at h⊢;exact ztT h
     rw[hrest] at hs2 hsv2⊢
     rw[←hd0] at hI2 hsmd hdec hnot
     obtain⟨C,an,al,ay,cn,cl,cs,rs,rfl,O⟩:=hI2.opened
     have hCl:=O.len
     have hCa:=O.all
     have hone:=zmc O.is
     have hput:=zmd hCl
     obtain⟨a2,c2,rfl,hr2,hc2⟩:=hsv2
     simp only at hs2⊢
     have hE:=hs2
     try simp only[zzs] at hE
     repeat(obtain⟨hx',hE⟩:=hE)
     rcases bad with _|_
     ·rcases lr with _| ⟨x,lr⟩
      ·by_cases hok:zc d0
       ·have hb:=zK hok
        repeat' first
         |with_reducible first|refine Nx.go ?_ |refine Bk.go (fun _=>?_) fun _=>?_ |refine Nb fun nb hnb hnb1 hnb2=>?_ |refine Nr fun nb nsp ncap hnb hncap hnb1 hnb2=>?_
         |simp -dsimp -implicitDefEqProofs (disch:=first|exact Kd|fail) only[go_sem,↓reduceIte,seval, -List.reduceReplicate,zn,zad,zaf,zaw,hCl,hCa,hone,hput]
         |with_reducible refine zaE hsmd O.is ?_
        rotate_left
        ·rename_i h;rw[hb] at h;cases h
        rename_i h7
        revert nb
        intro b7 hb70 hb71 hb72
        refine zr9 hsmd hok O.is fun v8 kb8 hbf8 hs8=>?_
        have hll:(zaJ d0).length≤50000004:=by
         have:=ziV hok O.ofl
         unfold zaJ;rw[List.length_append,zaZ];omega
        obtain⟨x8,c8,sp8,rfl,rfl,hc8⟩:=hbf8.own (by have:=(zeq d0).1;omega)
        have hE:=hs8
        try simp only[zzs] at hE
        repeat(obtain⟨hx',hE⟩:=hE)
        repeat' first
         |with_reducible first|refine Nx.go ?_ |refine Bk.go (fun _=>?_) fun _=>?_ |refine Nb fun nb hnb hnb1 hnb2=>?_ |refine Nr fun nb nsp ncap hnb hncap hnb1 hnb2=>?_
         |simp -dsimp -implicitDefEqProofs (disch:=first|exact Kd|fail) only[go_sem,↓reduceIte,seval, -List.reduceReplicate,zn,zad,zaf,zaw,hCl,hCa,hone,hput]
         | (refine FnT.share zvZ Ka fun G3 hle3 hs3 hr3=>?_;refine zvY (zaJ d0) b Ko ⟨_,_,rfl,hr3,by omega⟩ (hv0.mono ((hle1.trans hle2).trans hle3)) ?_;(have hE:=hs3;try simp only[zzs] at hE;repeat(obtain⟨hx',hE⟩:=hE)))
        ·rename_i he
         have hrd:zcf b=(d0,0):=by rw[←he];exact zmL (hfit hok)
         rw[hrd] at hR
         unfold zv
         refine Upd.leave (H':=H) Ks ?_
         exact fun _ hs=>hR G3 _ ((hle1.trans hle2).trans hle3) hs (O.is.mono hle3)
        ·rename_i he
         rw[hnot fun h=>he h.2.2.2] at hR
         unfold zv
         refine Upd.leave (H':=H) Ks ?_
         exact fun _ hs=>hR G3 _ ((hle1.trans hle2).trans hle3) hs (za2 _)
       ·have hb:=zA hok
        rw[hnot fun h=>hok h.2.2.1] at hR
        repeat' first
         |with_reducible first|refine Nx.go ?_ |refine Bk.go (fun _=>?_) fun _=>?_ |refine Nb fun nb hnb hnb1 hnb2=>?_ |refine Nr fun nb nsp ncap hnb hncap hnb1 hnb2=>?_
         |simp -dsimp -implicitDefEqProofs (disch:=first|exact Kd|fail) only[go_sem,↓reduceIte,seval, -List.reduceReplicate,zn,zad,zaf,zaw,hCl,hCa,hone,hput,hb]
         |with_reducible refine zaE hsmd O.is ?_
        unfold zv
        refine Upd.leave (H':=H) Ks ?_
        exact fun _ hs=>hR G2 _ (hle1.trans hle2) hs (za2 _)
      ·rw[hnot fun h=>by cases h.2.1] at hR
       repeat' first
        |with_reducible first|refine Nx.go ?_ |refine Bk.go (fun _=>?_) fun _=>?_ |refine Nb fun nb hnb hnb1 hnb2=>?_ |refine Nr fun nb nsp ncap hnb hncap hnb1 hnb2=>?_
        |simp -dsimp -implicitDefEqProofs (disch:=first|exact Kd|fail) only[go_sem,↓reduceIte,seval, -List.reduceReplicate,zn,zad,zaf,zaw,hCl,hCa,hone,hput]
       unfold zv
       refine Upd.leave (H':=H) Ks ?_
       exact fun _ hs=>hR G2 _ (hle1.trans hle2) hs (za2 _)
     ·rw[hnot fun h=>by cases h.1] at hR
      repeat' first
       |with_reducible first|refine Nx.go ?_ |refine Bk.go (fun _=>?_) fun _=>?_ |refine Nb fun nb hnb hnb1 hnb2=>?_ |refine Nr fun nb nsp ncap hnb hncap hnb1 hnb2=>?_
       |simp -dsimp -implicitDefEqProofs (disch:=first|exact Kd|fail) only[go_sem,↓reduceIte,seval, -List.reduceReplicate,zn,zad,zaf,zaw,hCl,hCa,hone,hput]
      unfold zv
      refine Upd.leave (H':=H) Ks ?_
      exact fun _ hs=>hR G2 _ (hle1.trans hle2) hs (za2 _)
    ·rename_i hsum
     rw[ztU hf fun h=>hsum (congrArg Int.ofNat h)] at hR
     unfold zv
     refine Upd.leave (H':=H) Ks ?_
     exact fun _ hs=>hR G1 _ hle1 hs (za2 _)
   ·rename_i h
    exact absurd hf2 h
  ·rw[zjY fun h=>hf2 h.2] at hR
   refine FnT.body tok [0,2,3,4,5,6,7,18,30,56] Tryz.func20 rfl Kk Kk (by show _≤59;simp) fun hsep=>?_
   rw[Tryz.results20]
   have hE:=hsep
   try simp only[zzs] at hE
   repeat(obtain⟨hx',hE⟩:=hE)
   repeat' first
    |with_reducible first|refine Nx.go ?_ |refine Bk.go (fun _=>?_) fun _=>?_ |refine Nb fun nb hnb hnb1 hnb2=>?_ |refine Nr fun nb nsp ncap hnb hncap hnb1 hnb2=>?_
    |simp -dsimp -implicitDefEqProofs (disch:=first|exact Kd|fail) only[go_sem,↓reduceIte,seval, -List.reduceReplicate,zn,zad,zaf,zaw,Row.rdSlAll hr4,List.length_map]
   ·rename_i h
    have:(b.take 4==zcs)=false:=by rw[beq_eq_false_iff_ne];exact hf2
    exact absurd (show b.take 4=zcs by assumption) hf2
   ·unfold zv
    refine Upd.leave (H':=H) Ks ?_
    exact fun _ hs=>hR G _ (PLe.refl _) hs (za2 _)
 ·rw[zjY fun h=>hs8 h.1] at hR
  refine FnT.body tok [0,2,3,4,5,6,7,18,30,56] Tryz.func20 rfl Kk Kk (by show _≤59;simp) fun hsep=>?_
  rw[Tryz.results20]
  have hE:=hsep
  try simp only[zzs] at hE
  repeat(obtain⟨hx',hE⟩:=hE)
  repeat' first
   |with_reducible first|refine Nx.go ?_ |refine Bk.go (fun _=>?_) fun _=>?_ |refine Nb fun nb hnb hnb1 hnb2=>?_ |refine Nr fun nb nsp ncap hnb hncap hnb1 hnb2=>?_
   |simp -dsimp -implicitDefEqProofs (disch:=first|exact Kd|fail) only[go_sem,↓reduceIte,seval, -List.reduceReplicate,zn,zad,zaf,zaw]
  unfold zv
  refine Upd.leave (H':=H) Ks ?_
  exact fun _ hs=>hR G _ (PLe.refl _) hs (za2 _)
end Go.Proofs.YtomdbjfdbkejoaaGreatDoor
namespace Go.Proofs.YtomdbjfdbkejoaaGreatDoor
open Go Go.V Go.Proofs
noncomputable def zhn (d:DfaT):List UInt8×Int:=if zaF (zc d)=true then(zaJ d,0) else([],6)
theorem zmM {d:DfaT} (h:zc d):zhn d=(zaJ d,0):=by unfold zhn;rw[if_pos (zK h)]
theorem zsb {d:DfaT} (h: ¬zc d):zhn d=([],6):=by unfold zhn;rw[if_neg (by rw[zA h];decide)]
theorem zow {d:DfaT} (hok:zc d) (hl:d.of.length=256):(zaJ d).length≤50000004:=by
 have:=ziV hok hl
 unfold zaJ;rw[List.length_append,zaZ];omega
theorem zv0 {d:DfaT} (hsm:zx d) {G:za} {H:zb} {R:Value→za→zb→Prop} {v:Value} (hv:IsD G d v)
  (hR: ∀G' v',PLe G G'→Sep G' (zm H)→Sl G' zB v' (zhn d).1→R (.tuple #[v', .int .i64 (zhn d).2]) G' H):FnT Tryz.prog 5 [v] G H R:=by
 obtain⟨C,an,al,ay,cn,cl,cs,rs,rfl,O⟩:=hv.opened
 have hCl:=O.len
 have hCa:=O.all
 refine FnT.sep ?_
 by_cases hok:zc d
 ·have hb:=zK hok
  rw[zmM hok] at hR
  refine FnT.body tok [0,1,2,3,6] Tryz.func5 rfl Kk Kk (by show _≤9;simp) fun hsep=>?_
  rw[Tryz.results5]
  have hE:=hsep
  try simp only[zzs] at hE
  repeat(obtain⟨hx',hE⟩:=hE)
  repeat' first
   |with_reducible first|refine Nx.go ?_ |refine Bk.go (fun _=>?_) fun _=>?_ |refine Nb fun nb hnb hnb1 hnb2=>?_
   |simp -dsimp -implicitDefEqProofs (disch:=first|exact Kd|fail) only[go_sem,↓reduceIte,seval, -List.reduceReplicate,List.toList_toArray,hCl,hCa,hb]
   |with_reducible refine zaE hsm O.is ?_
  obtain⟨b1,e0⟩: ∃x,x=nb:=⟨_,rfl⟩
  subst e0
  refine zr9 hsm hok O.is fun v8 kb8 hbf8 hs8=>?_
  have hll:=zow hok O.ofl
  obtain⟨x8,c8,sp8,rfl,rfl,hc8⟩:=hbf8.own (by have:=(zeq d).1;omega)
  have hE:=hs8
  try simp only[zzs] at hE
  repeat(obtain⟨hx',hE⟩:=hE)
  repeat' first
   |with_reducible first|refine Nx.go ?_ |refine Bk.go (fun _=>?_) fun _=>?_ |refine Nb fun nb hnb hnb1 hnb2=>?_
   |simp -dsimp -implicitDefEqProofs (disch:=first|exact Kd|fail) only[go_sem,↓reduceIte,seval, -List.reduceReplicate,List.toList_toArray,hCl,hCa]
  unfold zv
  refine Upd.go (H':=(x8, .cells ((zaJ d).map zB) sp8 5)::H) Ks (Upd.shareRow Ka fun G9 hle9 hs9 hr9=>?_)
  exact fun _ hs=>hR G9 _ hle9 hs ⟨_,_,rfl,hr9,by show(zaJ d).length≤_;omega⟩
 ·have hb:=zA hok
  rw[zsb hok] at hR
  refine FnT.body tok [0,1,2,3,6] Tryz.func5 rfl Kk Kk (by show _≤9;simp) fun hsep=>?_
  rw[Tryz.results5]
  have hE:=hsep
  try simp only[zzs] at hE
  repeat(obtain⟨hx',hE⟩:=hE)
  repeat' first
   |with_reducible first|refine Nx.go ?_ |refine Bk.go (fun _=>?_) fun _=>?_ |refine Nb fun nb hnb hnb1 hnb2=>?_
   |simp -dsimp -implicitDefEqProofs (disch:=first|exact Kd|fail) only[go_sem,↓reduceIte,seval, -List.reduceReplicate,List.toList_toArray,hCl,hCa,hb]
   |with_reducible refine zaE hsm O.is ?_
  unfold zv
  refine Upd.leave (H':=H) Ks ?_
  exact fun _ hs=>hR G _ (PLe.refl _) hs ⟨none,0,rfl,Row.nil _ _,Nat.le_refl _⟩
end Go.Proofs.YtomdbjfdbkejoaaGreatDoor
