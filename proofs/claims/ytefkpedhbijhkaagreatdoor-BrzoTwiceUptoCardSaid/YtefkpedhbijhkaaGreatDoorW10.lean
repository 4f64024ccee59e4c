/- A part of the proof, joined of several texts: the verification layer, contracts of functions, plain law. -/
import Derived.Test.YtefkpedhbijhkaaGreatDoorW9
set_option maxHeartbeats 64000000
set_option linter.unusedSimpArgs false
set_option linter.unusedVariables false
set_option linter.unusedSectionVars false
namespace Go.Proofs.YtefkpedhbijhkaaGreatDoor
open Go Go.V Go.Proofs
theorem Rea.lt {a b n:Nat} {f g:Nat→Nat} (h:Rea a b f g) (hb:b≤n) (hf: ∀i,i<n→f i<n): ∀i,i<n→g i<n:=fun i hi=>by
 by_cases h1:a≤i∧i<b
 ·obtain⟨j,h2,h3,h4⟩:=h.from h1.1 h1.2
  rw[h4];exact hf j Ko
 ·rw[h.out Ko];exact hf i hi
theorem zgC {n a b c:Nat} (h:a+c≤b) (hb:b+c≤n) (hn:n≤2000000) {f:Nat→Nat} {sp:List Value} {bd cd:Nat} {vf:Value} {G:za} {H:zb} {R:Value→za→zb→Prop}
  (hR:R (.tuple #[]) G ((bd, .cells (zj n (zbu f a b c)) sp 3)::H)):FnT Tryz.prog 154 [.slice (some ⟨bd,0,none⟩) n cd, .int .i64 (a:Nat), .int .i64 (b:Nat), .int .i64 (c:Nat),vf] G ((bd, .cells (zj n f) sp 3)::H) R:=by
 refine FnT.body tok [0,1,2,3,10,13] Tryz.func154 rfl Kk Kk (by show _≤38;simp) fun hsep=>?_
 rw[Tryz.results154]
 have hE:=hsep
 try simp only[zzs] at hE
 repeat(obtain⟨hx',hE⟩:=hE)
 repeat' first
  |with_reducible first|refine Nx.go ?_ |refine Bk.go (fun _=>?_) fun _=>?_ |refine Nb fun nb hnb hnb1 hnb2=>?_
  |simp -dsimp -implicitDefEqProofs (disch:=first|exact Kd|fail) only[go_sem,↓reduceIte,seval]
 refine Tri.loopU tok [0,1,2,3,10,13] Kk [0,1,2,3,10] (fun q G' fr H'=> ∃i:Nat,i+q=c∧G'=G∧H'=(bd, .cells (zj n (zbu f a b i)) sp 3)::H∧fr=[(0, .slice (some ⟨bd,0,none⟩) n cd),(1, .int .i64 (a:Nat)),(2, .int .i64 (b:Nat)),(3, .int .i64 (c:Nat)),(10, .int .i64 (i:Nat))]) (c) ?_ ?_
 ·exact Upd.now ⟨0,by omega,rfl,by rw[zs9],rfl⟩
 ·rintro q G1 fr H1 hle hs1 ⟨i,hiq,rfl,rfl,rfl⟩
  have hE:=hs1
  try simp only[zzs] at hE
  repeat(obtain⟨hx',hE⟩:=hE)
  by_cases hi:i<c
  ·have e1:(a:Int)+(i:Int)=((a+i:Nat):Int):=by omega
   have e2:(b:Int)+(i:Int)=((b+i:Nat):Int):=by omega
   have hg1:=zaJ (zbu f a b i) (sp:=sp) (show b+i<n by omega)
   have hg2:=zaJ (zbu f a b i) (sp:=sp) (show a+i<n by omega)
   have hp1:=za6 (zbu f a b i) (show a+i<n by omega) (zbu f a b i (b+i))
   have hp2:=za6 (zo (zbu f a b i) (a+i) (zbu f a b i (b+i))) (show b+i<n by omega) (zbu f a b i (a+i))
   have hst:zo (zo (zbu f a b i) (a+i) (zbu f a b i (b+i))) (b+i) (zbu f a b i (a+i))=zbu f a b (i+1):=zta f Ko
   rw[hst] at hp2
   repeat' first
    |with_reducible first|refine Nx.go ?_ |refine Bk.go (fun _=>?_) fun _=>?_ |refine Nb fun nb hnb hnb1 hnb2=>?_
    |simp -dsimp -implicitDefEqProofs (disch:=first|exact Kd|fail) only[go_sem,↓reduceIte,seval,e1,e2,hg1,hg2,hp1,hp2,zbk]
    |with_reducible refine Tri.drawS tok mixed [0,1,2,3,10,13] 3 [13,19] (.op 0 .plain (.op 1 .plain (.op 2 .plain (.op 3 .plain (.op 4 .plain (.op 5 .plain (.op 6 .plain (.op 7 .plain (.op 8 .plain (.op 9 .plain (.op 10 .plain (.op 11 .plain (.op 12 .plain (.op 13 .held (.op 14 .plain (.op 15 .plain (.op 16 .plain (.op 17 .plain (.op 18 .plain (.op 19 .held (.op 20 .plain (.op 21 .plain (.op 22 .plain (.op 23 .plain .nil)))))))))))))))))))))))) Kk [(bd, .cells (zj n (zbu f a b i)) sp 3)] Ks ?_
   exact Upd.now ⟨q - 1,by omega,i+1,by omega,rfl,rfl,rfl⟩
  ·obtain rfl:i=c:=by omega
   repeat' first
    |with_reducible first|refine Nx.go ?_ |refine Bk.go (fun _=>?_) fun _=>?_ |refine Nb fun nb hnb hnb1 hnb2=>?_
    |simp -dsimp -implicitDefEqProofs (disch:=first|exact Kd|fail) only[go_sem,↓reduceIte,seval]
   all_goals refine Upd.finL ?_ hR ?_
   any_goals first|exact Ks|skip
   rfl
theorem zvj {n a m b:Nat} (h1:a<m) (h2:m<b) (hb:b≤n) (hn:n≤2000000) {f:Nat→Nat} {sp:List Value} {bd cd:Nat} {vf:Value} {G:za} {H:zb} {R:Value→za→zb→Prop}
  (hR:R (.tuple #[]) G ((bd, .cells (zj n (zcf f a m b)) sp 3)::H)):FnT Tryz.prog 153 [.slice (some ⟨bd,0,none⟩) n cd, .int .i64 (a:Nat), .int .i64 (m:Nat), .int .i64 (b:Nat),vf] G ((bd, .cells (zj n f) sp 3)::H) R:=by
 have e1:(m:Int) - (a:Int)=((m - a:Nat):Int):=by omega
 have e2:(b:Int) - (m:Int)=((b - m:Nat):Int):=by omega
 refine FnT.body tok [0,1,2,3,4,10,11,20,23] Tryz.func153 rfl Kk Kk (by show _≤58;simp) fun hsep=>?_
 rw[Tryz.results153]
 have hE:=hsep
 try simp only[zzs] at hE
 repeat(obtain⟨hx',hE⟩:=hE)
 repeat' first
  |with_reducible first|refine Nx.go ?_ |refine Bk.go (fun _=>?_) fun _=>?_ |refine Nb fun nb hnb hnb1 hnb2=>?_
  |simp -dsimp -implicitDefEqProofs (disch:=first|exact Kd|fail) only[go_sem,↓reduceIte,seval,e1,e2]
 refine Tri.loopU tok [0,1,2,3,4,10,11,20,23] Kk [0,1,2,3,4,10,11] (fun q G' fr H'=> ∃ (i j:Nat) (g:Nat→Nat),i+j=q∧0<i∧0<j∧i≤m∧m+j≤n∧zcf g (m - i) m (m+j)=zcf f a m b∧G'=G∧H'=(bd, .cells (zj n g) sp 3)::H∧fr=[(0, .slice (some ⟨bd,0,none⟩) n cd),(1, .int .i64 (a:Nat)),(2, .int .i64 (m:Nat)),(3, .int .i64 (b:Nat)),(4,vf),(10, .int .i64 (i:Nat)),(11, .int .i64 (j:Nat))]) ((b - a)) ?_ ?_
 ·exact Upd.now ⟨m - a,b - m,f,by omega,by omega,by omega,by omega,by omega,by rw[show m - (m - a)=a by omega,show m+(b - m)=b by omega],rfl,rfl,rfl⟩
 ·rintro q G1 fr H1 hle hs1 ⟨i,j,g,hq,hi,hj,him,hmj,hrot,rfl,rfl,rfl⟩
  have hE:=hs1
  try simp only[zzs] at hE
  repeat(obtain⟨hx',hE⟩:=hE)
  have e3:(m:Int) - (i:Int)=((m - i:Nat):Int):=by omega
  rcases Nat.lt_trichotomy i j with hij|hij|hij
  ·have e4:(m:Int)+(j:Int) - (i:Int)=((m+j - i:Nat):Int):=by omega
   have e5:(j:Int) - (i:Int)=((j - i:Nat):Int):=by omega
   repeat' first
    |with_reducible first|refine Nx.go ?_ |refine Bk.go (fun _=>?_) fun _=>?_ |refine Nb fun nb hnb hnb1 hnb2=>?_
    |simp -dsimp -implicitDefEqProofs (disch:=first|exact Kd|fail) only[go_sem,↓reduceIte,seval,e3,e4,e5]
    |with_reducible refine zgC Ko Ko hn ?_
   exact Upd.now ⟨q - i,by omega,i,j - i,_,by omega,hi,by omega,him,by omega,by rw[zrj g him hi hij,hrot],rfl,rfl,rfl⟩
  ·subst hij
   rw[←hrot,←ztc g him] at hR
   repeat' first
    |with_reducible first|refine Nx.go ?_ |refine Bk.go (fun _=>?_) fun _=>?_ |refine Nb fun nb hnb hnb1 hnb2=>?_
    |simp -dsimp -implicitDefEqProofs (disch:=first|exact Kd|fail) only[go_sem,↓reduceIte,seval,e3]
    |with_reducible refine zgC Ko Ko hn ?_
   all_goals refine Upd.finL ?_ hR ?_
   any_goals first|exact Ks|skip
   rfl
  ·have e5:(i:Int) - (j:Int)=((i - j:Nat):Int):=by omega
   repeat' first
    |with_reducible first|refine Nx.go ?_ |refine Bk.go (fun _=>?_) fun _=>?_ |refine Nb fun nb hnb hnb1 hnb2=>?_
    |simp -dsimp -implicitDefEqProofs (disch:=first|exact Kd|fail) only[go_sem,↓reduceIte,seval,e3,e5]
    |with_reducible refine zgC Ko Ko hn ?_
   exact Upd.now ⟨q - j,by omega,i - j,j,_,by omega,by omega,hj,by omega,hmj,by rw[ztb g him hj hij,hrot],rfl,rfl,rfl⟩
def zdO (P:Program) (fid:FuncId) (cp:Value) (key:Nat→Int) (n:Nat) (bd:Nat) (sp:List Value) (G:za) (H:zb):Prop:= ∀ (x y:Nat) (g:Nat→Nat) (R:Value→za→zb→Prop),x<n→y<n→R (.int .i64 (key x - key y)) G ((bd, .cells (zj n g) sp 3)::H)→FnT P fid [.int .i64 (x:Nat), .int .i64 (y:Nat),cp] G ((bd, .cells (zj n g) sp 3)::H) R
theorem zdO.go {P:Program} {fid:FuncId} {cp:Value} {key:Nat→Int} {n bd:Nat} {sp:List Value} {G:za} {H:zb} (hc:zdO P fid cp key n bd sp G H) {x y:Nat} {g:Nat→Nat} {R:Value→za→zb→Prop} (hx:x<n) (hy:y<n) (hR:R (.int .i64 (key x - key y)) G ((bd, .cells (zj n g) sp 3)::H)):FnT P fid [.int .i64 (x:Nat), .int .i64 (y:Nat),cp] G ((bd, .cells (zj n g) sp 3)::H) R:=hc x y g R hx hy hR
theorem znR {n a b:Nat} (hab:a≤b) (hb:b≤n) (hn:n≤2000000) {f:Nat→Nat} (hf: ∀i,i<n→f i<n) {key:Nat→Int} {sp:List Value} {bd cd:Nat} {fid:FuncId} {cp:Value} {G:za} {H:zb} {R:Value→za→zb→Prop} (hc:zdO Tryz.prog fid cp key n bd sp G H)
  (hR: ∀g,Rea a b f g→zP key g a b→R (.tuple #[]) G ((bd, .cells (zj n g) sp 3)::H)):FnT Tryz.prog 150 [.slice (some ⟨bd,0,none⟩) n cd, .int .i64 (a:Nat), .int .i64 (b:Nat), .func (.func fid) #[] #[cp]] G ((bd, .cells (zj n f) sp 3)::H) R:=by
 refine FnT.body tok [0,1,2,3,8,9,14,34] Tryz.func150 rfl Kk Kk (by show _≤53;simp) fun hsep=>?_
 rw[Tryz.results150]
 have hE:=hsep
 try simp only[zzs] at hE
 repeat(obtain⟨hx',hE⟩:=hE)
 repeat' first
  |with_reducible first|refine Nx.go ?_ |refine Bk.go (fun _=>?_) fun _=>?_ |refine Nb fun nb hnb hnb1 hnb2=>?_
  |simp -dsimp -implicitDefEqProofs (disch:=first|exact Kd|fail) only[go_sem,↓reduceIte,seval]
 refine Tri.loopU tok [0,1,2,3,8,9,14,34] Kk [0,1,2,3,8] (fun q G' fr H'=> ∃ (i:Nat) (g:Nat→Nat),(i - a)+q=b - a+1∧a<i∧(i≤b∨i=a+1)∧Rea a b f g∧zP key g a i∧G'=G∧H'=(bd, .cells (zj n g) sp 3)::H∧fr=[(0, .slice (some ⟨bd,0,none⟩) n cd),(1, .int .i64 (a:Nat)),(2, .int .i64 (b:Nat)),(3, .func (.func fid) #[] #[cp]),(8, .int .i64 (i:Nat))]) ((b - a)) ?_ ?_
 ·exact Upd.now ⟨a+1,f,by omega,by omega, .inr rfl,Rea.refl _ _ _,zP.small (Nat.le_refl _),rfl,rfl,rfl⟩
 ·rintro q G1 fr H1 hle hs1 ⟨i,g,hq,hai,hib,hr,hs,rfl,rfl,rfl⟩
  have hE:=hs1
  try simp only[zzs] at hE
  repeat(obtain⟨hx',hE⟩:=hE)
  by_cases hi:i<b
  ·repeat' first
    |with_reducible first|refine Nx.go ?_ |refine Bk.go (fun _=>?_) fun _=>?_ |refine Nb fun nb hnb hnb1 hnb2=>?_
    |simp -dsimp -implicitDefEqProofs (disch:=first|exact Kd|fail) only[go_sem,↓reduceIte,seval]
   refine Tri.loopU tok [0,1,2,3,8,9,14,34] Kk [0,1,2,3,8,9] (fun q2 G' fr H'=> ∃ (j:Nat) (g:Nat→Nat),j=q2∧a≤j∧j≤i∧Rea a b f g∧zhy key g a i j∧G'=G1∧H'=(bd, .cells (zj n g) sp 3)::H∧fr=[(0, .slice (some ⟨bd,0,none⟩) n cd),(1, .int .i64 (a:Nat)),(2, .int .i64 (b:Nat)),(3, .func (.func fid) #[] #[cp]),(8, .int .i64 (i:Nat)),(9, .int .i64 (j:Nat))]) (i) ?_ ?_
   ·exact Upd.now ⟨i,g,rfl,by omega,Nat.le_refl _,hr,zhy.start hs,rfl,rfl,rfl⟩
   ·rintro q2 G2 fr H2 hle2 hs2 ⟨j,g,rfl,haj,hji,hr,hI,rfl,rfl,rfl⟩
    have hE:=hs2
    try simp only[zzs] at hE
    repeat(obtain⟨hx',hE⟩:=hE)
    by_cases hj:a<j
    ·have e1:(j:Int) - 1=((j - 1 :Nat):Int):=by omega
     have hg1:=zaJ g (sp:=sp) (show j<n by omega)
     have hg2:=zaJ g (sp:=sp) (show j - 1<n by omega)
     have hf2:=hr.lt hb hf
     have hl1:=hf2 j Ko
     have hl2:=hf2 (j - 1) Ko
     by_cases hk:key (g j) <key (g (j - 1))
     ·have hp1:=za6 g (show j<n by omega) (g (j - 1))
      have hp2:=za6 (zo g j (g (j - 1))) (show j - 1<n by omega) (g j)
      have hsw:zo (zo g j (g (j - 1))) (j - 1) (g j)=zfQ g j (j - 1):=rfl
      rw[hsw] at hp2
      repeat' first
       |with_reducible first|refine Nx.go ?_ |refine Bk.go (fun _=>?_) fun _=>?_ |refine Nb fun nb hnb hnb1 hnb2=>?_
       |simp -dsimp -implicitDefEqProofs (disch:=first|exact Kd|fail) only[go_sem,↓reduceIte,seval,e1,hg1,hg2,hp1,hp2,zbk]
       |with_reducible refine Tri.drawS tok mixed [0,1,2,3,8,9,14,34] 4 [8,13] (.op 0 .plain (.op 1 .plain (.op 2 .plain (.op 3 .plain (.op 4 .plain (.op 5 .plain (.op 6 .plain (.op 7 .plain (.op 8 .held (.op 9 .plain (.op 10 .plain (.op 11 .plain (.op 12 .plain (.op 13 .held (.op 14 .plain (.op 15 .plain (.op 16 .plain .nil))))))))))))))))) Kk [(bd, .cells (zj n g) sp 3)] Ks ?_
       |with_reducible refine Tri.drawS tok mixed [0,1,2,3,8,9,14,34] 6 [9,13] (.op 0 .plain (.op 1 .plain (.op 2 .plain (.op 3 .plain (.op 4 .plain (.op 5 .plain (.op 6 .plain (.op 7 .plain (.op 8 .plain (.op 9 .held (.op 10 .plain (.op 11 .plain (.op 12 .plain (.op 13 .held (.op 14 .plain (.op 15 .plain (.op 16 .plain (.op 17 .plain .nil)))))))))))))))))) Kk [(bd, .cells (zj n g) sp 3)] Ks ?_
       |with_reducible refine zdO.go hc hl1 hl2 ?_
      exact Upd.now ⟨j - 1,by omega,j - 1,_,rfl,by omega,by omega,hr.trans (Rea.swap g Ko Ko Ko Ko),hI.swap hj hji hk,rfl,rfl,rfl⟩
     ·repeat' first
       |with_reducible first|refine Nx.go ?_ |refine Bk.go (fun _=>?_) fun _=>?_ |refine Nb fun nb hnb hnb1 hnb2=>?_
       |simp -dsimp -implicitDefEqProofs (disch:=first|exact Kd|fail) only[go_sem,↓reduceIte,seval,e1,hg1,hg2,zbk]
       |with_reducible refine Tri.drawS tok mixed [0,1,2,3,8,9,14,34] 4 [8,13] (.op 0 .plain (.op 1 .plain (.op 2 .plain (.op 3 .plain (.op 4 .plain (.op 5 .plain (.op 6 .plain (.op 7 .plain (.op 8 .held (.op 9 .plain (.op 10 .plain (.op 11 .plain (.op 12 .plain (.op 13 .held (.op 14 .plain (.op 15 .plain (.op 16 .plain .nil))))))))))))))))) Kk [(bd, .cells (zj n g) sp 3)] Ks ?_
       |with_reducible refine zdO.go hc hl1 hl2 ?_
      exact Upd.now ⟨q - 1,by omega,i+1,g,by omega,by omega, .inl Ko,hr,hI.done haj (.inr Ko),rfl,rfl,rfl⟩
    ·repeat' first
      |with_reducible first|refine Nx.go ?_ |refine Bk.go (fun _=>?_) fun _=>?_ |refine Nb fun nb hnb hnb1 hnb2=>?_
      |simp -dsimp -implicitDefEqProofs (disch:=first|exact Kd|fail) only[go_sem,↓reduceIte,seval]
      |with_reducible refine Tri.drawS tok mixed [0,1,2,3,8,9,14,34] 4 [8,13] (.op 0 .plain (.op 1 .plain (.op 2 .plain (.op 3 .plain (.op 4 .plain (.op 5 .plain (.op 6 .plain (.op 7 .plain (.op 8 .held (.op 9 .plain (.op 10 .plain (.op 11 .plain (.op 12 .plain (.op 13 .held (.op 14 .plain (.op 15 .plain (.op 16 .plain .nil))))))))))))))))) Kk [(bd, .cells (zj n g) sp 3)] Ks ?_
     exact Upd.now ⟨q - 1,by omega,i+1,g,by omega,by omega, .inl Ko,hr,hI.done haj (.inl Ko),rfl,rfl,rfl⟩
  ·repeat' first
    |with_reducible first|refine Nx.go ?_ |refine Bk.go (fun _=>?_) fun _=>?_ |refine Nb fun nb hnb hnb1 hnb2=>?_
    |simp -dsimp -implicitDefEqProofs (disch:=first|exact Kd|fail) only[go_sem,↓reduceIte,seval]
   all_goals refine Upd.finL ?_ (hR g hr (hs.sub (Nat.le_refl _) Ko)) ?_
   any_goals first|exact Ks|skip
   rfl
end Go.Proofs.YtefkpedhbijhkaaGreatDoor
namespace Go.Proofs.YtefkpedhbijhkaaGreatDoor
open Go Go.V Go.Proofs
theorem zxv {n a m b:Nat} (ham:m=a+1) (hmb:m<b) (hb:b≤n) (hn:n≤2000000) {f:Nat→Nat} (hf: ∀i,i<n→f i<n) {key:Nat→Int} {sp:List Value} {bd cd:Nat} {fid:FuncId} {cp:Value} {G:za} {H:zb} (hc:zdO Tryz.prog fid cp key n bd sp G H) (hs:zP key f m b):
  Tri Tryz.prog Tryz.f151.ntmps (piece [0,1,0] Tryz.f151) G [(0, .slice (some ⟨bd,0,none⟩) n cd),(1, .int .i64 (a:Nat)),(2, .int .i64 (m:Nat)),(3, .int .i64 (b:Nat)),(4, .func (.func fid) #[] #[cp])] ((bd, .cells (zj n f) sp 3)::H) (V.onlyR fun G' l' H'=> ∃g,Rea a b f g∧zP key g a b∧G'=G∧H'=(bd, .cells (zj n g) sp 3)::H):=by
 have hfa:=hf a Ko
 have hga:=zaJ f (sp:=sp) (show a<n by omega)
 refine Tri.piece (f:=Tryz.f151) rfl ?_
 refine Tri.runS tok [0,1,2,3,4,10,11,12,13,14,15,16,17,18,19,20,21,22,23,24,28,33,50,58,80,85,103,110,140,151,171,185,199,213] (.seq .run (.seq .run (.seq .run .cut))) Kk ?_
 repeat' first
  |with_reducible first|refine Nx.go ?_ |refine Bk.go (fun _=>?_) fun _=>?_ |refine Nb fun nb hnb hnb1 hnb2=>?_ |refine Nr fun nb nsp ncap hnb hncap hnb1 hnb2=>?_
  |simp -dsimp -implicitDefEqProofs (disch:=first|exact Kd|fail) only[go_sem,↓reduceIte,seval]
 refine Tri.loopU tok [0,1,2,3,4,10,11,12,13,14,15,16,17,18,19,20,21,22,23,24,28,33,50,58,80,85,103,110,140,151,171,185,199,213] Kk [0,1,2,3,4,10,11] (fun q G' fr H'=> ∃ (i j:Nat),j - i=q∧m≤i∧i≤j∧j≤b∧(∀x,m≤x→x<i→key (f x) <key (f a))∧(∀x,j≤x→x<b→key (f a)≤key (f x))∧G'=G∧H'=(bd, .cells (zj n f) sp 3)::H∧fr=[(0, .slice (some ⟨bd,0,none⟩) n cd),(1, .int .i64 (a:Nat)),(2, .int .i64 (m:Nat)),(3, .int .i64 (b:Nat)),(4, .func (.func fid) #[] #[cp]),(10, .int .i64 (i:Nat)),(11, .int .i64 (j:Nat))]) ((b - m)) ?_ ?_
 ·exact Upd.now ⟨m,b,rfl,by omega,by omega,by omega,fun x h1 h2=>by omega,fun x h1 h2=>by omega,rfl,rfl,rfl⟩
 ·rintro q G1 fr H1 hle hs1 ⟨i,j,hq,hmi,hij,hjb,hlo,hhi,rfl,rfl,rfl⟩
  have hE:=hs1
  try simp only[zzs] at hE
  repeat(obtain⟨hx',hE⟩:=hE)
  by_cases hlt:i<j
  ·obtain⟨h,hh⟩: ∃h,h=(i+j) / 2:=⟨_,rfl⟩
   have e1:((i:Int)+(j:Int)) / 2=(h:Int):=by omega
   have hg1:=zaJ f (sp:=sp) (show h<n by omega)
   have hl1:=hf h Ko
   repeat' first
    |with_reducible first|refine Nx.go ?_ |refine Bk.go (fun _=>?_) fun _=>?_ |refine Nb fun nb hnb hnb1 hnb2=>?_ |refine Nr fun nb nsp ncap hnb hncap hnb1 hnb2=>?_
    |simp -dsimp -implicitDefEqProofs (disch:=first|exact Kd|fail) only[go_sem,↓reduceIte,seval,e1,hg1,hga,zbk]
    |with_reducible refine Tri.drawS tok mixed [0,1,2,3,4,10,11,12,13,14,15,16,17,18,19,20,21,22,23,24,28,33,50,58,80,85,103,110,140,151,171,185,199,213] 5 [4,8] (.op 0 .plain (.op 1 .plain (.op 2 .plain (.op 3 .plain (.op 4 .held (.op 5 .plain (.op 6 .plain (.op 7 .plain (.op 8 .held (.op 9 .plain (.op 10 .plain .nil))))))))))) Kk [(bd, .cells (zj n f) sp 3)] Ks ?_
    |with_reducible refine zdO.go hc hl1 hfa ?_
   ·rename_i hk
    exact Upd.now ⟨j - (h+1),by omega,h+1,j,rfl,by omega,by omega,hjb,fun x h1 h2=>by
     have:=hs.le h1 (show x≤h by omega) Ko
     omega,hhi,rfl,rfl,rfl⟩
   ·rename_i hk
    exact Upd.now ⟨h - i,by omega,i,h,rfl,hmi,by omega,by omega,hlo,fun x h1 h2=>by
     have:=hs.le (show m≤h by omega) h1 Ko
     omega,rfl,rfl,rfl⟩
  ·obtain rfl:i=j:=by omega
   repeat' first
    |with_reducible first|refine Nx.go ?_ |refine Bk.go (fun _=>?_) fun _=>?_ |refine Nb fun nb hnb hnb1 hnb2=>?_ |refine Nr fun nb nsp ncap hnb hncap hnb1 hnb2=>?_
    |simp -dsimp -implicitDefEqProofs (disch:=first|exact Kd|fail) only[go_sem,↓reduceIte,seval]
   refine Tri.run tok [0,1,2,3,4,10,11,12,13,14,15,16,17,18,19,20,21,22,23,24,28,33,50,58,80,85,103,110,140,151,171,185,199,213] Kk ?_
   repeat' first
    |with_reducible first|refine Nx.go ?_ |refine Bk.go (fun _=>?_) fun _=>?_ |refine Nb fun nb hnb hnb1 hnb2=>?_ |refine Nr fun nb nsp ncap hnb hncap hnb1 hnb2=>?_
    |simp -dsimp -implicitDefEqProofs (disch:=first|exact Kd|fail) only[go_sem,↓reduceIte,seval]
   refine Tri.loopU tok [0,1,2,3,4,10,11,12,13,14,15,16,17,18,19,20,21,22,23,24,28,33,50,58,80,85,103,110,140,151,171,185,199,213] Kk [0,10,13] (fun q G' fr H'=> ∃k:Nat,i - 1 - k=q∧a≤k∧k≤i - 1∧G'=G1∧H'=(bd, .cells (zj n (upM f a k)) sp 3)::H∧fr=[(0, .slice (some ⟨bd,0,none⟩) n cd),(10, .int .i64 (i:Nat)),(13, .int .i64 (k:Nat))]) ((i - 1 - a)) ?_ ?_
   ·exact Upd.now ⟨a,rfl,Nat.le_refl _,by omega,rfl,by rw[zjR],rfl⟩
   ·rintro q2 G2 fr H2 hle2 hs2 ⟨k,hq2,hak,hki,rfl,rfl,rfl⟩
    have hE:=hs2
    try simp only[zzs] at hE
    repeat(obtain⟨hx',hE⟩:=hE)
    have e1:(i:Int) - 1=((i - 1 :Nat):Int):=by omega
    by_cases hk:k<i - 1
    ·have e2:(k:Int)+1=((k+1 :Nat):Int):=by omega
     have hg1:=zaJ (upM f a k) (sp:=sp) (show k<n by omega)
     have hg2:=zaJ (upM f a k) (sp:=sp) (show k+1<n by omega)
     have hp1:=za6 (upM f a k) (show k<n by omega) (upM f a k (k+1))
     have hp2:=za6 (zo (upM f a k) k (upM f a k (k+1))) (show k+1<n by omega) (upM f a k k)
     have hsw:zo (zo (upM f a k) k (upM f a k (k+1))) (k+1) (upM f a k k)=upM f a (k+1):=znO f hak
     rw[hsw] at hp2
     repeat' first
      |with_reducible first|refine Nx.go ?_ |refine Bk.go (fun _=>?_) fun _=>?_ |refine Nb fun nb hnb hnb1 hnb2=>?_ |refine Nr fun nb nsp ncap hnb hncap hnb1 hnb2=>?_
      |simp -dsimp -implicitDefEqProofs (disch:=first|exact Kd|fail) only[go_sem,↓reduceIte,seval,e1,e2,hg1,hg2,hp1,hp2,zbk]
      |with_reducible refine Tri.drawS tok mixed [0,1,2,3,4,10,11,12,13,14,15,16,17,18,19,20,21,22,23,24,28,33,50,58,80,85,103,110,140,151,171,185,199,213] 11 [9,13] (.op 0 .plain (.op 1 .plain (.op 2 .plain (.op 3 .plain (.op 4 .plain (.op 5 .plain (.op 6 .plain (.op 7 .plain (.op 8 .plain (.op 9 .held (.op 10 .plain (.op 11 .plain (.op 12 .plain (.op 13 .held (.op 14 .plain (.op 15 .plain (.op 16 .plain (.op 17 .plain .nil)))))))))))))))))) Kk [(bd, .cells (zj n (upM f a k)) sp 3)] Ks ?_
     exact Upd.now ⟨i - 1 - (k+1),by omega,k+1,rfl,by omega,by omega,rfl,rfl,rfl⟩
    ·obtain rfl:k=i - 1:=by omega
     repeat' first
      |with_reducible first|refine Nx.go ?_ |refine Bk.go (fun _=>?_) fun _=>?_ |refine Nb fun nb hnb hnb1 hnb2=>?_ |refine Nr fun nb nsp ncap hnb hncap hnb1 hnb2=>?_
      |simp -dsimp -implicitDefEqProofs (disch:=first|exact Kd|fail) only[go_sem,↓reduceIte,seval,e1]
     exact Upd.now ⟨_,zpG f (i - 1) hak Ko,zrh (hs.sub Ko (Nat.le_refl _)) Ko hjb (fun x h1 h2=>hlo x Ko h2) hhi,rfl,rfl⟩
theorem zxw {n a m b:Nat} (ham:a<m) (hmb:b=m+1) (hb:b≤n) (hn:n≤2000000) {f:Nat→Nat} (hf: ∀i,i<n→f i<n) {key:Nat→Int} {sp:List Value} {bd cd:Nat} {fid:FuncId} {cp:Value} {G:za} {H:zb} (hc:zdO Tryz.prog fid cp key n bd sp G H) (hs:zP key f a m):
  Tri Tryz.prog Tryz.f151.ntmps (piece [1,0,1,0] Tryz.f151) G [(0, .slice (some ⟨bd,0,none⟩) n cd),(1, .int .i64 (a:Nat)),(2, .int .i64 (m:Nat)),(3, .int .i64 (b:Nat)),(4, .func (.func fid) #[] #[cp])] ((bd, .cells (zj n f) sp 3)::H) (V.onlyR fun G' l' H'=> ∃g,Rea a b f g∧zP key g a b∧G'=G∧H'=(bd, .cells (zj n g) sp 3)::H):=by
 have hfm:=hf m Ko
 have hgm:=zaJ f (sp:=sp) (show m<n by omega)
 refine Tri.piece (f:=Tryz.f151) rfl ?_
 refine Tri.runS tok [0,1,2,3,4,10,11,12,13,14,15,16,17,18,19,20,21,22,23,24,28,33,50,58,80,85,103,110,140,151,171,185,199,213] (.seq .run (.seq .run (.seq .run .cut))) Kk ?_
 repeat' first
  |with_reducible first|refine Nx.go ?_ |refine Bk.go (fun _=>?_) fun _=>?_ |refine Nb fun nb hnb hnb1 hnb2=>?_ |refine Nr fun nb nsp ncap hnb hncap hnb1 hnb2=>?_
  |simp -dsimp -implicitDefEqProofs (disch:=first|exact Kd|fail) only[go_sem,↓reduceIte,seval]
 refine Tri.loopU tok [0,1,2,3,4,10,11,12,13,14,15,16,17,18,19,20,21,22,23,24,28,33,50,58,80,85,103,110,140,151,171,185,199,213] Kk [0,1,2,3,4,14,15] (fun q G' fr H'=> ∃ (i j:Nat),j - i=q∧a≤i∧i≤j∧j≤m∧(∀x,a≤x→x<i→key (f x)≤key (f m))∧(∀x,j≤x→x<m→key (f m) <key (f x))∧G'=G∧H'=(bd, .cells (zj n f) sp 3)::H∧fr=[(0, .slice (some ⟨bd,0,none⟩) n cd),(1, .int .i64 (a:Nat)),(2, .int .i64 (m:Nat)),(3, .int .i64 (b:Nat)),(4, .func (.func fid) #[] #[cp]),(14, .int .i64 (i:Nat)),(15, .int .i64 (j:Nat))]) ((m - a)) ?_ ?_
 ·exact Upd.now ⟨a,m,rfl,by omega,by omega,by omega,fun x h1 h2=>by omega,fun x h1 h2=>by omega,rfl,rfl,rfl⟩
 ·rintro q G1 fr H1 hle hs1 ⟨i,j,hq,hmi,hij,hjb,hlo,hhi,rfl,rfl,rfl⟩
  have hE:=hs1
  try simp only[zzs] at hE
  repeat(obtain⟨hx',hE⟩:=hE)
  by_cases hlt:i<j
  ·obtain⟨h,hh⟩: ∃h,h=(i+j) / 2:=⟨_,rfl⟩
   have e1:((i:Int)+(j:Int)) / 2=(h:Int):=by omega
   have hg1:=zaJ f (sp:=sp) (show h<n by omega)
   have hl1:=hf h Ko
   repeat' first
    |with_reducible first|refine Nx.go ?_ |refine Bk.go (fun _=>?_) fun _=>?_ |refine Nb fun nb hnb hnb1 hnb2=>?_ |refine Nr fun nb nsp ncap hnb hncap hnb1 hnb2=>?_
    |simp -dsimp -implicitDefEqProofs (disch:=first|exact Kd|fail) only[go_sem,↓reduceIte,seval,e1,hg1,hgm,zbk]
    |with_reducible refine Tri.drawS tok mixed [0,1,2,3,4,10,11,12,13,14,15,16,17,18,19,20,21,22,23,24,28,33,50,58,80,85,103,110,140,151,171,185,199,213] 17 [4,8] (.op 0 .plain (.op 1 .plain (.op 2 .plain (.op 3 .plain (.op 4 .held (.op 5 .plain (.op 6 .plain (.op 7 .plain (.op 8 .held (.op 9 .plain (.op 10 .plain (.op 11 .plain .nil)))))))))))) Kk [(bd, .cells (zj n f) sp 3)] Ks ?_
    |with_reducible refine zdO.go hc hfm hl1 ?_
   all_goals
    rename_i hk
    first
    |exact Upd.now ⟨j - (h+1),by omega,h+1,j,rfl,by omega,by omega,hjb,fun x h1 h2=>by
      have:=hs.le h1 (show x≤h by omega) Ko
      omega,hhi,rfl,rfl,rfl⟩
    |exact Upd.now ⟨h - i,by omega,i,h,rfl,hmi,by omega,by omega,hlo,fun x h1 h2=>by
      have:=hs.le (show a≤h by omega) h1 Ko
      omega,rfl,rfl,rfl⟩
  ·obtain rfl:i=j:=by omega
   repeat' first
    |with_reducible first|refine Nx.go ?_ |refine Bk.go (fun _=>?_) fun _=>?_ |refine Nb fun nb hnb hnb1 hnb2=>?_ |refine Nr fun nb nsp ncap hnb hncap hnb1 hnb2=>?_
    |simp -dsimp -implicitDefEqProofs (disch:=first|exact Kd|fail) only[go_sem,↓reduceIte,seval]
   refine Tri.run tok [0,1,2,3,4,10,11,12,13,14,15,16,17,18,19,20,21,22,23,24,28,33,50,58,80,85,103,110,140,151,171,185,199,213] Kk ?_
   repeat' first
    |with_reducible first|refine Nx.go ?_ |refine Bk.go (fun _=>?_) fun _=>?_ |refine Nb fun nb hnb hnb1 hnb2=>?_ |refine Nr fun nb nsp ncap hnb hncap hnb1 hnb2=>?_
    |simp -dsimp -implicitDefEqProofs (disch:=first|exact Kd|fail) only[go_sem,↓reduceIte,seval]
   refine Tri.loopU tok [0,1,2,3,4,10,11,12,13,14,15,16,17,18,19,20,21,22,23,24,28,33,50,58,80,85,103,110,140,151,171,185,199,213] Kk [0,14,17] (fun q G' fr H'=> ∃k:Nat,k - i=q∧i≤k∧k≤m∧G'=G1∧H'=(bd, .cells (zj n (dnM f m k)) sp 3)::H∧fr=[(0, .slice (some ⟨bd,0,none⟩) n cd),(14, .int .i64 (i:Nat)),(17, .int .i64 (k:Nat))]) ((m - i)) ?_ ?_
   ·exact Upd.now ⟨m,rfl,by omega,Nat.le_refl _,rfl,by rw[znP],rfl⟩
   ·rintro q2 G2 fr H2 hle2 hs2 ⟨k,hq2,hik,hkm,rfl,rfl,rfl⟩
    have hE:=hs2
    try simp only[zzs] at hE
    repeat(obtain⟨hx',hE⟩:=hE)
    by_cases hk:i<k
    ·have e2:(k:Int) - 1=((k - 1 :Nat):Int):=by omega
     have hg1:=zaJ (dnM f m k) (sp:=sp) (show k<n by omega)
     have hg2:=zaJ (dnM f m k) (sp:=sp) (show k - 1<n by omega)
     have hp1:=za6 (dnM f m k) (show k<n by omega) (dnM f m k (k - 1))
     have hp2:=za6 (zo (dnM f m k) k (dnM f m k (k - 1))) (show k - 1<n by omega) (dnM f m k k)
     have hsw:zo (zo (dnM f m k) k (dnM f m k (k - 1))) (k - 1) (dnM f m k k)=dnM f m (k - 1):=znQ f hkm Ko
     rw[hsw] at hp2
     repeat' first
      |with_reducible first|refine Nx.go ?_ |refine Bk.go (fun _=>?_) fun _=>?_ |refine Nb fun nb hnb hnb1 hnb2=>?_ |refine Nr fun nb nsp ncap hnb hncap hnb1 hnb2=>?_
      |simp -dsimp -implicitDefEqProofs (disch:=first|exact Kd|fail) only[go_sem,↓reduceIte,seval,e2,hg1,hg2,hp1,hp2,zbk]
      |with_reducible refine Tri.drawS tok mixed [0,1,2,3,4,10,11,12,13,14,15,16,17,18,19,20,21,22,23,24,28,33,50,58,80,85,103,110,140,151,171,185,199,213] 23 [9,13] (.op 0 .plain (.op 1 .plain (.op 2 .plain (.op 3 .plain (.op 4 .plain (.op 5 .plain (.op 6 .plain (.op 7 .plain (.op 8 .plain (.op 9 .held (.op 10 .plain (.op 11 .plain (.op 12 .plain (.op 13 .held (.op 14 .plain (.op 15 .plain (.op 16 .plain (.op 17 .plain .nil)))))))))))))))))) Kk [(bd, .cells (zj n (dnM f m k)) sp 3)] Ks ?_
     exact Upd.now ⟨k - 1 - i,by omega,k - 1,rfl,by omega,by omega,rfl,rfl,rfl⟩
    ·obtain rfl:i=k:=by omega
     have hend:=zri hs hmi hjb hlo hhi
     rw[←hmb] at hend
     repeat' first
      |with_reducible first|refine Nx.go ?_ |refine Bk.go (fun _=>?_) fun _=>?_ |refine Nb fun nb hnb hnb1 hnb2=>?_ |refine Nr fun nb nsp ncap hnb hncap hnb1 hnb2=>?_
      |simp -dsimp -implicitDefEqProofs (disch:=first|exact Kd|fail) only[go_sem,↓reduceIte,seval]
     exact Upd.now ⟨_,zpH f Ko (m - i) i Ko hmi,hend,rfl,rfl⟩
theorem zxx {n a m b mid:Nat} (ham:a<m) (hmb:m<b) (hmid:mid=(a+b) / 2) (hb:b≤n) (hn:n≤2000000) {f:Nat→Nat} (hf: ∀i,i<n→f i<n) {key:Nat→Int} {sp:List Value} {bd cd:Nat} {fid:FuncId} {cp:Value} {G:za} {H:zb} (hc:zdO Tryz.prog fid cp key n bd sp G H) (hs1:zP key f a m) (hs2:zP key f m b) {lo hi:Nat} (hlo:lo=if mid<m then mid+m - b else a) (hhi:hi=if mid<m then mid else m):
  Tri Tryz.prog Tryz.f151.ntmps (piece [1,1,1,1,1,1,1,0] Tryz.f151) G [(0, .slice (some ⟨bd,0,none⟩) n cd),(1, .int .i64 (a:Nat)),(2, .int .i64 (m:Nat)),(3, .int .i64 (b:Nat)),(4, .func (.func fid) #[] #[cp]),(18, .int .i64 (mid:Nat)),(19, .int .i64 ((mid+m:Nat):Int)),(20, .int .i64 (lo:Nat)),(21, .int .i64 (hi:Nat)),(22, .int .i64 ((mid+m - 1 :Nat):Int))] ((bd, .cells (zj n f) sp 3)::H) (onlyN fun G' fr' H'=> ∃s,CutO key f a m b mid s∧G'=G∧zy [0,1,2,3,4,18,19,20] fr'=[(0, .slice (some ⟨bd,0,none⟩) n cd),(1, .int .i64 (a:Nat)),(2, .int .i64 (m:Nat)),(3, .int .i64 (b:Nat)),(4, .func (.func fid) #[] #[cp]),(18, .int .i64 (mid:Nat)),(19, .int .i64 ((mid+m:Nat):Int)),(20, .int .i64 (s:Nat))]∧H'=(bd, .cells (zj n f) sp 3)::H):=by
 have hab:a≤lo∧hi≤m∧hi≤mid∧mid+m≤b+lo∧lo≤hi:=by
  by_cases e:mid<m
  ·rw[if_pos e] at hlo hhi;omega
  ·rw[if_neg e] at hlo hhi;omega
 have hcut:=fun s=>zxu (s:=s) hs1 hs2 ham hmb hmid hlo hhi
 clear hlo hhi
 refine Tri.piece (f:=Tryz.f151) rfl ?_
 refine Tri.run tok [0,1,2,3,4,10,11,12,13,14,15,16,17,18,19,20,21,22,23,24,28,33,50,58,80,85,103,110,140,151,171,185,199,213] Kk ?_
 repeat' first
  |with_reducible first|refine Nx.go ?_ |refine Bk.go (fun _=>?_) fun _=>?_ |refine Nb fun nb hnb hnb1 hnb2=>?_ |refine Nr fun nb nsp ncap hnb hncap hnb1 hnb2=>?_
  |simp -dsimp -implicitDefEqProofs (disch:=first|exact Kd|fail) only[go_sem,↓reduceIte,seval]
 refine Tri.loopU tok [0,1,2,3,4,10,11,12,13,14,15,16,17,18,19,20,21,22,23,24,28,33,50,58,80,85,103,110,140,151,171,185,199,213] Kk [0,1,2,3,4,18,19,20,21,22] (fun q G' fr H'=> ∃ (i j:Nat),j - i=q∧lo≤i∧i≤j∧j≤hi∧(lo<i→key (f (i - 1))≤key (f (mid+m - i)))∧(j<hi→key (f (mid+m - 1 - j))≤key (f j))∧G'=G∧H'=(bd, .cells (zj n f) sp 3)::H∧fr=[(0, .slice (some ⟨bd,0,none⟩) n cd),(1, .int .i64 (a:Nat)),(2, .int .i64 (m:Nat)),(3, .int .i64 (b:Nat)),(4, .func (.func fid) #[] #[cp]),(18, .int .i64 (mid:Nat)),(19, .int .i64 ((mid+m:Nat):Int)),(20, .int .i64 (i:Nat)),(21, .int .i64 (j:Nat)),(22, .int .i64 ((mid+m - 1 :Nat):Int))]) ((hi - lo)) ?_ ?_
 ·exact Upd.now ⟨lo,hi,rfl,Nat.le_refl _,by omega,Nat.le_refl _,fun h=>by omega,fun h=>by omega,rfl,rfl,rfl⟩
 ·rintro q G1 fr H1 hle hx' ⟨i,j,hq,hli,hij,hjh,hp1,hp2,rfl,rfl,rfl⟩
  have hE:=hx'
  try simp only[zzs] at hE
  repeat(obtain⟨hx',hE⟩:=hE)
  by_cases hlt:i<j
  ·obtain⟨c,hc2⟩: ∃c,c=(i+j) / 2:=⟨_,rfl⟩
   have e1:((i:Int)+(j:Int)) / 2=(c:Int):=by omega
   have e2:((mid+m - 1 :Nat):Int) - (c:Int)=((mid+m - 1 - c:Nat):Int):=by omega
   have hg1:=zaJ f (sp:=sp) (show c<n by omega)
   have hg2:=zaJ f (sp:=sp) (show mid+m - 1 - c<n by omega)
   have hl1:=hf c Ko
   have hl2:=hf (mid+m - 1 - c) Ko
   repeat' first
    |with_reducible first|refine Nx.go ?_ |refine Bk.go (fun _=>?_) fun _=>?_ |refine Nb fun nb hnb hnb1 hnb2=>?_ |refine Nr fun nb nsp ncap hnb hncap hnb1 hnb2=>?_
    |simp -dsimp -implicitDefEqProofs (disch:=first|exact Kd|fail) only[go_sem,↓reduceIte,seval,e1,e2,hg1,hg2,zbk]
    |with_reducible refine Tri.drawS tok mixed [0,1,2,3,4,10,11,12,13,14,15,16,17,18,19,20,21,22,23,24,28,33,50,58,80,85,103,110,140,151,171,185,199,213] 35 [6,10] (.op 0 .plain (.op 1 .plain (.op 2 .plain (.op 3 .plain (.op 4 .plain (.op 5 .plain (.op 6 .held (.op 7 .plain (.op 8 .plain (.op 9 .plain (.op 10 .held (.op 11 .plain (.op 12 .plain (.op 13 .plain .nil)))))))))))))) Kk [(bd, .cells (zj n f) sp 3)] Ks ?_
    |with_reducible refine zdO.go hc hl2 hl1 ?_
   all_goals
    rename_i hk
    first
    |exact Upd.now ⟨j - (c+1),by omega,c+1,j,rfl,by omega,by omega,hjh,fun _=>by rw[show mid+m - (c+1)=mid+m - 1 - c by omega,Nat.add_sub_cancel];omega,hp2,rfl,rfl,rfl⟩
    |exact Upd.now ⟨c - i,by omega,i,c,rfl,hli,by omega,by omega,hp1,fun _=>by omega,rfl,rfl,rfl⟩
  ·obtain rfl:i=j:=by omega
   repeat' first
    |with_reducible first|refine Nx.go ?_ |refine Bk.go (fun _=>?_) fun _=>?_ |refine Nb fun nb hnb hnb1 hnb2=>?_ |refine Nr fun nb nsp ncap hnb hncap hnb1 hnb2=>?_
    |simp -dsimp -implicitDefEqProofs (disch:=first|exact Kd|fail) only[go_sem,↓reduceIte,seval]
   exact Upd.now ⟨i,hcut i hli hjh hp1 hp2,rfl,rfl,rfl⟩
end Go.Proofs.YtefkpedhbijhkaaGreatDoor
namespace Go.Proofs.YtefkpedhbijhkaaGreatDoor
open Go Go.V Go.Proofs
theorem zte (f:Nat→Nat) {s m e:Nat} (h:s=m∨m=e):zcf f s m e=f:=by
 funext x;simp only[zcf]
 repeat' split
 all_goals first|omega| (congr 1;omega)|rfl
def zhz (P:Program) (fm fid:FuncId) (cp:Value) (key:Nat→Int) (n bd cd:Nat) (sp:List Value) (G:za) (H:zb) (a m b:Nat):Prop:= ∀ (f:Nat→Nat) (R:Value→za→zb→Prop),a<m→m<b→b≤n→(∀i,i<n→f i<n)→zP key f a m→zP key f m b→
 (∀g,Rea a b f g→zP key g a b→R (.tuple #[]) G ((bd, .cells (zj n g) sp 3)::H))→FnT P fm [.slice (some ⟨bd,0,none⟩) n cd, .int .i64 (a:Nat), .int .i64 (m:Nat), .int .i64 (b:Nat), .func (.func fid) #[] #[cp]] G ((bd, .cells (zj n f) sp 3)::H) R
theorem zhz.go {P:Program} {fm fid:FuncId} {cp:Value} {key:Nat→Int} {n bd cd:Nat} {sp:List Value} {G:za} {H:zb} {a m b:Nat} (h:zhz P fm fid cp key n bd cd sp G H a m b) {f:Nat→Nat} {R:Value→za→zb→Prop} (h1:a<m) (h2:m<b) (h3:b≤n) (h4: ∀i,i<n→f i<n) (h5:zP key f a m) (h6:zP key f m b)
 (hR: ∀g,Rea a b f g→zP key g a b→R (.tuple #[]) G ((bd, .cells (zj n g) sp 3)::H)):FnT P fm [.slice (some ⟨bd,0,none⟩) n cd, .int .i64 (a:Nat), .int .i64 (m:Nat), .int .i64 (b:Nat), .func (.func fid) #[] #[cp]] G ((bd, .cells (zj n f) sp 3)::H) R:=h f R h1 h2 h3 h4 h5 h6 hR
theorem zxy {n a m b mid s e:Nat} (hm:m≤e) (hsm:s≤m) (he:e≤n) (hn:n≤2000000) {f:Nat→Nat} {sp:List Value} {bd cd:Nat} {vf:Value} {G:za} {H:zb}:
  Tri Tryz.prog Tryz.f151.ntmps (piece [1,1,1,1,1,1,1,1,1,0] Tryz.f151) G [(0, .slice (some ⟨bd,0,none⟩) n cd),(1, .int .i64 (a:Nat)),(2, .int .i64 (m:Nat)),(3, .int .i64 (b:Nat)),(4,vf),(18, .int .i64 (mid:Nat)),(20, .int .i64 (s:Nat)),(24, .int .i64 (e:Nat))] ((bd, .cells (zj n f) sp 3)::H) (onlyN fun G' fr' H'=>G'=G∧zy [0,1,3,4,18,20,24] fr'=[(0, .slice (some ⟨bd,0,none⟩) n cd),(1, .int .i64 (a:Nat)),(3, .int .i64 (b:Nat)),(4,vf),(18, .int .i64 (mid:Nat)),(20, .int .i64 (s:Nat)),(24, .int .i64 (e:Nat))]∧H'=(bd, .cells (zj n (zcf f s m e)) sp 3)::H):=by
 refine Tri.sepT fun hs0=>?_
 have hE:=hs0
 try simp only[zzs] at hE
 repeat(obtain⟨hx',hE⟩:=hE)
 by_cases h1:s<m∧m<e
 ·obtain⟨h1,h2⟩:=h1
  refine Tri.piece (f:=Tryz.f151) rfl ?_
  refine Tri.run tok [0,1,2,3,4,10,11,12,13,14,15,16,17,18,19,20,21,22,23,24,28,33,50,58,80,85,103,110,140,151,171,185,199,213] Kk ?_
  repeat' first
   |with_reducible first|refine Nx.go ?_ |refine Bk.go (fun _=>?_) fun _=>?_ |refine Nb fun nb hnb hnb1 hnb2=>?_ |refine Nr fun nb nsp ncap hnb hncap hnb1 hnb2=>?_
   |simp -dsimp -implicitDefEqProofs (disch:=first|exact Kd|fail) only[go_sem,↓reduceIte,seval]
   |with_reducible refine zvj h1 h2 he hn ?_
  exact Upd.now ⟨rfl,rfl,rfl⟩
 ·have h2:s=m∨m=e:=by omega
  rw[zte f h2]
  refine Tri.piece (f:=Tryz.f151) rfl ?_
  refine Tri.run tok [0,1,2,3,4,10,11,12,13,14,15,16,17,18,19,20,21,22,23,24,28,33,50,58,80,85,103,110,140,151,171,185,199,213] Kk ?_
  repeat' first
   |with_reducible first|refine Nx.go ?_ |refine Bk.go (fun _=>?_) fun _=>?_ |refine Nb fun nb hnb hnb1 hnb2=>?_ |refine Nr fun nb nsp ncap hnb hncap hnb1 hnb2=>?_
   |simp -dsimp -implicitDefEqProofs (disch:=first|exact Kd|fail) only[go_sem,↓reduceIte,seval]
  all_goals first| (exfalso;omega)|exact Upd.now ⟨rfl,rfl,rfl⟩
theorem zxz {n a b mid s e:Nat} (has:a≤s) (hsm:s≤mid) (he:mid≤n) (hn:n≤2000000) {f:Nat→Nat} (hf: ∀i,i<n→f i<n) {key:Nat→Int} {sp:List Value} {bd cd:Nat} {fid:FuncId} {cp:Value} {G:za} {H:zb} (hI:zhz Tryz.prog 151 fid cp key n bd cd sp G H a s mid) (hs1:zP key f a s) (hs2:zP key f s mid):
  Tri Tryz.prog Tryz.f151.ntmps (piece [1,1,1,1,1,1,1,1,1,1,0] Tryz.f151) G [(0, .slice (some ⟨bd,0,none⟩) n cd),(1, .int .i64 (a:Nat)),(3, .int .i64 (b:Nat)),(4, .func (.func fid) #[] #[cp]),(18, .int .i64 (mid:Nat)),(20, .int .i64 (s:Nat)),(24, .int .i64 (e:Nat))] ((bd, .cells (zj n f) sp 3)::H) (onlyN fun G' fr' H'=> ∃g,Rea a mid f g∧zP key g a mid∧G'=G∧zy [0,3,4,18,24] fr'=[(0, .slice (some ⟨bd,0,none⟩) n cd),(3, .int .i64 (b:Nat)),(4, .func (.func fid) #[] #[cp]),(18, .int .i64 (mid:Nat)),(24, .int .i64 (e:Nat))]∧H'=(bd, .cells (zj n g) sp 3)::H):=by
 refine Tri.sepT fun hs0=>?_
 have hE:=hs0
 try simp only[zzs] at hE
 repeat(obtain⟨hx',hE⟩:=hE)
 by_cases h1:a<s∧s<mid
 ·obtain⟨h1,h2⟩:=h1
  refine Tri.piece (f:=Tryz.f151) rfl ?_
  refine Tri.run tok [0,1,2,3,4,10,11,12,13,14,15,16,17,18,19,20,21,22,23,24,28,33,50,58,80,85,103,110,140,151,171,185,199,213] Kk ?_
  repeat' first
   |with_reducible first|refine Nx.go ?_ |refine Bk.go (fun _=>?_) fun _=>?_ |refine Nb fun nb hnb hnb1 hnb2=>?_ |refine Nr fun nb nsp ncap hnb hncap hnb1 hnb2=>?_
   |simp -dsimp -implicitDefEqProofs (disch:=first|exact Kd|fail) only[go_sem,↓reduceIte,seval]
   |with_reducible refine zhz.go hI h1 h2 he hf hs1 hs2 fun g hr hs=>?_
  exact Upd.now ⟨g,hr,hs,rfl,rfl,rfl⟩
 ·have hend:zP key f a mid:=by
   rcases(show a=s∨s=mid by omega) with h2|h2
   ·rw[h2];exact hs2
   ·rw[←h2];exact hs1
  refine Tri.piece (f:=Tryz.f151) rfl ?_
  refine Tri.run tok [0,1,2,3,4,10,11,12,13,14,15,16,17,18,19,20,21,22,23,24,28,33,50,58,80,85,103,110,140,151,171,185,199,213] Kk ?_
  repeat' first
   |with_reducible first|refine Nx.go ?_ |refine Bk.go (fun _=>?_) fun _=>?_ |refine Nb fun nb hnb hnb1 hnb2=>?_ |refine Nr fun nb nsp ncap hnb hncap hnb1 hnb2=>?_
   |simp -dsimp -implicitDefEqProofs (disch:=first|exact Kd|fail) only[go_sem,↓reduceIte,seval]
  all_goals first| (exfalso;omega)|exact Upd.now ⟨f,Rea.refl _ _ _,hend,rfl,rfl,rfl⟩
theorem zxA {n b mid e:Nat} (hme:mid≤e) (heb:e≤b) (hb:b≤n) (hn:n≤2000000) {f:Nat→Nat} (hf: ∀i,i<n→f i<n) {key:Nat→Int} {sp:List Value} {bd cd:Nat} {fid:FuncId} {cp:Value} {G:za} {H:zb} (hI:zhz Tryz.prog 151 fid cp key n bd cd sp G H mid e b) (hs1:zP key f mid e) (hs2:zP key f e b):
  Tri Tryz.prog Tryz.f151.ntmps (piece [1,1,1,1,1,1,1,1,1,1,1] Tryz.f151) G [(0, .slice (some ⟨bd,0,none⟩) n cd),(3, .int .i64 (b:Nat)),(4, .func (.func fid) #[] #[cp]),(18, .int .i64 (mid:Nat)),(24, .int .i64 (e:Nat))] ((bd, .cells (zj n f) sp 3)::H) (onlyN fun G' fr' H'=> ∃g,Rea mid b f g∧zP key g mid b∧G'=G∧H'=(bd, .cells (zj n g) sp 3)::H):=by
 refine Tri.sepT fun hs0=>?_
 have hE:=hs0
 try simp only[zzs] at hE
 repeat(obtain⟨hx',hE⟩:=hE)
 by_cases h1:mid<e∧e<b
 ·obtain⟨h1,h2⟩:=h1
  refine Tri.piece (f:=Tryz.f151) rfl ?_
  refine Tri.run tok [0,1,2,3,4,10,11,12,13,14,15,16,17,18,19,20,21,22,23,24,28,33,50,58,80,85,103,110,140,151,171,185,199,213] Kk ?_
  repeat' first
   |with_reducible first|refine Nx.go ?_ |refine Bk.go (fun _=>?_) fun _=>?_ |refine Nb fun nb hnb hnb1 hnb2=>?_ |refine Nr fun nb nsp ncap hnb hncap hnb1 hnb2=>?_
   |simp -dsimp -implicitDefEqProofs (disch:=first|exact Kd|fail) only[go_sem,↓reduceIte,seval]
   |with_reducible refine zhz.go hI h1 h2 hb hf hs1 hs2 fun g hr hs=>?_
  exact Upd.now ⟨g,hr,hs,rfl,rfl⟩
 ·have hend:zP key f mid b:=by
   rcases(show mid=e∨e=b by omega) with h2|h2
   ·rw[h2];exact hs2
   ·rw[←h2];exact hs1
  refine Tri.piece (f:=Tryz.f151) rfl ?_
  refine Tri.run tok [0,1,2,3,4,10,11,12,13,14,15,16,17,18,19,20,21,22,23,24,28,33,50,58,80,85,103,110,140,151,171,185,199,213] Kk ?_
  repeat' first
   |with_reducible first|refine Nx.go ?_ |refine Bk.go (fun _=>?_) fun _=>?_ |refine Nb fun nb hnb hnb1 hnb2=>?_ |refine Nr fun nb nsp ncap hnb hncap hnb1 hnb2=>?_
   |simp -dsimp -implicitDefEqProofs (disch:=first|exact Kd|fail) only[go_sem,↓reduceIte,seval]
  all_goals first| (exfalso;omega)|exact Upd.now ⟨f,Rea.refl _ _ _,hend,rfl,rfl⟩
set_option maxRecDepth 4000 in
theorem zrk {n:Nat} (hn:n≤2000000) {key:Nat→Int} {sp:List Value} {bd cd:Nat} {fid:FuncId} {cp:Value} {G:za} {H:zb} (hc:zdO Tryz.prog fid cp key n bd sp G H): ∀w a m b,b - a≤w→zhz Tryz.prog 151 fid cp key n bd cd sp G H a m b:=by
 intro w
 induction w with
 |zero=>intro a m b hw f R h1 h2;omega
 |succ w ih=>
  intro a m b hw f R ham hmb hb hf hs1 hs2 hR
  have e1:(m:Int) - (a:Int)=((m - a:Nat):Int):=by omega
  have e2:(b:Int) - (m:Int)=((b - m:Nat):Int):=by omega
  by_cases hA:m - a=1
  ·rw[hA] at e1
   refine FnT.bodyS tok [0,1,2,3,4,10,11,12,13,14,15,16,17,18,19,20,21,22,23,24,28,33,50,58,80,85,103,110,140,151,171,185,199,213] (.seq (.seq .run (.cond .cut .run)) .cut) Tryz.func151 rfl Kk Kk (by show _≤220;simp) fun hsep=>?_
   rw[Tryz.results151]
   have hE:=hsep
   try simp only[zzs] at hE
   repeat(obtain⟨hx',hE⟩:=hE)
   repeat' first
    |with_reducible first|refine Nx.go ?_ |refine Bk.go (fun _=>?_) fun _=>?_ |refine Nb fun nb hnb hnb1 hnb2=>?_ |refine Nr fun nb nsp ncap hnb hncap hnb1 hnb2=>?_
    |simp -dsimp -implicitDefEqProofs (disch:=first|exact Kd|fail) only[go_sem,↓reduceIte,seval,e1]
   refine Tri.live [0,1,2,3,4] ?_
   refine Tri.isPiece [0,1,0] Tryz.f151 Kk ?_
   refine Tri.onlyR (zxv Ko hmb hb hn hf hc hs2) fun G2 l2 H2 hle2 hx' hM=>?_
   obtain⟨g,hr,hs,rfl,rfl⟩:=hM
   simp only[go_sem]
   all_goals refine Upd.finL ?_ (hR g hr hs) ?_
   any_goals first|exact Ks|skip
   rfl
  ·have hne:((m - a:Nat):Int)≠1:=by omega
   by_cases hB:b - m=1
   ·rw[hB] at e2
    refine FnT.bodyS tok [0,1,2,3,4,10,11,12,13,14,15,16,17,18,19,20,21,22,23,24,28,33,50,58,80,85,103,110,140,151,171,185,199,213] (.seq (.seq .run (.cond .cut .run)) (.seq (.seq .run (.cond .cut .run)) .cut)) Tryz.func151 rfl Kk Kk (by show _≤220;simp) fun hsep=>?_
    rw[Tryz.results151]
    have hE:=hsep
    try simp only[zzs] at hE
    repeat(obtain⟨hx',hE⟩:=hE)
    repeat' first
     |with_reducible first|refine Nx.go ?_ |refine Bk.go (fun _=>?_) fun _=>?_ |refine Nb fun nb hnb hnb1 hnb2=>?_ |refine Nr fun nb nsp ncap hnb hncap hnb1 hnb2=>?_
     |simp -dsimp -implicitDefEqProofs (disch:=first|exact Kd|fail) only[go_sem,↓reduceIte,seval,e1,e2]
    refine Tri.live [0,1,2,3,4] ?_
    refine Tri.isPiece [1,0,1,0] Tryz.f151 Kk ?_
    refine Tri.onlyR (zxw ham Ko hb hn hf hc hs1) fun G2 l2 H2 hle2 hx' hM=>?_
    obtain⟨g,hr,hs,rfl,rfl⟩:=hM
    simp only[go_sem]
    all_goals refine Upd.finL ?_ (hR g hr hs) ?_
    any_goals first|exact Ks|skip
    rfl
   ·have hne2:((b - m:Nat):Int)≠1:=by omega
    obtain⟨mid,hmid⟩: ∃mid,mid=(a+b) / 2:=⟨_,rfl⟩
    have e3:((a:Int)+(b:Int)) / 2=(mid:Int):=by omega
    have e4:(mid:Int)+(m:Int)=((mid+m:Nat):Int):=by omega
    have e6:((mid+m:Nat):Int) - 1=((mid+m - 1 :Nat):Int):=by omega
    obtain⟨lo,hlo⟩: ∃lo,lo=if mid<m then mid+m - b else a:=⟨_,rfl⟩
    obtain⟨hi,hhi⟩: ∃hi,hi=if mid<m then mid else m:=⟨_,rfl⟩
    have e5:mid<m→((mid+m:Nat):Int) - (b:Int)=((mid+m - b:Nat):Int):=fun h=>by omega
    have key1: ∀K:zay,(∀s l2,CutO key f a m b mid s→zy [0,1,2,3,4,18,19,20] l2=[(0, .slice (some ⟨bd,0,none⟩) n cd),(1, .int .i64 (a:Nat)),(2, .int .i64 (m:Nat)),(3, .int .i64 (b:Nat)),(4, .func (.func fid) #[] #[cp]),(18, .int .i64 (mid:Nat)),(19, .int .i64 ((mid+m:Nat):Int)),(20, .int .i64 (s:Nat))]→K .normal G l2 ((bd, .cells (zj n f) sp 3)::H))→Tri Tryz.prog Tryz.f151.ntmps (piece [1,1,1,1,1,1,1,0] Tryz.f151) G [(0, .slice (some ⟨bd,0,none⟩) n cd),(1, .int .i64 (a:Nat)),(2, .int .i64 (m:Nat)),(3, .int .i64 (b:Nat)),(4, .func (.func fid) #[] #[cp]),(18, .int .i64 (mid:Nat)),(19, .int .i64 ((mid+m:Nat):Int)),(20, .int .i64 (lo:Nat)),(21, .int .i64 (hi:Nat)),(22, .int .i64 ((mid+m - 1 :Nat):Int))] ((bd, .cells (zj n f) sp 3)::H) K:=fun K hK=>
     Tri.onlyN (zxx ham hmb hmid hb hn hf hc hs1 hs2 hlo hhi) fun G2 l2 H2 hle2 hx' hM=>by
      obtain⟨s,c1,rfl,c2,rfl⟩:=hM
      exact hK s l2 c1 c2
    have fin: ∀s l2 K,CutO key f a m b mid s→zy [0,1,2,3,4,18,19,20] l2=[(0, .slice (some ⟨bd,0,none⟩) n cd),(1, .int .i64 (a:Nat)),(2, .int .i64 (m:Nat)),(3, .int .i64 (b:Nat)),(4, .func (.func fid) #[] #[cp]),(18, .int .i64 (mid:Nat)),(19, .int .i64 ((mid+m:Nat):Int)),(20, .int .i64 (s:Nat))]→(∀l3 g,Rea a b f g→zP key g a b→K .normal G l3 ((bd, .cells (zj n g) sp 3)::H))→Tri Tryz.prog Tryz.f151.ntmps (piece [1,1,1,1,1,1,1,1] Tryz.f151) G l2 ((bd, .cells (zj n f) sp 3)::H) K:=by
     intro s l2 K hcut hl hK
     have hcut2:=hcut
     obtain⟨sa,sm,smid,eb,_,_⟩:=hcut
     obtain⟨e,he⟩: ∃e,e=mid+m - s:=⟨_,rfl⟩
     have e7:((mid+m:Nat):Int) - (s:Int)=(e:Int):=by omega
     have hpar:=hcut2.parts hs1 hs2 rfl
     rw[←he] at hpar
     obtain⟨p1,p2,p3,p4,p5⟩:=hpar
     have hrr:=zvi f (show s≤m by omega) (show m≤e by omega)
     have hrf:=hrr.lt (show e≤n by omega) hf
     refine Tri.live [0,1,2,3,4,18,19,20] ?_
     rw[hl]
     refine Tri.piece (f:=Tryz.f151) rfl ?_
     refine Tri.runS tok [0,1,2,3,4,10,11,12,13,14,15,16,17,18,19,20,21,22,23,24,28,33,50,58,80,85,103,110,140,151,171,185,199,213] (.seq .run (.seq .cut (.seq .cut .cut))) Kk ?_
     repeat' first
      |with_reducible first|refine Nx.go ?_ |refine Bk.go (fun _=>?_) fun _=>?_ |refine Nb fun nb hnb hnb1 hnb2=>?_ |refine Nr fun nb nsp ncap hnb hncap hnb1 hnb2=>?_
      |simp -dsimp -implicitDefEqProofs (disch:=first|exact Kd|fail) only[go_sem,↓reduceIte,seval,e7]
     refine Tri.live [0,1,2,3,4,18,20,24] ?_
     refine Tri.isPiece [1,1,1,1,1,1,1,1,1,0] Tryz.f151 Kk ?_
     refine Tri.onlyN (zxy Ko Ko Ko hn) fun G2 l3 H2 hle2 hx' hM=>?_
     obtain⟨rfl,hl3,rfl⟩:=hM
     simp only[go_sem]
     refine Tri.live [0,1,3,4,18,20,24] ?_
     rw[hl3]
     refine Tri.isPiece [1,1,1,1,1,1,1,1,1,1,0] Tryz.f151 Kk ?_
     refine Tri.onlyN (zxz Ko Ko Ko hn hrf (ih a s mid Ko) p1 p2) fun G2' l4 H2 hle2' hx'' hM=>?_
     obtain⟨g2,r2,s2,rfl,hl4,rfl⟩:=hM
     simp only[go_sem]
     refine Tri.live [0,3,4,18,24] ?_
     rw[hl4]
     have hrf2:=r2.lt (show mid≤n by omega) hrf
     refine Tri.isPiece [1,1,1,1,1,1,1,1,1,1,1] Tryz.f151 Kk ?_
     refine Tri.onlyN (zxA Ko Ko hb hn hrf2 (ih mid e b Ko) (p3.same fun i g1 g3=>r2.out (.inr Ko)) (p4.same fun i g1 g3=>r2.out (.inr Ko))) fun G3 l5 H3 hle3 hx'3 hM=>?_
     obtain⟨g3,r3,s3,rfl,rfl⟩:=hM
     exact hK _ _ ((hrr.wide Ko Ko).trans ((r2.wide Ko Ko).trans (r3.wide Ko Ko))) (ztd Ko Ko p5 r2 s2 r3 s3)
    by_cases hmm:mid<m
    ·rw[if_pos hmm] at hlo hhi
     have e5:=e5 hmm
     rw[←hlo] at e5
     subst hhi
     refine FnT.bodyS tok [0,1,2,3,4,10,11,12,13,14,15,16,17,18,19,20,21,22,23,24,28,33,50,58,80,85,103,110,140,151,171,185,199,213] (.seq (.seq .run (.cond .cut .run)) (.seq (.seq .run (.cond .cut .run)) (.seq .run (.seq .run (.seq .run (.seq .run (.seq .run (.seq .cut .cut)))))))) Tryz.func151 rfl Kk Kk (by show _≤220;simp) fun hsep=>?_
     rw[Tryz.results151]
     have hE:=hsep
     try simp only[zzs] at hE
     repeat(obtain⟨hx',hE⟩:=hE)
     repeat' first
      |with_reducible first|refine Nx.go ?_ |refine Bk.go (fun _=>?_) fun _=>?_ |refine Nb fun nb hnb hnb1 hnb2=>?_ |refine Nr fun nb nsp ncap hnb hncap hnb1 hnb2=>?_
      |simp -dsimp -implicitDefEqProofs (disch:=first|exact Kd|fail) only[go_sem,↓reduceIte,seval,e1,e2,e3,e4,e5,e6]
     refine Tri.live [0,1,2,3,4,18,19,20,21,22] ?_
     refine Tri.isPiece [1,1,1,1,1,1,1,0] Tryz.f151 Kk ?_
     refine key1 _ fun s l2 c1 c2=>?_
     simp only[go_sem]
     refine Tri.isPiece [1,1,1,1,1,1,1,1] Tryz.f151 Kk ?_
     refine fin s l2 _ c1 c2 fun l3 g hr hs=>?_
     simp only[go_sem]
     all_goals refine Upd.finL ?_ (hR g hr hs) ?_
     any_goals first|exact Ks|skip
     rfl
    ·rw[if_neg hmm] at hlo hhi
     subst hhi
     subst hlo
     refine FnT.bodyS tok [0,1,2,3,4,10,11,12,13,14,15,16,17,18,19,20,21,22,23,24,28,33,50,58,80,85,103,110,140,151,171,185,199,213] (.seq (.seq .run (.cond .cut .run)) (.seq (.seq .run (.cond .cut .run)) (.seq .run (.seq .run (.seq .run (.seq .run (.seq .run (.seq .cut .cut)))))))) Tryz.func151 rfl Kk Kk (by show _≤220;simp) fun hsep=>?_
     rw[Tryz.results151]
     have hE:=hsep
     try simp only[zzs] at hE
     repeat(obtain⟨hx',hE⟩:=hE)
     repeat' first
      |with_reducible first|refine Nx.go ?_ |refine Bk.go (fun _=>?_) fun _=>?_ |refine Nb fun nb hnb hnb1 hnb2=>?_ |refine Nr fun nb nsp ncap hnb hncap hnb1 hnb2=>?_
      |simp -dsimp -implicitDefEqProofs (disch:=first|exact Kd|fail) only[go_sem,↓reduceIte,seval,e1,e2,e3,e4,e6]
     refine Tri.live [0,1,2,3,4,18,19,20,21,22] ?_
     refine Tri.isPiece [1,1,1,1,1,1,1,0] Tryz.f151 Kk ?_
     refine key1 _ fun s l2 c1 c2=>?_
     simp only[go_sem]
     refine Tri.isPiece [1,1,1,1,1,1,1,1] Tryz.f151 Kk ?_
     refine fin s l2 _ c1 c2 fun l3 g hr hs=>?_
     simp only[go_sem]
     all_goals refine Upd.finL ?_ (hR g hr hs) ?_
     any_goals first|exact Ks|skip
     rfl
end Go.Proofs.YtefkpedhbijhkaaGreatDoor
namespace Go.Proofs.YtefkpedhbijhkaaGreatDoor
open Go Go.V Go.Proofs
def zlq (key:Nat→Int) (f:Nat→Nat) (n w a:Nat):Prop:= ∀c,(∃q,c=q * w)→c<a→zP key f c (min (c+w) n)
theorem zjU {c a w p q:Nat} (hp:c=p * w) (hq:a=q * w) (h:c<a):c+w≤a:=by
 have h1:p<q:=by
  apply Classical.byContradiction
  intro hn
  have:=Nat.mul_le_mul_right w (show q≤p by omega)
  omega
 have:=Nat.mul_le_mul_right w (show p+1≤q by omega)
 rw[Nat.succ_mul] at this
 omega
theorem zlZ {c a w p q:Nat} (hp:c=p * w) (hq:a=q * w) (h:c<a+w) (h2:a≤c):c=a:=by
 apply Classical.byContradiction
 intro hn
 have:=zjU hq hp (show a<c by omega)
 omega
theorem zlq.step {key:Nat→Int} {f g:Nat→Nat} {n w a:Nat} (h:zlq key f n w a) (ha: ∃q,a=q * w) (hb:a+w≤n) (hr:Rea a (a+w) f g) (hs:zP key g a (a+w)):zlq key g n w (a+w):=by
 obtain⟨q,hq⟩:=ha
 intro c hc hca
 obtain⟨p,hp⟩:=hc
 rcases Nat.lt_or_ge c a with e|e
 ·have:=zjU hp hq e
  exact(h c ⟨p,hp⟩ e).same fun i g1 g2=>hr.out (.inl Ko)
 ·have:=zlZ hp hq hca e
  subst this
  exact hs.sub (Nat.le_refl _) Ko
theorem zlq.done {key:Nat→Int} {f g:Nat→Nat} {n w a:Nat} (h:zlq key f n w a) (ha: ∃q,a=q * w) (hb:n<a+w) (hr:Rea a n f g) (hs:zP key g a n):zjS key g n w:=by
 obtain⟨q,hq⟩:=ha
 intro c hc
 obtain⟨p,hp⟩:=hc
 rcases Nat.lt_or_ge c a with e|e
 ·have:=zjU hp hq e
  exact(h c ⟨p,hp⟩ e).same fun i g1 g2=>hr.out (.inl Ko)
 ·rcases Nat.lt_or_ge c (a+w) with e2|e2
  ·have:=zlZ hp hq e2 e
   subst this
   exact hs.sub (Nat.le_refl _) Ko
  ·exact zP.small Ko
theorem ztf {n:Nat} (hn:n≤2000000) {f:Nat→Nat} (hf: ∀i,i<n→f i<n) {key:Nat→Int} {sp:List Value} {bd cd:Nat} {fid:FuncId} {cp:Value} {G:za} {H:zb} {R:Value→za→zb→Prop} (hc:zdO Tryz.prog fid cp key n bd sp G H)
  (hR: ∀g,Rea 0 n f g→zP key g 0 n→R (.tuple #[]) G ((bd, .cells (zj n g) sp 3)::H)):FnT Tryz.prog 141 [.slice (some ⟨bd,0,none⟩) n cd, .int .i64 (n:Nat), .func (.func fid) #[] #[cp]] G ((bd, .cells (zj n f) sp 3)::H) R:=by
 have hsym:=fun a m b=>zrk (cd:=cd) hn hc (b - a) a m b (Nat.le_refl _)
 refine FnT.bodyS tok [0,1,2,6,7,8,9,13,30,35,54] (.seq .run (.seq .run (.seq .run .cut))) Tryz.func141 rfl Kk Kk (by show _≤63;simp) fun hsep=>?_
 rw[Tryz.results141]
 have hE:=hsep
 try simp only[zzs] at hE
 repeat(obtain⟨hx',hE⟩:=hE)
 repeat' first
  |with_reducible first|refine Nx.go ?_ |refine Bk.go (fun _=>?_) fun _=>?_ |refine Nb fun nb hnb hnb1 hnb2=>?_
  |simp -dsimp -implicitDefEqProofs (disch:=first|exact Kd|fail) only[go_sem,↓reduceIte,seval]
 refine Tri.loopU tok [0,1,2,6,7,8,9,13,30,35,54] Kk [0,1,2,6,7,8] (fun q G' fr H'=> ∃ (a:Nat) (g:Nat→Nat),a+q=n∧(∃q,a=q * 20)∧Rea 0 n f g∧zlq key g n 20 a∧G'=G∧H'=(bd, .cells (zj n g) sp 3)::H∧fr=[(0, .slice (some ⟨bd,0,none⟩) n cd),(1, .int .i64 (n:Nat)),(2, .func (.func fid) #[] #[cp]),(6, .int .i64 20),(7, .int .i64 (a:Nat)),(8, .int .i64 ((a+20 :Nat):Int))]) (n) ?_ ?_
 ·exact Upd.now ⟨0,f,by omega,⟨0,rfl⟩,Rea.refl _ _ _,fun c _ h=>by omega,rfl,rfl,rfl⟩
 ·rintro q G1 fr H1 hle hs1 ⟨a,g,haq,hqa,hr,hI,rfl,rfl,rfl⟩
  have hE:=hs1
  try simp only[zzs] at hE
  repeat(obtain⟨hx',hE⟩:=hE)
  have hgf:=hr.lt (Nat.le_refl n) hf
  by_cases hab:a+20≤n
  ·have e1:((a+20 :Nat):Int)+20=((a+20+20 :Nat):Int):=by omega
   repeat' first
    |with_reducible first|refine Nx.go ?_ |refine Bk.go (fun _=>?_) fun _=>?_ |refine Nb fun nb hnb hnb1 hnb2=>?_
    |simp -dsimp -implicitDefEqProofs (disch:=first|exact Kd|fail) only[go_sem,↓reduceIte,seval,e1]
    |with_reducible refine znR (Nat.le_add_right a 20) hab hn hgf hc fun g2 hr2 hs2=>?_
   obtain⟨q0,hq0⟩:=hqa
   exact Upd.now ⟨q - 20,by omega,a+20,g2,by omega,⟨q0+1,by rw[Nat.succ_mul];omega⟩,hr.trans (hr2.wide (Nat.zero_le _) hab),hI.step ⟨q0,hq0⟩ hab hr2 hs2,rfl,rfl,rfl⟩
  ·repeat' first
    |with_reducible first|refine Nx.go ?_ |refine Bk.go (fun _=>?_) fun _=>?_ |refine Nb fun nb hnb hnb1 hnb2=>?_
    |simp -dsimp -implicitDefEqProofs (disch:=first|exact Kd|fail) only[go_sem,↓reduceIte,seval]
   refine Tri.runS tok [0,1,2,6,7,8,9,13,30,35,54] (.seq .run .cut) Kk ?_
   repeat' first
    |with_reducible first|refine Nx.go ?_ |refine Bk.go (fun _=>?_) fun _=>?_ |refine Nb fun nb hnb hnb1 hnb2=>?_
    |simp -dsimp -implicitDefEqProofs (disch:=first|exact Kd|fail) only[go_sem,↓reduceIte,seval]
    |with_reducible refine znR (show a≤n by omega) (Nat.le_refl n) hn hgf hc fun g2 hr2 hs2=>?_
   have hB:=hI.done hqa Ko hr2 hs2
   have hr3:=hr.trans (hr2.wide (Nat.zero_le _) (Nat.le_refl _))
   clear hI hr hr2 hs2 hgf hqa
   refine Tri.run tok [0,1,2,6,7,8,9,13,30,35,54] Kk ?_
   repeat' first
    |with_reducible first|refine Nx.go ?_ |refine Bk.go (fun _=>?_) fun _=>?_ |refine Nb fun nb hnb hnb1 hnb2=>?_
    |simp -dsimp -implicitDefEqProofs (disch:=first|exact Kd|fail) only[go_sem,↓reduceIte,seval]
   refine Tri.loopU tok [0,1,2,6,7,8,9,13,30,35,54] Kk [0,1,2,6] (fun q G' fr H'=> ∃ (w:Nat) (g:Nat→Nat),n - w=q∧20≤w∧w≤4000000∧Rea 0 n f g∧zjS key g n w∧G'=G1∧H'=(bd, .cells (zj n g) sp 3)::H∧fr=[(0, .slice (some ⟨bd,0,none⟩) n cd),(1, .int .i64 (n:Nat)),(2, .func (.func fid) #[] #[cp]),(6, .int .i64 (w:Nat))]) ((n - 20)) ?_ ?_
   ·exact Upd.now ⟨20,g2,rfl,Nat.le_refl _,by omega,hr3,hB,rfl,rfl,rfl⟩
   ·rintro q2 G2 fr H2 hle2 hs2 ⟨w,g,hq2,hw1,hw2,hr,hB,rfl,rfl,rfl⟩
    have hE:=hs2
    try simp only[zzs] at hE
    repeat(obtain⟨hx',hE⟩:=hE)
    by_cases hwn:w<n
    ·have e1:(2 :Int) * (w:Int)=((2 * w:Nat):Int):=by omega
     have e5:(w:Int) * 2=((2 * w:Nat):Int):=by omega
     repeat' first
      |with_reducible first|refine Nx.go ?_ |refine Bk.go (fun _=>?_) fun _=>?_ |refine Nb fun nb hnb hnb1 hnb2=>?_
      |simp -dsimp -implicitDefEqProofs (disch:=first|exact Kd|fail) only[go_sem,↓reduceIte,seval,e1]
     refine Tri.loopU tok [0,1,2,6,7,8,9,13,30,35,54] Kk [0,1,2,6,7,8] (fun q G' fr H'=> ∃ (a:Nat) (g:Nat→Nat),a+q=n∧(∃q,a=q * (2 * w))∧Rea 0 n f g∧zjT key g n w a∧G'=G2∧H'=(bd, .cells (zj n g) sp 3)::H∧fr=[(0, .slice (some ⟨bd,0,none⟩) n cd),(1, .int .i64 (n:Nat)),(2, .func (.func fid) #[] #[cp]),(6, .int .i64 (w:Nat)),(7, .int .i64 (a:Nat)),(8, .int .i64 ((a+2 * w:Nat):Int))]) (n) ?_ ?_
     ·exact Upd.now ⟨0,g,by omega,⟨0,(Nat.zero_mul _).symm⟩,hr,hB.start,rfl,rfl,by rw[Nat.zero_add];rfl⟩
     ·rintro q3 G3 fr H3 hle3 hs3 ⟨a,g,haq,hqa,hr,hM,rfl,rfl,rfl⟩
      have hE:=hs3
      try simp only[zzs] at hE
      repeat(obtain⟨hx',hE⟩:=hE)
      have hgf:=hr.lt (Nat.le_refl n) hf
      obtain⟨q0,hq0⟩:=hqa
      have hqw:a=(2 * q0) * w:=by rw[hq0,Nat.mul_comm 2 q0,Nat.mul_assoc]
      have hqw2:a+w=(2 * q0+1) * w:=by rw[hqw,Nat.succ_mul (2 * q0) w]
      have e2:(a:Int)+(w:Int)=((a+w:Nat):Int):=by omega
      have s1:=hM.1 a ⟨_,hqw⟩ (Nat.le_refl _)
      have s2:=hM.1 (a+w) ⟨_,hqw2⟩ (Nat.le_add_right _ _)
      by_cases hab:a+2 * w≤n
      ·have e3:((a+2 * w:Nat):Int)+((2 * w:Nat):Int)=((a+2 * w+2 * w:Nat):Int):=by omega
       rw[Nat.min_eq_left Ko] at s1
       rw[Nat.min_eq_left Ko,show a+w+w=a+2 * w by omega] at s2
       repeat' first
        |with_reducible first|refine Nx.go ?_ |refine Bk.go (fun _=>?_) fun _=>?_ |refine Nb fun nb hnb hnb1 hnb2=>?_
        |simp -dsimp -implicitDefEqProofs (disch:=first|exact Kd|fail) only[go_sem,↓reduceIte,seval,e1,e2,e3]
        |with_reducible refine zhz.go (hsym a (a+w) (a+2 * w)) Ko Ko hab hgf s1 s2 fun g3 hr3 hs3=>?_
       exact Upd.now ⟨q3 - 2 * w,by omega,a+2 * w,g3,by omega,⟨q0+1,by rw[Nat.succ_mul q0 (2 * w)];omega⟩,hr.trans (hr3.wide (Nat.zero_le _) hab),hM.step ⟨q0,hq0⟩ Ko (Nat.min_eq_left hab).symm hr3 hs3,rfl,rfl,rfl⟩
      ·by_cases hmn:a+w<n
       ·rw[Nat.min_eq_left Ko] at s1
        rw[Nat.min_eq_right Ko] at s2
        repeat' first
         |with_reducible first|refine Nx.go ?_ |refine Bk.go (fun _=>?_) fun _=>?_ |refine Nb fun nb hnb hnb1 hnb2=>?_
         |simp -dsimp -implicitDefEqProofs (disch:=first|exact Kd|fail) only[go_sem,↓reduceIte,seval,e1,e2,e5]
         |with_reducible refine zhz.go (hsym a (a+w) n) Ko hmn (Nat.le_refl n) hgf s1 s2 fun g3 hr3 hs3=>?_
        have hM2:=hM.step ⟨q0,hq0⟩ Ko (Nat.min_eq_right (show n≤a+2 * w by omega)).symm hr3 hs3
        exact Upd.now ⟨n - 2 * w,by omega,2 * w,g3,rfl,by omega,by omega,hr.trans (hr3.wide (Nat.zero_le _) (Nat.le_refl _)),hM2.done Ko ⟨q0+1,by rw[Nat.succ_mul q0 (2 * w)];omega⟩ Ko,rfl,rfl,rfl⟩
       ·repeat' first
         |with_reducible first|refine Nx.go ?_ |refine Bk.go (fun _=>?_) fun _=>?_ |refine Nb fun nb hnb hnb1 hnb2=>?_
         |simp -dsimp -implicitDefEqProofs (disch:=first|exact Kd|fail) only[go_sem,↓reduceIte,seval,e1,e2,e5]
        exact Upd.now ⟨n - 2 * w,by omega,2 * w,g,rfl,by omega,by omega,hr,hM.done Ko ⟨q0,hq0⟩ Ko,rfl,rfl,rfl⟩
    ·repeat' first
      |with_reducible first|refine Nx.go ?_ |refine Bk.go (fun _=>?_) fun _=>?_ |refine Nb fun nb hnb hnb1 hnb2=>?_
      |simp -dsimp -implicitDefEqProofs (disch:=first|exact Kd|fail) only[go_sem,↓reduceIte,seval]
     all_goals refine Upd.finL ?_ (hR g hr (hB.all Ko)) ?_
     any_goals first|exact Ks|skip
     rfl
theorem znS {n:Nat} (hn:n≤2000000) {f:Nat→Nat} (hf: ∀i,i<n→f i<n) {key:Nat→Int} {sp:List Value} {bd cd:Nat} {fid:FuncId} {cp:Value} {G:za} {H:zb} {R:Value→za→zb→Prop} (hc:zdO Tryz.prog fid cp key n bd sp G H)
  (hR: ∀g,Rea 0 n f g→zP key g 0 n→R (.tuple #[]) G ((bd, .cells (zj n g) sp 3)::H)):FnT Tryz.prog 117 [.slice (some ⟨bd,0,none⟩) n cd, .func (.func fid) #[] #[cp]] G ((bd, .cells (zj n f) sp 3)::H) R:=by
 refine FnT.body tok [0,1] Tryz.func117 rfl Kk Kk (by show _≤9;simp) fun hsep=>?_
 rw[Tryz.results117]
 have hE:=hsep
 try simp only[zzs] at hE
 repeat(obtain⟨hx',hE⟩:=hE)
 repeat' first
  |with_reducible first|refine Nx.go ?_ |refine Bk.go (fun _=>?_) fun _=>?_
  |simp -dsimp -implicitDefEqProofs (disch:=first|exact Kd|fail) only[go_sem,↓reduceIte,seval]
  |with_reducible refine ztf hn hf hc fun g hr hs=>?_
 all_goals refine Upd.finL ?_ (hR g hr hs) ?_
 any_goals first|exact Ks|skip
 rfl
end Go.Proofs.YtefkpedhbijhkaaGreatDoor
namespace Go.Proofs.YtefkpedhbijhkaaGreatDoor
open Go Go.V Go.Proofs
def ze2 (fr to mk:Nat→Nat) (i:Nat):List Value:=[.int .i64 (fr i:Nat), .int .i64 (to i:Nat), .int .i64 (mk i:Nat)]
def zC (n:Nat) (fr to mk:Nat→Nat):List Value:=(List.range n).flatMap (ze2 fr to mk)
theorem zba (n:Nat) (fr to mk:Nat→Nat):(zC n fr to mk).length=n * 3:=by
 unfold zC;rw[zaS (m:=3) (fun _=>rfl),List.length_range]
theorem zgg (n:Nat) (fr to mk:Nat→Nat):zC (n+1) fr to mk=zC n fr to mk++ze2 fr to mk n:=by
 unfold zC;rw[List.range_succ,List.flatMap_append];simp
theorem zhA {n:Nat} {fr to mk:Nat→Nat} {sp:List Value} {i j:Nat} (hi:i<n) (hj:j<3):(zC n fr to mk++sp)[i * 3+j]? =(ze2 fr to mk i)[j]? :=by
 induction n with
 |zero=>omega
 |succ n ih=>
  rw[zgg,List.append_assoc]
  have hl:=zba n fr to mk
  by_cases e:i=n
  ·subst e
   rw[List.getElem?_append_right Ko,hl,show i * 3+j - i * 3=j by omega,List.getElem?_append_left (by simp [ze2];omega)]
  ·have:=ih Ko
   rw[List.getElem?_append_left (by rw[hl];omega)] at this⊢
   exact this
theorem zhB {n:Nat} {fr to mk fr' to' mk':Nat→Nat} (h: ∀i,i<n→fr i=fr' i∧to i=to' i∧mk i=mk' i):zC n fr to mk=zC n fr' to' mk':=by
 unfold zC
 rw[List.flatMap_def,List.flatMap_def]
 congr 1
 refine List.map_congr_left fun i hi=>?_
 obtain⟨h1,h2,h3⟩:=h i (List.mem_range.1 hi)
 unfold ze2;rw[h1,h2,h3]
theorem zjV (n:Nat) (fr to mk:Nat→Nat) {i:Nat} (hi:i<n) (fr' to' mk':Nat→Nat) (he: ∀k,k≠i→fr k=fr' k∧to k=to' k∧mk k=mk' k)
  {j:Nat} {v:Value} (hv:(ze2 fr to mk i).set j v=ze2 fr' to' mk' i) (hj:j<3):(zC n fr to mk).set (i * 3+j) v=zC n fr' to' mk':=by
 induction n with
 |zero=>omega
 |succ n ih=>
  have hl:=zba n fr to mk
  rw[zgg,zgg]
  by_cases e:i=n
  ·subst e
   rw[List.set_append_right _ _ Ko,hl,show i * 3+j - i * 3=j by omega,hv]
   rw[zhB fun k hk=>he k Ko]
  ·rw[List.set_append_left _ _ Ko,ih Ko]
   congr 1
   obtain⟨h1,h2,h3⟩:=he n Ko
   unfold ze2;rw[h1,h2,h3]
theorem zkI {n:Nat} {fr to mk:Nat→Nat} {sp:List Value} {i:Nat} (hi:i<n):(zC n fr to mk++sp)[i * 3]? =some (.int .i64 (fr i:Nat)):=zhA (j:=0) hi Ko
theorem zgL {n:Nat} {fr to mk:Nat→Nat} {sp:List Value} {i:Nat} (hi:i<n):(zC n fr to mk++sp)[i * 3+1]? =some (.int .i64 (to i:Nat)):=zhA (j:=1) hi Ko
theorem zkJ {n:Nat} {fr to mk:Nat→Nat} {sp:List Value} {i:Nat} (hi:i<n):(zC n fr to mk++sp)[i * 3+2]? =some (.int .i64 (mk i:Nat)):=zhA (j:=2) hi Ko
theorem zgD {xs:List Value} {o:Nat} {v:Value} (h:o<xs.length):zi xs o [v]=xs.set o v:=by
 unfold zi
 rw[List.set_eq_take_append_cons_drop,if_pos h]
 simp
theorem zxB {n:Nat} {fr to mk:Nat→Nat} {i:Nat} (hi:i<n) (x:Nat):zi (zC n fr to mk) (i * 3) [.int .i64 (x:Nat)]=zC n (zo fr i x) to mk:=by
 rw[zgD (by rw[zba];omega)]
 exact zjV n fr to mk hi _ _ _ (fun k hk=>⟨(za0 _ _ hk).symm,rfl,rfl⟩) (j:=0) (by simp [ze2,zbe]) Ko
theorem ztg {n:Nat} {fr to mk:Nat→Nat} {i:Nat} (hi:i<n) (x:Nat):zi (zC n fr to mk) (i * 3+1) [.int .i64 (x:Nat)]=zC n fr (zo to i x) mk:=by
 rw[zgD (by rw[zba];omega)]
 exact zjV n fr to mk hi _ _ _ (fun k hk=>⟨rfl,(za0 _ _ hk).symm,rfl⟩) (j:=1) (by simp [ze2,zbe]) Ko
theorem zth {n:Nat} {fr to mk:Nat→Nat} {i:Nat} (hi:i<n) (x:Nat):zi (zC n fr to mk) (i * 3+2) [.int .i64 (x:Nat)]=zC n fr to (zo mk i x):=by
 rw[zgD (by rw[zba];omega)]
 exact zjV n fr to mk hi _ _ _ (fun k hk=>⟨rfl,rfl,(za0 _ _ hk).symm⟩) (j:=2) (by simp [ze2,zbe]) Ko
theorem zl0 (n:Nat) (fr to mk:Nat→Nat) (x y z:Nat):zC n fr to mk++[.int .i64 (x:Nat), .int .i64 (y:Nat), .int .i64 (z:Nat)]=zC (n+1) (zo fr n x) (zo to n y) (zo mk n z):=by
 rw[zgg]
 congr 1
 ·exact zhB fun i hi=>⟨(za0 _ _ Ko).symm,(za0 _ _ Ko).symm,(za0 _ _ Ko).symm⟩
 ·simp only[ze2,zbe]
theorem zvk (n:Nat) (fr to mk:Nat→Nat):(zC n fr to mk).all zax=true:=by
 unfold zC
 rw[List.all_flatMap]
 exact List.all_eq_true.2 fun i _=>rfl
theorem zH.isS {e:TypeId} {v:Value} {n:Nat} {xs:List Value} {kb:zb} (h:zH [] e 1 v n xs kb): ∃a c,v= .slice a n c:=by
 rcases h with ⟨a,rfl,rfl,_,_⟩| ⟨b,c,sp,rfl,_⟩
 ·exact⟨a,0,rfl⟩
 ·exact⟨_,c,rfl⟩
def PC (vs va vb vsp vk vw vm:Value) (W:Int):List Value:=[vs,va,vb,vsp,vk,vw,vm, .int .i64 W]
theorem zxC (vs va vb vsp vk vw vm:Value) (W:Int):(PC vs va vb vsp vk vw vm W).length=8:=rfl
theorem zyf (vs va vb vsp vk vw vm:Value) (W:Int):(PC vs va vb vsp vk vw vm W)[0]? =some vs:=rfl
theorem zyg (vs va vb vsp vk vw vm:Value) (W:Int):(PC vs va vb vsp vk vw vm W)[1]? =some va:=rfl
theorem zyh (vs va vb vsp vk vw vm:Value) (W:Int):(PC vs va vb vsp vk vw vm W)[2]? =some vb:=rfl
theorem zyi (vs va vb vsp vk vw vm:Value) (W:Int):(PC vs va vb vsp vk vw vm W)[3]? =some vsp:=rfl
theorem zyj (vs va vb vsp vk vw vm:Value) (W:Int):(PC vs va vb vsp vk vw vm W)[4]? =some vk:=rfl
theorem zyk (vs va vb vsp vk vw vm:Value) (W:Int):(PC vs va vb vsp vk vw vm W)[5]? =some vw:=rfl
theorem zyl (vs va vb vsp vk vw vm:Value) (W:Int):(PC vs va vb vsp vk vw vm W)[6]? =some vm:=rfl
theorem zym (vs va vb vsp vk vw vm:Value) (W:Int):(PC vs va vb vsp vk vw vm W)[7]? =some (.int .i64 W):=rfl
theorem zyn (vs va vb vsp vk vw vm x:Value) (W:Int):zi (PC vs va vb vsp vk vw vm W) 0 [x]=PC x va vb vsp vk vw vm W:=rfl
theorem zyo (vs va vb vsp vk vw vm x:Value) (W:Int):zi (PC vs va vb vsp vk vw vm W) 1 [x]=PC vs x vb vsp vk vw vm W:=rfl
theorem zyp (vs va vb vsp vk vw vm x:Value) (W:Int):zi (PC vs va vb vsp vk vw vm W) 2 [x]=PC vs va x vsp vk vw vm W:=rfl
theorem zyq (vs va vb vsp vk vw vm x:Value) (W:Int):zi (PC vs va vb vsp vk vw vm W) 3 [x]=PC vs va vb x vk vw vm W:=rfl
theorem zyr (vs va vb vsp vk vw vm x:Value) (W:Int):zi (PC vs va vb vsp vk vw vm W) 4 [x]=PC vs va vb vsp x vw vm W:=rfl
theorem zys (vs va vb vsp vk vw vm x:Value) (W:Int):zi (PC vs va vb vsp vk vw vm W) 5 [x]=PC vs va vb vsp vk x vm W:=rfl
theorem zyt (vs va vb vsp vk vw vm x:Value) (W:Int):zi (PC vs va vb vsp vk vw vm W) 6 [x]=PC vs va vb vsp vk vw x W:=rfl
attribute [go_sem] zxC zyf zyg zyh zyi zyj zyk zyl zym zyn zyo zyp zyq zyr zys zyt zbk zba zvh zvk
end Go.Proofs.YtefkpedhbijhkaaGreatDoor
namespace Go.Proofs.YtefkpedhbijhkaaGreatDoor
open Go Go.V Go.Proofs
theorem zwM {l:List Int} (hlen:l.length≤2000000) {G:za} {H:zb} {R:Value→za→zb→Prop} {v:Value} (hv:Sl G (Value.int .i64) v l)
  (hR: ∀v kb,Sep G (zk (H++kb))→zH [] 3 1 v l.length ((zf l).map (Value.int .i64)) kb→R v G (H++kb)):FnT Tryz.prog 93 [v] G H R:=
 FnT.upd (zwd hlen hv fun v kb hs hO=>Upd.go (H':=H++kb) (by intro fsum;simp only[List.map_append,List.sum_append];omega) (Upd.sepI fun hs2=>Upd.now (hR v kb hs2 hO)))
theorem zwN {n bq bp bs ba bm b1:Nat} {W:Int} {vb:Value} {C xs:List Value} {G:za} {Hc H kb:zb} {l:Fr} (hO:zH [] 3 1 vb n xs kb) (hl:zy [1,3,4] l=[(1, .pointer (some ⟨b1,0,none⟩)),(3, .int .i64 (n:Nat)),(4, .pointer (some ⟨bq,0,none⟩))])
  (h1:(bq,Res.cells [.pointer (some ⟨bp,0,none⟩)] [] 105)∈Hc) (h2:(bp,Res.cells [.slice (some ⟨bs,0,none⟩) n n, .slice (some ⟨ba,0,none⟩) n n,vb, .slice none 0 0, .slice none 0 0, .slice none 0 0, .map (some bm), .int .i64 W] [] 112)∈Hc)
  (hsum: ∀f:Nat×Res→Nat,(((bq,Res.cells [.pointer (some ⟨bp,0,none⟩)] [] 105):: (bp,Res.cells (PC (.slice (some ⟨bs,0,none⟩) n n) (.slice (some ⟨ba,0,none⟩) n n) vb (.slice none 0 0) (.slice none 0 0) (.slice none 0 0) (.map (some bm)) W) [] 112):: (bs,Res.cells (List.replicate n (.int .i64 0)) [] 3):: (ba,Res.cells (List.replicate n (.int .i64 0)) [] 3):: (bm,Res.map []):: (b1,Res.cells C [] 27):: (kb++H)).map f).sum≤(Hc.map f).sum):
  Upd G Hc fun G' H'=> ∃bq bp bs ba bm vb kb,zH [] 3 1 vb n xs kb∧G'=G∧zy [1,3,4] l=[(1, .pointer (some ⟨b1,0,none⟩)),(3, .int .i64 (n:Nat)),(4, .pointer (some ⟨bq,0,none⟩))]∧H'=(bq,Res.cells [.pointer (some ⟨bp,0,none⟩)] [] 105):: (bp,Res.cells (PC (.slice (some ⟨bs,0,none⟩) n n) (.slice (some ⟨ba,0,none⟩) n n) vb (.slice none 0 0) (.slice none 0 0) (.slice none 0 0) (.map (some bm)) W) [] 112):: (bs,Res.cells (List.replicate n (.int .i64 0)) [] 3):: (ba,Res.cells (List.replicate n (.int .i64 0)) [] 3):: (bm,Res.map []):: (b1,Res.cells C [] 27):: (kb++H):=
 Upd.leave hsum ⟨bq,bp,bs,ba,bm,vb,kb,hO,rfl,hl,rfl⟩
theorem zyu {d:DfaT} (hsm:zt d) {C:List Value} {an al ay:Option Addr} {cn cl cs:Nat} {rs:List Value} {G:za} {H:zb} (O:OpenD G d C an al ay cn cl cs rs) {b1:Nat} {v2:Value}:
  Tri Tryz.prog Tryz.f95.ntmps (piece [1,1,0] Tryz.f95) G [(1, .pointer (some ⟨b1,0,none⟩)),(2,v2),(3, .int .i64 (d.label.length:Nat))] ((b1, .cells C [] 27)::H) (onlyN fun G' l H'=>
   ∃bq bp bs ba bm vb kb,zH [] 3 1 vb d.label.length ((zf d.label).map (Value.int .i64)) kb∧G'=G∧zy [1,3,4] l=[(1, .pointer (some ⟨b1,0,none⟩)),(3, .int .i64 (d.label.length:Nat)),(4, .pointer (some ⟨bq,0,none⟩))]∧H'=(bq,Res.cells [.pointer (some ⟨bp,0,none⟩)] [] 105):: (bp,Res.cells (PC (.slice (some ⟨bs,0,none⟩) d.label.length d.label.length) (.slice (some ⟨ba,0,none⟩) d.label.length d.label.length) vb (.slice none 0 0) (.slice none 0 0) (.slice none 0 0) (.map (some bm)) d.width) [] 112):: (bs,Res.cells (List.replicate d.label.length (.int .i64 0)) [] 3):: (ba,Res.cells (List.replicate d.label.length (.int .i64 0)) [] 3):: (bm,Res.map []):: (b1,Res.cells C [] 27):: (kb++H)):=by
 obtain⟨hm1,hm2,hm3,hm4,hm5⟩:=id hsm
 have hCl:=O.len
 have hCx:=O.l
 have hCw:=O.w
 have hlab:=O.label
 refine Tri.sepT fun hs0=>?_
 have hE:=hs0
 try simp only[zzs] at hE
 repeat(obtain⟨hx',hE⟩:=hE)
 refine Tri.piece (f:=Tryz.f95) rfl ?_
 refine Tri.run tok [0,1,2,3,4,5,6,7,8,9,10,11,27,28,29,48,49,50,51,75,113,114,115,126,127,128,129] Kk ?_
 repeat' first
  |with_reducible first|refine Nx.go ?_ |refine Bk.go (fun _=>?_) fun _=>?_ |refine Nb fun nb hnb hnb1 hnb2=>?_ |refine Nr fun nb nsp ncap hnb hncap hnb1 hnb2=>?_
  |simp -dsimp -implicitDefEqProofs (disch:=first|exact Kd|fail) only[go_sem,↓reduceIte,seval, -List.reduceReplicate,hCl,hCx,hCw]
  |with_reducible refine Tri.drawS tok mixed [0,1,2,3,4,5,6,7,8,9,10,11,27,28,29,48,49,50,51,75,113,114,115,126,127,128,129] 2 [5,9] (.op 0 .plain (.op 2 .plain (.op 4 .plain (.op 5 .held (.op 8 .plain (.op 9 .held (.both (.op 1 .keeps (.both (.op 3 .keeps (.both (.op 6 .keeps (.both (.op 7 .keeps (.op 10 .plain (.both (.op 11 .keeps (.op 12 .keeps (.op 13 .plain .nil))) (.op 12 .keeps (.op 11 .keeps (.op 13 .plain .nil)))))) (.op 12 .keeps (.op 7 .keeps (.op 10 .plain (.op 11 .keeps (.op 13 .plain .nil))))))) (.both (.op 7 .keeps (.both (.op 6 .keeps (.op 10 .plain (.both (.op 11 .keeps (.op 12 .keeps (.op 13 .plain .nil))) (.op 12 .keeps (.op 11 .keeps (.op 13 .plain .nil)))))) (.op 12 .keeps (.op 6 .keeps (.op 10 .plain (.op 11 .keeps (.op 13 .plain .nil))))))) (.op 12 .keeps (.both (.op 6 .keeps (.op 7 .keeps (.op 10 .plain (.op 11 .keeps (.op 13 .plain .nil))))) (.op 7 .keeps (.op 6 .keeps (.op 10 .plain (.op 11 .keeps (.op 13 .plain .nil)))))))))) (.both (.op 6 .keeps (.both (.op 3 .keeps (.both (.op 7 .keeps (.op 10 .plain (.both (.op 11 .keeps (.op 12 .keeps (.op 13 .plain .nil))) (.op 12 .keeps (.op 11 .keeps (.op 13 .plain .nil)))))) (.op 12 .keeps (.op 7 .keeps (.op 10 .plain (.op 11 .keeps (.op 13 .plain .nil))))))) (.both (.op 7 .keeps (.both (.op 3 .keeps (.op 10 .plain (.both (.op 11 .keeps (.op 12 .keeps (.op 13 .plain .nil))) (.op 12 .keeps (.op 11 .keeps (.op 13 .plain .nil)))))) (.op 12 .keeps (.op 3 .keeps (.op 10 .plain (.op 11 .keeps (.op 13 .plain .nil))))))) (.op 12 .keeps (.both (.op 3 .keeps (.op 7 .keeps (.op 10 .plain (.op 11 .keeps (.op 13 .plain .nil))))) (.op 7 .keeps (.op 3 .keeps (.op 10 .plain (.op 11 .keeps (.op 13 .plain .nil)))))))))) (.both (.op 7 .keeps (.both (.op 3 .keeps (.both (.op 6 .keeps (.op 10 .plain (.both (.op 11 .keeps (.op 12 .keeps (.op 13 .plain .nil))) (.op 12 .keeps (.op 11 .keeps (.op 13 .plain .nil)))))) (.op 12 .keeps (.op 6 .keeps (.op 10 .plain (.op 11 .keeps (.op 13 .plain .nil))))))) (.both (.op 6 .keeps (.both (.op 3 .keeps (.op 10 .plain (.both (.op 11 .keeps (.op 12 .keeps (.op 13 .plain .nil))) (.op 12 .keeps (.op 11 .keeps (.op 13 .plain .nil)))))) (.op 12 .keeps (.op 3 .keeps (.op 10 .plain (.op 11 .keeps (.op 13 .plain .nil))))))) (.op 12 .keeps (.both (.op 3 .keeps (.op 6 .keeps (.op 10 .plain (.op 11 .keeps (.op 13 .plain .nil))))) (.op 6 .keeps (.op 3 .keeps (.op 10 .plain (.op 11 .keeps (.op 13 .plain .nil)))))))))) (.op 12 .keeps (.both (.op 3 .keeps (.both (.op 6 .keeps (.op 7 .keeps (.op 10 .plain (.op 11 .keeps (.op 13 .plain .nil))))) (.op 7 .keeps (.op 6 .keeps (.op 10 .plain (.op 11 .keeps (.op 13 .plain .nil))))))) (.both (.op 6 .keeps (.both (.op 3 .keeps (.op 7 .keeps (.op 10 .plain (.op 11 .keeps (.op 13 .plain .nil))))) (.op 7 .keeps (.op 3 .keeps (.op 10 .plain (.op 11 .keeps (.op 13 .plain .nil))))))) (.op 7 .keeps (.both (.op 3 .keeps (.op 6 .keeps (.op 10 .plain (.op 11 .keeps (.op 13 .plain .nil))))) (.op 6 .keeps (.op 3 .keeps (.op 10 .plain (.op 11 .keeps (.op 13 .plain .nil)))))))))))))) (.both (.op 3 .keeps (.both (.op 1 .keeps (.both (.op 6 .keeps (.both (.op 7 .keeps (.op 10 .plain (.both (.op 11 .keeps (.op 12 .keeps (.op 13 .plain .nil))) (.op 12 .keeps (.op 11 .keeps (.op 13 .plain .nil)))))) (.op 12 .keeps (.op 7 .keeps (.op 10 .plain (.op 11 .keeps (.op 13 .plain .nil))))))) (.both (.op 7 .keeps (.both (.op 6 .keeps (.op 10 .plain (.both (.op 11 .keeps (.op 12 .keeps (.op 13 .plain .nil))) (.op 12 .keeps (.op 11 .keeps (.op 13 .plain .nil)))))) (.op 12 .keeps (.op 6 .keeps (.op 10 .plain (.op 11 .keeps (.op 13 .plain .nil))))))) (.op 12 .keeps (.both (.op 6 .keeps (.op 7 .keeps (.op 10 .plain (.op 11 .keeps (.op 13 .plain .nil))))) (.op 7 .keeps (.op 6 .keeps (.op 10 .plain (.op 11 .keeps (.op 13 .plain .nil)))))))))) (.both (.op 6 .keeps (.both (.op 1 .keeps (.both (.op 7 .keeps (.op 10 .plain (.both (.op 11 .keeps (.op 12 .keeps (.op 13 .plain .nil))) (.op 12 .keeps (.op 11 .keeps (.op 13 .plain .nil)))))) (.op 12 .keeps (.op 7 .keeps (.op 10 .plain (.op 11 .keeps (.op 13 .plain .nil))))))) (.both (.op 7 .keeps (.both (.op 1 .keeps (.op 10 .plain (.both (.op 11 .keeps (.op 12 .keeps (.op 13 .plain .nil))) (.op 12 .keeps (.op 11 .keeps (.op 13 .plain .nil)))))) (.op 12 .keeps (.op 1 .keeps (.op 10 .plain (.op 11 .keeps (.op 13 .plain .nil))))))) (.op 12 .keeps (.both (.op 1 .keeps (.op 7 .keeps (.op 10 .plain (.op 11 .keeps (.op 13 .plain .nil))))) (.op 7 .keeps (.op 1 .keeps (.op 10 .plain (.op 11 .keeps (.op 13 .plain .nil)))))))))) (.both (.op 7 .keeps (.both (.op 1 .keeps (.both (.op 6 .keeps (.op 10 .plain (.both (.op 11 .keeps (.op 12 .keeps (.op 13 .plain .nil))) (.op 12 .keeps (.op 11 .keeps (.op 13 .plain .nil)))))) (.op 12 .keeps (.op 6 .keeps (.op 10 .plain (.op 11 .keeps (.op 13 .plain .nil))))))) (.both (.op 6 .keeps (.both (.op 1 .keeps (.op 10 .plain (.both (.op 11 .keeps (.op 12 .keeps (.op 13 .plain .nil))) (.op 12 .keeps (.op 11 .keeps (.op 13 .plain .nil)))))) (.op 12 .keeps (.op 1 .keeps (.op 10 .plain (.op 11 .keeps (.op 13 .plain .nil))))))) (.op 12 .keeps (.both (.op 1 .keeps (.op 6 .keeps (.op 10 .plain (.op 11 .keeps (.op 13 .plain .nil))))) (.op 6 .keeps (.op 1 .keeps (.op 10 .plain (.op 11 .keeps (.op 13 .plain .nil)))))))))) (.op 12 .keeps (.both (.op 1 .keeps (.both (.op 6 .keeps (.op 7 .keeps (.op 10 .plain (.op 11 .keeps (.op 13 .plain .nil))))) (.op 7 .keeps (.op 6 .keeps (.op 10 .plain (.op 11 .keeps (.op 13 .plain .nil))))))) (.both (.op 6 .keeps (.both (.op 1 .keeps (.op 7 .keeps (.op 10 .plain (.op 11 .keeps (.op 13 .plain .nil))))) (.op 7 .keeps (.op 1 .keeps (.op 10 .plain (.op 11 .keeps (.op 13 .plain .nil))))))) (.op 7 .keeps (.both (.op 1 .keeps (.op 6 .keeps (.op 10 .plain (.op 11 .keeps (.op 13 .plain .nil))))) (.op 6 .keeps (.op 1 .keeps (.op 10 .plain (.op 11 .keeps (.op 13 .plain .nil)))))))))))))) (.both (.op 6 .keeps (.both (.op 1 .keeps (.both (.op 3 .keeps (.both (.op 7 .keeps (.op 10 .plain (.both (.op 11 .keeps (.op 12 .keeps (.op 13 .plain .nil))) (.op 12 .keeps (.op 11 .keeps (.op 13 .plain .nil)))))) (.op 12 .keeps (.op 7 .keeps (.op 10 .plain (.op 11 .keeps (.op 13 .plain .nil))))))) (.both (.op 7 .keeps (.both (.op 3 .keeps (.op 10 .plain (.both (.op 11 .keeps (.op 12 .keeps (.op 13 .plain .nil))) (.op 12 .keeps (.op 11 .keeps (.op 13 .plain .nil)))))) (.op 12 .keeps (.op 3 .keeps (.op 10 .plain (.op 11 .keeps (.op 13 .plain .nil))))))) (.op 12 .keeps (.both (.op 3 .keeps (.op 7 .keeps (.op 10 .plain (.op 11 .keeps (.op 13 .plain .nil))))) (.op 7 .keeps (.op 3 .keeps (.op 10 .plain (.op 11 .keeps (.op 13 .plain .nil)))))))))) (.both (.op 3 .keeps (.both (.op 1 .keeps (.both (.op 7 .keeps (.op 10 .plain (.both (.op 11 .keeps (.op 12 .keeps (.op 13 .plain .nil))) (.op 12 .keeps (.op 11 .keeps (.op 13 .plain .nil)))))) (.op 12 .keeps (.op 7 .keeps (.op 10 .plain (.op 11 .keeps (.op 13 .plain .nil))))))) (.both (.op 7 .keeps (.both (.op 1 .keeps (.op 10 .plain (.both (.op 11 .keeps (.op 12 .keeps (.op 13 .plain .nil))) (.op 12 .keeps (.op 11 .keeps (.op 13 .plain .nil)))))) (.op 12 .keeps (.op 1 .keeps (.op 10 .plain (.op 11 .keeps (.op 13 .plain .nil))))))) (.op 12 .keeps (.both (.op 1 .keeps (.op 7 .keeps (.op 10 .plain (.op 11 .keeps (.op 13 .plain .nil))))) (.op 7 .keeps (.op 1 .keeps (.op 10 .plain (.op 11 .keeps (.op 13 .plain .nil)))))))))) (.both (.op 7 .keeps (.both (.op 1 .keeps (.both (.op 3 .keeps (.op 10 .plain (.both (.op 11 .keeps (.op 12 .keeps (.op 13 .plain .nil))) (.op 12 .keeps (.op 11 .keeps (.op 13 .plain .nil)))))) (.op 12 .keeps (.op 3 .keeps (.op 10 .plain (.op 11 .keeps (.op 13 .plain .nil))))))) (.both (.op 3 .keeps (.both (.op 1 .keeps (.op 10 .plain (.both (.op 11 .keeps (.op 12 .keeps (.op 13 .plain .nil))) (.op 12 .keeps (.op 11 .keeps (.op 13 .plain .nil)))))) (.op 12 .keeps (.op 1 .keeps (.op 10 .plain (.op 11 .keeps (.op 13 .plain .nil))))))) (.op 12 .keeps (.both (.op 1 .keeps (.op 3 .keeps (.op 10 .plain (.op 11 .keeps (.op 13 .plain .nil))))) (.op 3 .keeps (.op 1 .keeps (.op 10 .plain (.op 11 .keeps (.op 13 .plain .nil)))))))))) (.op 12 .keeps (.both (.op 1 .keeps (.both (.op 3 .keeps (.op 7 .keeps (.op 10 .plain (.op 11 .keeps (.op 13 .plain .nil))))) (.op 7 .keeps (.op 3 .keeps (.op 10 .plain (.op 11 .keeps (.op 13 .plain .nil))))))) (.both (.op 3 .keeps (.both (.op 1 .keeps (.op 7 .keeps (.op 10 .plain (.op 11 .keeps (.op 13 .plain .nil))))) (.op 7 .keeps (.op 1 .keeps (.op 10 .plain (.op 11 .keeps (.op 13 .plain .nil))))))) (.op 7 .keeps (.both (.op 1 .keeps (.op 3 .keeps (.op 10 .plain (.op 11 .keeps (.op 13 .plain .nil))))) (.op 3 .keeps (.op 1 .keeps (.op 10 .plain (.op 11 .keeps (.op 13 .plain .nil)))))))))))))) (.both (.op 7 .keeps (.both (.op 1 .keeps (.both (.op 3 .keeps (.both (.op 6 .keeps (.op 10 .plain (.both (.op 11 .keeps (.op 12 .keeps (.op 13 .plain .nil))) (.op 12 .keeps (.op 11 .keeps (.op 13 .plain .nil)))))) (.op 12 .keeps (.op 6 .keeps (.op 10 .plain (.op 11 .keeps (.op 13 .plain .nil))))))) (.both (.op 6 .keeps (.both (.op 3 .keeps (.op 10 .plain (.both (.op 11 .keeps (.op 12 .keeps (.op 13 .plain .nil))) (.op 12 .keeps (.op 11 .keeps (.op 13 .plain .nil)))))) (.op 12 .keeps (.op 3 .keeps (.op 10 .plain (.op 11 .keeps (.op 13 .plain .nil))))))) (.op 12 .keeps (.both (.op 3 .keeps (.op 6 .keeps (.op 10 .plain (.op 11 .keeps (.op 13 .plain .nil))))) (.op 6 .keeps (.op 3 .keeps (.op 10 .plain (.op 11 .keeps (.op 13 .plain .nil)))))))))) (.both (.op 3 .keeps (.both (.op 1 .keeps (.both (.op 6 .keeps (.op 10 .plain (.both (.op 11 .keeps (.op 12 .keeps (.op 13 .plain .nil))) (.op 12 .keeps (.op 11 .keeps (.op 13 .plain .nil)))))) (.op 12 .keeps (.op 6 .keeps (.op 10 .plain (.op 11 .keeps (.op 13 .plain .nil))))))) (.both (.op 6 .keeps (.both (.op 1 .keeps (.op 10 .plain (.both (.op 11 .keeps (.op 12 .keeps (.op 13 .plain .nil))) (.op 12 .keeps (.op 11 .keeps (.op 13 .plain .nil)))))) (.op 12 .keeps (.op 1 .keeps (.op 10 .plain (.op 11 .keeps (.op 13 .plain .nil))))))) (.op 12 .keeps (.both (.op 1 .keeps (.op 6 .keeps (.op 10 .plain (.op 11 .keeps (.op 13 .plain .nil))))) (.op 6 .keeps (.op 1 .keeps (.op 10 .plain (.op 11 .keeps (.op 13 .plain .nil)))))))))) (.both (.op 6 .keeps (.both (.op 1 .keeps (.both (.op 3 .keeps (.op 10 .plain (.both (.op 11 .keeps (.op 12 .keeps (.op 13 .plain .nil))) (.op 12 .keeps (.op 11 .keeps (.op 13 .plain .nil)))))) (.op 12 .keeps (.op 3 .keeps (.op 10 .plain (.op 11 .keeps (.op 13 .plain .nil))))))) (.both (.op 3 .keeps (.both (.op 1 .keeps (.op 10 .plain (.both (.op 11 .keeps (.op 12 .keeps (.op 13 .plain .nil))) (.op 12 .keeps (.op 11 .keeps (.op 13 .plain .nil)))))) (.op 12 .keeps (.op 1 .keeps (.op 10 .plain (.op 11 .keeps (.op 13 .plain .nil))))))) (.op 12 .keeps (.both (.op 1 .keeps (.op 3 .keeps (.op 10 .plain (.op 11 .keeps (.op 13 .plain .nil))))) (.op 3 .keeps (.op 1 .keeps (.op 10 .plain (.op 11 .keeps (.op 13 .plain .nil)))))))))) (.op 12 .keeps (.both (.op 1 .keeps (.both (.op 3 .keeps (.op 6 .keeps (.op 10 .plain (.op 11 .keeps (.op 13 .plain .nil))))) (.op 6 .keeps (.op 3 .keeps (.op 10 .plain (.op 11 .keeps (.op 13 .plain .nil))))))) (.both (.op 3 .keeps (.both (.op 1 .keeps (.op 6 .keeps (.op 10 .plain (.op 11 .keeps (.op 13 .plain .nil))))) (.op 6 .keeps (.op 1 .keeps (.op 10 .plain (.op 11 .keeps (.op 13 .plain .nil))))))) (.op 6 .keeps (.both (.op 1 .keeps (.op 3 .keeps (.op 10 .plain (.op 11 .keeps (.op 13 .plain .nil))))) (.op 3 .keeps (.op 1 .keeps (.op 10 .plain (.op 11 .keeps (.op 13 .plain .nil)))))))))))))) (.op 12 .keeps (.both (.op 1 .keeps (.both (.op 3 .keeps (.both (.op 6 .keeps (.op 7 .keeps (.op 10 .plain (.op 11 .keeps (.op 13 .plain .nil))))) (.op 7 .keeps (.op 6 .keeps (.op 10 .plain (.op 11 .keeps (.op 13 .plain .nil))))))) (.both (.op 6 .keeps (.both (.op 3 .keeps (.op 7 .keeps (.op 10 .plain (.op 11 .keeps (.op 13 .plain .nil))))) (.op 7 .keeps (.op 3 .keeps (.op 10 .plain (.op 11 .keeps (.op 13 .plain .nil))))))) (.op 7 .keeps (.both (.op 3 .keeps (.op 6 .keeps (.op 10 .plain (.op 11 .keeps (.op 13 .plain .nil))))) (.op 6 .keeps (.op 3 .keeps (.op 10 .plain (.op 11 .keeps (.op 13 .plain .nil)))))))))) (.both (.op 3 .keeps (.both (.op 1 .keeps (.both (.op 6 .keeps (.op 7 .keeps (.op 10 .plain (.op 11 .keeps (.op 13 .plain .nil))))) (.op 7 .keeps (.op 6 .keeps (.op 10 .plain (.op 11 .keeps (.op 13 .plain .nil))))))) (.both (.op 6 .keeps (.both (.op 1 .keeps (.op 7 .keeps (.op 10 .plain (.op 11 .keeps (.op 13 .plain .nil))))) (.op 7 .keeps (.op 1 .keeps (.op 10 .plain (.op 11 .keeps (.op 13 .plain .nil))))))) (.op 7 .keeps (.both (.op 1 .keeps (.op 6 .keeps (.op 10 .plain (.op 11 .keeps (.op 13 .plain .nil))))) (.op 6 .keeps (.op 1 .keeps (.op 10 .plain (.op 11 .keeps (.op 13 .plain .nil)))))))))) (.both (.op 6 .keeps (.both (.op 1 .keeps (.both (.op 3 .keeps (.op 7 .keeps (.op 10 .plain (.op 11 .keeps (.op 13 .plain .nil))))) (.op 7 .keeps (.op 3 .keeps (.op 10 .plain (.op 11 .keeps (.op 13 .plain .nil))))))) (.both (.op 3 .keeps (.both (.op 1 .keeps (.op 7 .keeps (.op 10 .plain (.op 11 .keeps (.op 13 .plain .nil))))) (.op 7 .keeps (.op 1 .keeps (.op 10 .plain (.op 11 .keeps (.op 13 .plain .nil))))))) (.op 7 .keeps (.both (.op 1 .keeps (.op 3 .keeps (.op 10 .plain (.op 11 .keeps (.op 13 .plain .nil))))) (.op 3 .keeps (.op 1 .keeps (.op 10 .plain (.op 11 .keeps (.op 13 .plain .nil)))))))))) (.op 7 .keeps (.both (.op 1 .keeps (.both (.op 3 .keeps (.op 6 .keeps (.op 10 .plain (.op 11 .keeps (.op 13 .plain .nil))))) (.op 6 .keeps (.op 3 .keeps (.op 10 .plain (.op 11 .keeps (.op 13 .plain .nil))))))) (.both (.op 3 .keeps (.both (.op 1 .keeps (.op 6 .keeps (.op 10 .plain (.op 11 .keeps (.op 13 .plain .nil))))) (.op 6 .keeps (.op 1 .keeps (.op 10 .plain (.op 11 .keeps (.op 13 .plain .nil))))))) (.op 6 .keeps (.both (.op 1 .keeps (.op 3 .keeps (.op 10 .plain (.op 11 .keeps (.op 13 .plain .nil))))) (.op 3 .keeps (.op 1 .keeps (.op 10 .plain (.op 11 .keeps (.op 13 .plain .nil)))))))))))))))))))))))) Kk [(b1, .cells C [] 27)] Ks ?_
 repeat' (with_reducible refine And.intro ?_ ?_)
 all_goals as_aux_lemma=>
  repeat' first
   |with_reducible first|refine Nx.go ?_ |refine Bk.go (fun _=>?_) fun _=>?_ |refine Nb fun nb hnb hnb1 hnb2=>?_ |refine Nr fun nb nsp ncap hnb hncap hnb1 hnb2=>?_
   |simp -dsimp -implicitDefEqProofs (disch:=first|exact Kd|fail) only[go_sem,↓reduceIte,seval, -List.reduceReplicate,hCl,hCx,hCw,Nat.sub_self,List.replicate_zero]
   | ((with_reducible refine zwM hm3 hlab fun vb kb hsk hO=>?_);obtain⟨av,cv,rfl⟩:=zH.isS hO;(have hE:=hsk;try simp only[zzs] at hE;repeat(obtain⟨hx',hE⟩:=hE)))
   |with_reducible refine And.intro ?_ ?_
  all_goals
   apply zwN hO rfl
   ·repeat first
     |exact List.Mem.head _
     |with_reducible refine List.mem_append_right _ ?_
     |refine List.Mem.tail _ ?_
   ·repeat first
     |exact List.Mem.head _
     |with_reducible refine List.mem_append_right _ ?_
     |refine List.Mem.tail _ ?_
   ·intro fsum;simp only[PC,List.map_append,List.map_cons,List.map_nil,List.sum_append,List.sum_cons,List.sum_nil,List.cons_append,List.nil_append];omega
end Go.Proofs.YtefkpedhbijhkaaGreatDoor
namespace Go.Proofs.YtefkpedhbijhkaaGreatDoor
open Go Go.V Go.Proofs
theorem zti {α:Type} [DecidableEq α] {l:List α} {v:Nat} (h:v< (zl l).length): ∃t,∃ht:t<l.length,(zf l)[t]'(by rw[zv];exact ht)=(v:Int):=by
 have hm:(zl l)[v]∈l:=(zI l).1 (List.getElem_mem h)
 obtain⟨t,ht,e⟩:=List.getElem_of_mem hm
 refine⟨t,ht,?_⟩
 rw[zbM ht,e,zx (zbX (zcx l) h)]
def blF (l:List Int) (i:Nat):Nat:=((zf l).getD i 0).toNat
theorem zgM {l:List Int} {i:Nat} (h:i<l.length):(zf l)[i]'(by rw[zv];exact h)=(blF l i:Int):=by
 have hl:i< (zf l).length:=by rw[zv];exact h
 unfold blF
 rw[List.getD_eq_getElem?_getD,List.getElem?_eq_getElem hl]
 have:=za2 (List.getElem_mem hl)
 show _=(((zf l)[i]).toNat:Int)
 omega
theorem zpI {l:List Int} {i j:Nat} (hi:i<l.length) (hj:j<l.length):blF l i=blF l j↔l[i]=l[j]:=by
 rw[←zfF hi hj,zgM hi,zgM hj];omega
theorem zwO (l:List Int):(zf l).map (Value.int .i64)=zj l.length (blF l):=by
 have:=zwL (l:=zf l) (f:=blF l) fun i hi=>zgM (by rw[zv] at hi;exact hi)
 rw[zv] at this
 exact this
theorem zvl {l:List Int} {s v:Nat} (hs:s<l.length) (h:v≤blF l s): ∃t,t<l.length∧blF l t=v:=by
 have hb:=za2 (l:=l) (n:=(zf l)[s]'(by rw[zv];exact hs)) (List.getElem_mem _)
 rw[zgM hs] at hb
 obtain⟨t,ht,e⟩:=zti (l:=l) (v:=v) Ko
 refine⟨t,ht,?_⟩
 rw[zgM ht] at e
 omega
theorem ztj {l:List Int} {s:Nat} (hs:s<l.length):blF l s<l.length:=by
 have hb:=za2 (l:=l) (n:=(zf l)[s]'(by rw[zv];exact hs)) (List.getElem_mem _)
 rw[zgM hs] at hb
 have:=zam l
 omega
structure SpI (bf f:Nat→Nat) (i nb:Nat) (fr to pl:Nat→Nat):Prop where
 pl: ∀j,j<i→pl (f j)=j
 nb0:i=0→nb=0
 nb1:0<i→nb=bf (f (i - 1))+1
 span: ∀b,b<nb→fr b<to b∧to b≤i∧ ∀j,fr b≤j→j<to b→bf (f j)=b
 each: ∀j,j<i→bf (f j) <nb∧fr (bf (f j))≤j∧j<to (bf (f j))
theorem SpI.zero (bf f fr to pl:Nat→Nat):SpI bf f 0 0 fr to pl:=⟨fun j h=>by omega,fun _=>rfl,fun h=>by omega,fun b h=>by omega,fun j h=>by omega⟩
theorem SpI.next {bf f fr to pl:Nat→Nat} {n i nb:Nat} (h:SpI bf f i nb fr to pl) (hs:zP (fun s=>(bf s:Int)) f 0 n) (hi:i<n) (ho: ∀j v,j<n→v≤bf (f j)→ ∃t,t<n∧bf (f t)=v):bf (f i)≤nb∧nb≤bf (f i)+1:=by
 have hmono: ∀x y,x≤y→y<n→bf (f x)≤bf (f y):=fun x y h1 h2=>by
  have:=hs.le (Nat.zero_le x) h1 h2
  omega
 rcases Nat.eq_zero_or_pos i with e|e
 ·rw[h.nb0 e]
  obtain⟨t,h1,h2⟩:=ho i 0 hi (Nat.zero_le _)
  have:=hmono i t Ko h1
  omega
 ·rw[h.nb1 e]
  refine⟨?_,?_⟩
  ·apply Classical.byContradiction
   intro hn
   obtain⟨t,h1,h2⟩:=ho i (bf (f (i - 1))+1) hi Ko
   rcases Nat.lt_or_ge t i with g|g
   ·have:=hmono t (i - 1) Ko Ko;omega
   ·have:=hmono i t g h1;omega
  ·have:=hmono (i - 1) i Ko hi;omega
theorem SpI.new {bf f fr to pl:Nat→Nat} {n i nb:Nat} (h:SpI bf f i nb fr to pl) (hinj: ∀x y,x<n→y<n→f x=f y→x=y) (hi:i<n) (he:bf (f i)=nb):SpI bf f (i+1) (nb+1) (zo fr nb i) (zo (zo to nb i) nb (i+1)) (zo pl (f i) i):=by
 refine⟨fun j hj=>?_,fun h=>by omega,fun _=>by rw[Nat.add_sub_cancel,he],fun b hb=>?_,fun j hj=>?_⟩
 ·unfold zo
  by_cases e:f j=f i
  ·rw[if_pos e];exact(hinj j i Ko hi e).symm
  ·rw[if_neg e]
   refine h.pl j ?_
   rcases Nat.lt_or_ge j i with g|g
   ·exact g
   ·exact absurd (by rw[show j=i by omega]) e
 ·unfold zo
  by_cases e:b=nb
  ·rw[if_pos e,if_pos e]
   exact⟨by omega,Nat.le_refl _,fun j h1 h2=>by rw[show j=i by omega,he,e]⟩
  ·rw[if_neg e,if_neg e,if_neg e]
   obtain⟨a1,a2,a3⟩:=h.span b Ko
   exact⟨a1,by omega,a3⟩
 ·rcases Nat.lt_or_ge j i with g|g
  ·obtain⟨a1,a2,a3⟩:=h.each j g
   unfold zo
   rw[if_neg Ko,if_neg Ko,if_neg Ko]
   exact⟨by omega,a2,a3⟩
  ·obtain rfl:j=i:=by omega
   rw[he]
   unfold zo
   rw[if_pos rfl,if_pos rfl]
   omega
theorem SpI.old {bf f fr to pl:Nat→Nat} {n i nb:Nat} (h:SpI bf f i nb fr to pl) (hinj: ∀x y,x<n→y<n→f x=f y→x=y) (hi:i<n) (he:bf (f i)+1=nb):SpI bf f (i+1) nb fr (zo to (bf (f i)) (to (bf (f i))+1)) (zo pl (f i) i)∧to (bf (f i))=i:=by
 have hi0:0<i:=by
  rcases Nat.eq_zero_or_pos i with e|e
  ·have:=h.nb0 e;omega
  ·exact e
 have hc:=h.nb1 hi0
 have hce:bf (f (i - 1))=bf (f i):=by omega
 obtain⟨a1,a2,a3⟩:=h.each (i - 1) Ko
 rw[hce] at a1 a2 a3
 obtain⟨b1,b2,b3⟩:=h.span (bf (f i)) a1
 have hto:to (bf (f i))=i:=by omega
 refine⟨⟨fun j hj=>?_,fun h=>by omega,fun _=>by rw[Nat.add_sub_cancel];exact he.symm,fun b hb=>?_,fun j hj=>?_⟩,hto⟩
 ·unfold zo
  by_cases e:f j=f i
  ·rw[if_pos e];exact(hinj j i Ko hi e).symm
  ·rw[if_neg e]
   refine h.pl j ?_
   rcases Nat.lt_or_ge j i with g|g
   ·exact g
   ·exact absurd (by rw[show j=i by omega]) e
 ·unfold zo
  by_cases e:b=bf (f i)
  ·rw[if_pos e,e,hto]
   refine⟨by omega,Nat.le_refl _,fun j h1 h2=>?_⟩
   rcases Nat.lt_or_ge j i with g|g
   ·exact b3 j h1 Ko
   ·rw[show j=i by omega]
  ·rw[if_neg e]
   obtain⟨a1,a2,a3⟩:=h.span b hb
   exact⟨a1,by omega,a3⟩
 ·rcases Nat.lt_or_ge j i with g|g
  ·obtain⟨a1,a2,a3⟩:=h.each j g
   refine⟨a1,a2,?_⟩
   unfold zo
   split <;> rename_i e
   ·rw[e] at a3;omega
   ·exact a3
  ·obtain rfl:j=i:=by omega
   unfold zo
   rw[if_pos rfl]
   omega
theorem SpI.done {bf f fr to pl:Nat→Nat} {n nb:Nat} (h:SpI bf f n nb fr to pl) (hf:zjQ n f):PInv n nb f pl bf fr to fun _=>0:=by
 obtain⟨p,h1,h2⟩:=hf
 have hpl: ∀s,s<n→pl s=p s:=fun s hs=>by
  have:=h.pl (p s) (h2 s hs).1
  rw[(h2 s hs).2] at this
  exact this
 refine⟨fun i hi=>(h1 i hi).1,fun s hs=>by rw[hpl s hs];exact(h2 s hs).1,fun i hi=>h.pl i hi,fun s hs=>by rw[hpl s hs];exact(h2 s hs).2,fun s hs=>?_,fun s hs=>?_,fun s hs=>?_,fun b hb=>(h.span b hb).1,fun b hb=>(h.span b hb).2.1,fun b hb=>?_,fun b i hb g1 g2=>(h.span b hb).2.2 i g1 g2⟩
 ·have:=(h.each (p s) (h2 s hs).1).1
  rw[(h2 s hs).2] at this;exact this
 ·have:=(h.each (p s) (h2 s hs).1).2.1
  rw[(h2 s hs).2] at this;rw[hpl s hs];exact this
 ·have:=(h.each (p s) (h2 s hs).1).2.2
  rw[(h2 s hs).2] at this;rw[hpl s hs];exact this
 ·have:=(h.span b hb).1
  omega
theorem zyv {n:Nat} (hn:n≤2000000) {bq bp bs:Nat} {W:Int} {v1 va vb vsp vk vw vm:Value} {G:za} {H:zb}:
  Tri Tryz.prog Tryz.f95.ntmps (piece [1,1,1,0] Tryz.f95) G [(1,v1),(3, .int .i64 (n:Nat)),(4, .pointer (some ⟨bq,0,none⟩))] ((bq, .cells [.pointer (some ⟨bp,0,none⟩)] [] 105):: (bp, .cells (PC (.slice (some ⟨bs,0,none⟩) n n) va vb vsp vk vw vm W) [] 112):: (bs, .cells (zj n fun _=>0) [] 3)::H) (onlyN fun G' l H'=>
   G'=G∧zy [1,3,4] l=[(1,v1),(3, .int .i64 (n:Nat)),(4, .pointer (some ⟨bq,0,none⟩))]∧H'=(bq, .cells [.pointer (some ⟨bp,0,none⟩)] [] 105):: (bp, .cells (PC (.slice (some ⟨bs,0,none⟩) n n) va vb vsp vk vw vm W) [] 112):: (bs, .cells (zj n fun i=>i) [] 3)::H):=by
 refine Tri.sepT fun hs0=>?_
 have hE:=hs0
 try simp only[zzs] at hE
 repeat(obtain⟨hx',hE⟩:=hE)
 refine Tri.piece (f:=Tryz.f95) rfl ?_
 refine Tri.run tok [0,1,2,3,4,5,6,7,8,9,10,11,27,28,29,48,49,50,51,75,113,114,115,126,127,128,129] Kk ?_
 repeat' first
  |with_reducible first|refine Nx.go ?_ |refine Bk.go (fun _=>?_) fun _=>?_ |refine Nb fun nb hnb hnb1 hnb2=>?_ |refine Nr fun nb nsp ncap hnb hncap hnb1 hnb2=>?_
  |simp -dsimp -implicitDefEqProofs (disch:=first|exact Kd|fail) only[go_sem,↓reduceIte,seval]
 refine Tri.loopU tok [0,1,2,3,4,5,6,7,8,9,10,11,27,28,29,48,49,50,51,75,113,114,115,126,127,128,129] Kk [1,3,4,27,28] (fun q G' fr H'=> ∃s:Nat,s+q=n∧G'=G∧H'=(bq, .cells [.pointer (some ⟨bp,0,none⟩)] [] 105):: (bp, .cells (PC (.slice (some ⟨bs,0,none⟩) n n) va vb vsp vk vw vm W) [] 112):: (bs, .cells (zj n fun j=>if j<s then j else 0) [] 3)::H∧fr=[(1,v1),(3, .int .i64 (n:Nat)),(4, .pointer (some ⟨bq,0,none⟩)),(27, .int .i64 (n:Nat)),(28, .int .i64 (s:Nat))]) (n) ?_ ?_
 ·exact Upd.now ⟨0,by omega,rfl,by rw[zd7 (f:=fun j=>if j<0 then j else 0) (g:=fun _=>0) fun i _=>if_neg Ko],rfl⟩
 ·rintro q G1 fr H1 hle hs1 ⟨s,hsq,rfl,rfl,rfl⟩
  have hE:=hs1
  try simp only[zzs] at hE
  repeat(obtain⟨hx',hE⟩:=hE)
  by_cases hsn:s<n
  ·have hp:=za6 (fun j=>if j<s then j else 0) hsn s
   have he:zj n (zo (fun j=>if j<s then j else 0) s s)=zj n fun j=>if j<s+1 then j else 0:=zd7 fun i _=>by
    unfold zo
    by_cases e:i=s
    ·rw[if_pos e,if_pos Ko,e]
    ·rw[if_neg e]
     show(if i<s then i else 0)=_
     by_cases e2:i<s
     ·rw[if_pos e2,if_pos Ko]
     ·rw[if_neg e2,if_neg Ko]
   rw[he] at hp
   repeat' first
    |with_reducible first|refine Nx.go ?_ |refine Bk.go (fun _=>?_) fun _=>?_ |refine Nb fun nb hnb hnb1 hnb2=>?_ |refine Nr fun nb nsp ncap hnb hncap hnb1 hnb2=>?_
    |simp -dsimp -implicitDefEqProofs (disch:=first|exact Kd|fail) only[go_sem,↓reduceIte,seval,hp]
   exact Upd.now ⟨q - 1,by omega,s+1,by omega,rfl,rfl,rfl⟩
  ·obtain rfl:s=n:=by omega
   rw[zd7 (f:=fun j=>if j<s then j else 0) (g:=fun i=>i) fun i hi=>if_pos hi] at hs1⊢
   repeat' first
    |with_reducible first|refine Nx.go ?_ |refine Bk.go (fun _=>?_) fun _=>?_ |refine Nb fun nb hnb hnb1 hnb2=>?_ |refine Nr fun nb nsp ncap hnb hncap hnb1 hnb2=>?_
    |simp -dsimp -implicitDefEqProofs (disch:=first|exact Kd|fail) only[go_sem,↓reduceIte,seval]
   exact Upd.now ⟨rfl,rfl,rfl⟩
theorem zyw {n:Nat} (hn:n≤2000000) {bq bp bl cb:Nat} {spb:List Value} {W:Int} {vs va vsp vk vw vm:Value} {bf:Nat→Nat} (hbf: ∀s,s<n→bf s<2000000) {sp:List Value} {bs:Nat} {G:za} {H:zb} (hsep:Sep G (zk ((bs,Res.cells [] [] 3):: (bq,Res.cells [.pointer (some ⟨bp,0,none⟩)] [] 105):: (bp,Res.cells (PC vs va (.slice (some ⟨bl,0,none⟩) n cb) vsp vk vw vm W) [] 112):: (bl,Res.cells (zj n bf) spb 3)::H))):zdO Tryz.prog 118 (.pointer (some ⟨bq,0,none⟩)) (fun s=>(bf s:Int)) n bs sp G ((bq, .cells [.pointer (some ⟨bp,0,none⟩)] [] 105):: (bp, .cells (PC vs va (.slice (some ⟨bl,0,none⟩) n cb) vsp vk vw vm W) [] 112):: (bl, .cells (zj n bf) spb 3)::H):=by
 intro x y g R hx hy hR
 have hE:=hsep
 try simp only[zzs] at hE
 repeat(obtain⟨hx',hE⟩:=hE)
 have hgx:=zaJ bf (sp:=spb) hx
 have hgy:=zaJ bf (sp:=spb) hy
 have hbx:=hbf x hx
 have hby:=hbf y hy
 refine FnT.body tok [0,1,2,5] Tryz.func118 rfl Kk Kk (by show _≤21;simp) fun hsep=>?_
 rw[Tryz.results118]
 have hE:=hsep
 try simp only[zzs] at hE
 repeat(obtain⟨hx',hE⟩:=hE)
 repeat' first
  |with_reducible first|refine Nx.go ?_ |refine Bk.go (fun _=>?_) fun _=>?_
  |simp -dsimp -implicitDefEqProofs (disch:=first|exact Kd|fail) only[go_sem,↓reduceIte,seval,hgx,hgy]
  |with_reducible refine Tri.drawM tok mixed [0,1,2,5] 1 [0,3,6,7,10,13] (.op 0 .held (.op 1 .plain (.op 2 .plain (.op 3 .held (.op 4 .plain (.op 5 .plain (.op 6 .held (.op 7 .held (.op 8 .plain (.op 9 .plain (.op 10 .held (.op 11 .plain (.op 12 .plain (.op 13 .held (.op 14 .plain (.op 15 .plain .nil)))))))))))))))) Kk _ (List.Sublist.refl _) ?_
 all_goals refine Upd.finL ?_ hR ?_
 any_goals first|exact Ks|skip
 rfl
set_option maxRecDepth 4000 in
theorem zyx {n:Nat} (hn:n≤2000000) {bq bp bs ba bl cb:Nat} {spb:List Value} {W:Int} {v1 vk vw vm:Value} {bf f:Nat→Nat} (hf:zjQ n f) (hs:zP (fun s=>(bf s:Int)) f 0 n) (hbl: ∀s,s<n→bf s<n) (ho: ∀j v,j<n→v≤bf (f j)→ ∃t,t<n∧bf (f t)=v) {G:za} {H:zb}:
  Tri Tryz.prog Tryz.f95.ntmps (piece [1,1,1,1,1,0] Tryz.f95) G [(1,v1),(3, .int .i64 (n:Nat)),(4, .pointer (some ⟨bq,0,none⟩))] ((bq, .cells [.pointer (some ⟨bp,0,none⟩)] [] 105):: (bp, .cells (PC (.slice (some ⟨bs,0,none⟩) n n) (.slice (some ⟨ba,0,none⟩) n n) (.slice (some ⟨bl,0,none⟩) n cb) (.slice none 0 0) vk vw vm W) [] 112):: (bs, .cells (zj n f) [] 3):: (ba, .cells (zj n fun _=>0) [] 3):: (bl, .cells (zj n bf) spb 3)::H) (onlyN fun G' l H'=>
   ∃w fr to pl vsp ks,PInv n w f pl bf fr to (fun _=>0)∧zH [] 139 3 vsp w (zC w fr to fun _=>0) ks∧G'=G∧zy [1,3,4] l=[(1,v1),(3, .int .i64 (n:Nat)),(4, .pointer (some ⟨bq,0,none⟩))]∧H'=(bq, .cells [.pointer (some ⟨bp,0,none⟩)] [] 105):: (bp, .cells (PC (.slice (some ⟨bs,0,none⟩) n n) (.slice (some ⟨ba,0,none⟩) n n) (.slice (some ⟨bl,0,none⟩) n cb) vsp vk vw vm W) [] 112):: (bs, .cells (zj n f) [] 3):: (ba, .cells (zj n pl) [] 3):: (bl, .cells (zj n bf) spb 3):: (ks++H)):=by
 have hinj: ∀x y,x<n→y<n→f x=f y→x=y:=fun x y h1 h2 e=>by
  obtain⟨p,g1,g2⟩:=hf
  rw[←(g1 x h1).2,e,(g1 y h2).2]
 have hflt: ∀x,x<n→f x<n:=fun x hx=>by
  obtain⟨p,g1,g2⟩:=hf
  exact(g1 x hx).1
 refine Tri.sepT fun hs0=>?_
 have hE:=hs0
 try simp only[zzs] at hE
 repeat(obtain⟨hx',hE⟩:=hE)
 refine Tri.piece (f:=Tryz.f95) rfl ?_
 refine Tri.run tok [0,1,2,3,4,5,6,7,8,9,10,11,27,28,29,48,49,50,51,75,113,114,115,126,127,128,129] Kk ?_
 repeat' first
  |with_reducible first|refine Nx.go ?_ |refine Bk.go (fun _=>?_) fun _=>?_ |refine Nb fun nb hnb hnb1 hnb2=>?_ |refine Nr fun nb nsp ncap hnb hncap hnb1 hnb2=>?_
  |simp -dsimp -implicitDefEqProofs (disch:=first|exact Kd|fail) only[go_sem,↓reduceIte,seval]
 refine Tri.loopU tok [0,1,2,3,4,5,6,7,8,9,10,11,27,28,29,48,49,50,51,75,113,114,115,126,127,128,129] Kk [1,3,4,48,49,50] (fun q G' fr' H'=> ∃ (i w:Nat) (fr to pl:Nat→Nat) (vsp:Value) (ks:zb),i+q=n∧SpI bf f i w fr to pl∧zH [] 139 3 vsp w (zC w fr to fun _=>0) ks∧G'=G∧H'=(bq, .cells [.pointer (some ⟨bp,0,none⟩)] [] 105):: (bp, .cells (PC (.slice (some ⟨bs,0,none⟩) n n) (.slice (some ⟨ba,0,none⟩) n n) (.slice (some ⟨bl,0,none⟩) n cb) vsp vk vw vm W) [] 112):: (bs, .cells (zj n f) [] 3):: (ba, .cells (zj n pl) [] 3):: (bl, .cells (zj n bf) spb 3):: (ks++H)∧fr'=[(1,v1),(3, .int .i64 (n:Nat)),(4, .pointer (some ⟨bq,0,none⟩)),(48, .slice (some ⟨bs,0,none⟩) n n),(49, .int .i64 (n:Nat)),(50, .int .i64 (i:Nat))]) (n) ?_ ?_
 ·exact Upd.now ⟨0,0,fun _=>0,fun _=>0,fun _=>0, .slice none 0 0,[],by omega,SpI.zero _ _ _ _ _, .inl ⟨none,rfl,rfl,rfl,rfl⟩,rfl,rfl,rfl⟩
 ·rintro q G1 fr' H1 hle hs1 ⟨i,w,fr,to,pl,vsp,ks,hiq,hI,hks,rfl,rfl,rfl⟩
  by_cases hin:i<n
  ·have hg1:=zdg f hin
   have hfi:=hflt i hin
   have hp:=za6 pl hfi i
   have hgb:=zaJ bf (sp:=spb) hfi
   obtain⟨hn1,hn2⟩:=hI.next hs hin ho
   have hbn:=hbl (f i) hfi
   by_cases hnew:bf (f i)=w
   ·have hN:=hI.new hinj hin hnew
    have hg5:(zC (w+1) (zo fr w i) (zo to w i) (zo (fun _=>0) w 0))[w * 3+1]? =some (.int .i64 (i:Nat)):=by
     have:=zgL (n:=w+1) (fr:=zo fr w i) (to:=zo to w i) (mk:=zo (fun _=>0) w 0) (sp:=[]) (i:=w) Ko
     rw[List.append_nil,zbe] at this;exact this
    have hmk:zo (fun _=>0) w 0=fun _=>0:=by funext x;unfold zo;split <;> rfl
    have hsn:=zl0 w fr to (fun _=>0) i i 0
    have hpt:=ztg (n:=w+1) (fr:=zo fr w i) (to:=zo to w i) (mk:=fun _=>0) (i:=w) Ko (i+1)
    have hg5':=fun sp=>zgL (n:=w+1) (fr:=zo fr w i) (to:=zo to w i) (mk:=fun _=>0) (sp:=sp) (i:=w) Ko
    simp only[zbe] at hg5'
    rw[hmk] at hsn
    have ei:(i:Int)+1=((i+1 :Nat):Int):=rfl
    rcases hks with ⟨aa,rfl,h0,hx,rfl⟩| ⟨bsp,csp,ssp,rfl,rfl,hx,hc⟩
    ·subst h0
     rw[show zC 0 fr to (fun _=>0)=[] from rfl,List.nil_append] at hsn
     have hE:=hs1
     try simp only[zzs] at hE
     repeat(obtain⟨hx',hE⟩:=hE)
     repeat' first
      |with_reducible first|refine Nx.go ?_ |refine Bk.go (fun _=>?_) fun _=>?_ |refine Nb fun nb hnb hnb1 hnb2=>?_ |refine Nr fun nb nsp ncap hnb hncap hnb1 hnb2=>?_
      |simp -dsimp -implicitDefEqProofs (disch:=first|exact Kd|fail) only[go_sem,↓reduceIte,seval,hg1,hp,hgb,hnew]
      |with_reducible refine Tri.drawS tok mixed [0,1,2,3,4,5,6,7,8,9,10,11,27,28,29,48,49,50,51,75,113,114,115,126,127,128,129] 15 [0,1,4] (.op 0 .held (.op 1 .held (.op 2 .plain (.op 3 .plain (.op 4 .held (.op 5 .plain (.op 6 .plain (.op 7 .plain (.op 8 .keeps (.op 9 .keeps (.op 10 .plain (.op 11 .plain (.op 12 .plain .nil))))))))))))) Kk [(bq, .cells [.pointer (some ⟨bp,0,none⟩)] [] 105),(bp, .cells (PC (.slice (some ⟨bs,0,none⟩) n n) (.slice (some ⟨ba,0,none⟩) n n) (.slice (some ⟨bl,0,none⟩) n cb) (.slice aa 0 0) vk vw vm W) [] 112)] Ks ?_
     obtain⟨bx,ebx⟩: ∃x,x=nb:=⟨_,rfl⟩
     subst ebx
     have hsn':[Value.int .i64 (i:Nat),Value.int .i64 (i:Nat),Value.int .i64 0]=zC 1 (zo fr 0 i) (zo to 0 i) fun _=>0:=hsn
     rw[hsn']
     repeat' first
      |with_reducible first|refine Nx.go ?_ |refine Bk.go (fun _=>?_) fun _=>?_ |refine Nb fun nb hnb hnb1 hnb2=>?_ |refine Nr fun nb nsp ncap hnb hncap hnb1 hnb2=>?_
      |simp -dsimp -implicitDefEqProofs (disch:=first|exact Kd|fail) only[go_sem,↓reduceIte,seval,hgb,hnew,hpt,hg5',ei]
      |with_reducible refine Tri.drawS tok mixed [0,1,2,3,4,5,6,7,8,9,10,11,27,28,29,48,49,50,51,75,113,114,115,126,127,128,129] 16 [0,3,4,7,10,13] (.op 0 .held (.op 1 .plain (.op 2 .plain (.op 3 .held (.op 4 .held (.op 5 .plain (.op 6 .plain (.op 7 .held (.op 8 .plain (.op 9 .plain (.op 10 .held (.op 11 .plain (.op 12 .plain (.op 13 .held (.op 14 .plain (.op 15 .plain (.op 16 .plain (.op 17 .plain .nil)))))))))))))))))) Kk [(bq, .cells [.pointer (some ⟨bp,0,none⟩)] [] 105),(bp, .cells (PC (.slice (some ⟨bs,0,none⟩) n n) (.slice (some ⟨ba,0,none⟩) n n) (.slice (some ⟨bl,0,none⟩) n cb) (.slice (some ⟨bx,0,none⟩) 1 ncap) vk vw vm W) [] 112),(bl, .cells (zj n bf) spb 3),(bx, .cells (zC 1 (zo fr 0 i) (zo to 0 i) fun _=>0) nsp 139)] Ks ?_
     refine Upd.leave (H':=(bq, .cells [.pointer (some ⟨bp,0,none⟩)] [] 105):: (bp, .cells (PC (.slice (some ⟨bs,0,none⟩) n n) (.slice (some ⟨ba,0,none⟩) n n) (.slice (some ⟨bl,0,none⟩) n cb) (.slice (some ⟨bx,0,none⟩) 1 ncap) vk vw vm W) [] 112):: (bs, .cells (zj n f) [] 3):: (ba, .cells (zj n (zo pl (f i) i)) [] 3):: (bl, .cells (zj n bf) spb 3):: ([(bx, .cells (zC 1 (zo fr 0 i) (zo (zo to 0 i) 0 (i+1)) fun _=>0) nsp 139)]++H)) Ks ?_
     exact⟨q - 1,by omega,i+1,1,_,_,_,_,_,by omega,hN, .inr ⟨bx,ncap,nsp,rfl,rfl,by rw[zba],by rw[zba];simp at hncap;omega⟩,rfl,rfl,rfl⟩
    ·have hE:=hs1
     try simp only[zzs] at hE
     repeat(obtain⟨hx',hE⟩:=hE)
     repeat' first
      |with_reducible first|refine Nx.go ?_ |refine Bk.go (fun _=>?_) fun _=>?_ |refine Nb fun nb hnb hnb1 hnb2=>?_ |refine Nr fun nb nsp ncap hnb hncap hnb1 hnb2=>?_
      |simp -dsimp -implicitDefEqProofs (disch:=first|exact Kd|fail) only[go_sem,↓reduceIte,seval,hg1,hp,hgb,hnew]
      |with_reducible refine Tri.drawS tok mixed [0,1,2,3,4,5,6,7,8,9,10,11,27,28,29,48,49,50,51,75,113,114,115,126,127,128,129] 15 [0,1,4] (.op 0 .held (.op 1 .held (.op 2 .plain (.op 3 .plain (.op 4 .held (.op 5 .plain (.op 6 .plain (.op 7 .plain (.op 8 .keeps (.op 9 .keeps (.op 10 .plain (.op 11 .plain (.op 12 .plain .nil))))))))))))) Kk [(bq, .cells [.pointer (some ⟨bp,0,none⟩)] [] 105),(bp, .cells (PC (.slice (some ⟨bs,0,none⟩) n n) (.slice (some ⟨ba,0,none⟩) n n) (.slice (some ⟨bl,0,none⟩) n cb) (.slice (some ⟨bsp,0,none⟩) w csp) vk vw vm W) [] 112)] Ks ?_
     obtain⟨bx,ebx⟩: ∃x,x=nb:=⟨_,rfl⟩
     subst ebx
     have hsn':zC w fr to (fun _=>0)++[Value.int .i64 (i:Nat),Value.int .i64 (i:Nat),Value.int .i64 0]=zC (w+1) (zo fr w i) (zo to w i) fun _=>0:=hsn
     rw[hsn']
     repeat' first
      |with_reducible first|refine Nx.go ?_ |refine Bk.go (fun _=>?_) fun _=>?_ |refine Nb fun nb hnb hnb1 hnb2=>?_ |refine Nr fun nb nsp ncap hnb hncap hnb1 hnb2=>?_
      |simp -dsimp -implicitDefEqProofs (disch:=first|exact Kd|fail) only[go_sem,↓reduceIte,seval,hgb,hnew,hpt,hg5',ei]
      |with_reducible refine Tri.drawS tok mixed [0,1,2,3,4,5,6,7,8,9,10,11,27,28,29,48,49,50,51,75,113,114,115,126,127,128,129] 16 [0,3,4,7,10,13] (.op 0 .held (.op 1 .plain (.op 2 .plain (.op 3 .held (.op 4 .held (.op 5 .plain (.op 6 .plain (.op 7 .held (.op 8 .plain (.op 9 .plain (.op 10 .held (.op 11 .plain (.op 12 .plain (.op 13 .held (.op 14 .plain (.op 15 .plain (.op 16 .plain (.op 17 .plain .nil)))))))))))))))))) Kk [(bq, .cells [.pointer (some ⟨bp,0,none⟩)] [] 105),(bp, .cells (PC (.slice (some ⟨bs,0,none⟩) n n) (.slice (some ⟨ba,0,none⟩) n n) (.slice (some ⟨bl,0,none⟩) n cb) (.slice (some ⟨bx,0,none⟩) (w+1) ncap) vk vw vm W) [] 112),(bl, .cells (zj n bf) spb 3),(bx, .cells (zC (w+1) (zo fr w i) (zo to w i) fun _=>0) nsp 139)] Ks ?_
     refine Upd.leave (H':=(bq, .cells [.pointer (some ⟨bp,0,none⟩)] [] 105):: (bp, .cells (PC (.slice (some ⟨bs,0,none⟩) n n) (.slice (some ⟨ba,0,none⟩) n n) (.slice (some ⟨bl,0,none⟩) n cb) (.slice (some ⟨bx,0,none⟩) (w+1) ncap) vk vw vm W) [] 112):: (bs, .cells (zj n f) [] 3):: (ba, .cells (zj n (zo pl (f i) i)) [] 3):: (bl, .cells (zj n bf) spb 3):: ([(bx, .cells (zC (w+1) (zo fr w i) (zo (zo to w i) w (i+1)) fun _=>0) nsp 139)]++H)) Ks ?_
     exact⟨q - 1,by omega,i+1,w+1,_,_,_,_,_,by omega,hN, .inr ⟨bx,ncap,nsp,rfl,rfl,by rw[zba],by rw[zba];omega⟩,rfl,rfl,rfl⟩
   ·have hold:bf (f i)+1=w:=by omega
    obtain⟨hN,hto⟩:=hI.old hinj hin hold
    rcases hks with ⟨aa,rfl,h0,hx,rfl⟩| ⟨bsp,csp,ssp,rfl,rfl,hx,hc⟩
    ·omega
    ·have hgt:=zgL (n:=w) (fr:=fr) (to:=to) (mk:=fun _=>0) (sp:=ssp) (i:=bf (f i)) Ko
     have hpt:=ztg (n:=w) (fr:=fr) (to:=to) (mk:=fun _=>0) (i:=bf (f i)) Ko (to (bf (f i))+1)
     have ei:((to (bf (f i)):Nat):Int)+1=((to (bf (f i))+1 :Nat):Int):=rfl
     have hnn: ¬((bf (f i):Nat):Int)=((w:Nat):Int):=by omega
     have hE:=hs1
     try simp only[zzs] at hE
     repeat(obtain⟨hx',hE⟩:=hE)
     repeat' first
      |with_reducible first|refine Nx.go ?_ |refine Bk.go (fun _=>?_) fun _=>?_ |refine Nb fun nb hnb hnb1 hnb2=>?_ |refine Nr fun nb nsp ncap hnb hncap hnb1 hnb2=>?_
      |simp -dsimp -implicitDefEqProofs (disch:=first|exact Kd|fail) only[go_sem,↓reduceIte,seval,hg1,hp,hgb,hpt,hgt,ei]
      |with_reducible refine Tri.drawS tok mixed [0,1,2,3,4,5,6,7,8,9,10,11,27,28,29,48,49,50,51,75,113,114,115,126,127,128,129] 16 [0,3,4,7,10,13] (.op 0 .held (.op 1 .plain (.op 2 .plain (.op 3 .held (.op 4 .held (.op 5 .plain (.op 6 .plain (.op 7 .held (.op 8 .plain (.op 9 .plain (.op 10 .held (.op 11 .plain (.op 12 .plain (.op 13 .held (.op 14 .plain (.op 15 .plain (.op 16 .plain (.op 17 .plain .nil)))))))))))))))))) Kk [(bq, .cells [.pointer (some ⟨bp,0,none⟩)] [] 105),(bp, .cells (PC (.slice (some ⟨bs,0,none⟩) n n) (.slice (some ⟨ba,0,none⟩) n n) (.slice (some ⟨bl,0,none⟩) n cb) (.slice (some ⟨bsp,0,none⟩) w csp) vk vw vm W) [] 112),(bl, .cells (zj n bf) spb 3),(bsp, .cells (zC w fr to fun _=>0) ssp 139)] Ks ?_
     all_goals first| (exfalso;omega)|skip
     refine Upd.leave (H':=(bq, .cells [.pointer (some ⟨bp,0,none⟩)] [] 105):: (bp, .cells (PC (.slice (some ⟨bs,0,none⟩) n n) (.slice (some ⟨ba,0,none⟩) n n) (.slice (some ⟨bl,0,none⟩) n cb) (.slice (some ⟨bsp,0,none⟩) w csp) vk vw vm W) [] 112):: (bs, .cells (zj n f) [] 3):: (ba, .cells (zj n (zo pl (f i) i)) [] 3):: (bl, .cells (zj n bf) spb 3):: ([(bsp, .cells (zC w fr (zo to (bf (f i)) (to (bf (f i))+1)) fun _=>0) ssp 139)]++H)) Ks ?_
     exact⟨q - 1,by omega,i+1,w,_,_,_,_,_,by omega,hN, .inr ⟨bsp,csp,ssp,rfl,rfl,by rw[zba],by rw[zba] at hc⊢;exact hc⟩,rfl,rfl,rfl⟩
  ·obtain rfl:i=n:=by omega
   have hE:=hs1
   try simp only[zzs] at hE
   repeat(obtain⟨hx',hE⟩:=hE)
   repeat' first
    |with_reducible first|refine Nx.go ?_ |refine Bk.go (fun _=>?_) fun _=>?_ |refine Nb fun nb hnb hnb1 hnb2=>?_ |refine Nr fun nb nsp ncap hnb hncap hnb1 hnb2=>?_
    |simp -dsimp -implicitDefEqProofs (disch:=first|exact Kd|fail) only[go_sem,↓reduceIte,seval]
   exact Upd.now ⟨w,fr,to,pl,vsp,ks,hI.done hf,hks,rfl,rfl,rfl⟩
end Go.Proofs.YtefkpedhbijhkaaGreatDoor
namespace Go.Proofs.YtefkpedhbijhkaaGreatDoor
open Go Go.V Go.Proofs
def dlF (d:DfaT) (k s:Nat):Nat:=((d.next.getD s []).getD k 0).toNat
theorem ziy {d:DfaT} (hok:zd d) {s k:Nat} (hs:s<d.next.length) (hk:(k:Int) <d.width): ∃h1:k< (d.next[s]).length,(d.next[s])[k]=(dlF d k s:Int)∧dlF d k s<d.label.length:=by
 obtain⟨hk1,hk2,hk3,hk4,hk5,hk6,hk7⟩:=hok
 obtain⟨w1,w2,w3,w4⟩:=hk7 s hs Ko
 have hkl:k< (d.next[s]).length:=by omega
 have h5:=w4 (d.next[s])[k] (List.getElem_mem hkl)
 have e:dlF d k s=((d.next[s])[k]).toNat:=by
  unfold dlF
  rw[List.getD_eq_getElem?_getD (l:=d.next),List.getElem?_eq_getElem hs]
  show((d.next[s]).getD k 0).toNat=_
  rw[List.getD_eq_getElem?_getD,List.getElem?_eq_getElem hkl];rfl
 exact⟨hkl,by omega,by omega⟩
def zbP (dl:Nat→Nat) (m t:Nat):List Int:=((List.range m).filter fun s:Nat=>decide (dl s=t)).map fun s:Nat=>(s:Int)
theorem ztk (dl:Nat→Nat) (m t:Nat):zbP dl (m+1) t=if dl m=t then zbP dl m t++[(m:Int)] else zbP dl m t:=by
 unfold zbP
 rw[List.range_succ,List.filter_append]
 by_cases h:dl m=t
 ·rw[if_pos h,List.filter_cons,if_pos (by simpa using h),List.map_append];rfl
 ·rw[if_neg h,List.filter_cons,if_neg (by simpa using h),List.filter_nil,List.append_nil]
theorem zvm {dl:Nat→Nat} {m t:Nat} {x:Int}:x∈zbP dl m t↔ ∃s:Nat,s<m∧dl s=t∧x=s:=by
 unfold zbP
 simp only[List.mem_map,List.mem_filter,List.mem_range,decide_eq_true_eq]
 constructor
 ·rintro⟨s,⟨h1,h2⟩,h3⟩;exact⟨s,h1,h2,h3.symm⟩
 ·rintro⟨s,h1,h2,h3⟩;exact⟨s,⟨h1,h2⟩,h3.symm⟩
theorem zjW (dl:Nat→Nat) (m t:Nat):(zbP dl m t).length≤m:=by
 unfold zbP
 rw[List.length_map]
 have:=List.length_filter_le (fun s=>decide (dl s=t)) (List.range m)
 rw[List.length_range] at this
 exact this
def zhC (dl:Nat→Nat) (n m:Nat):List (List Value):=(List.range n).map fun t=>(zbP dl m t).map (Value.int .i64)
theorem zeq (dl:Nat→Nat) (n m:Nat):(zhC dl n m).length=n:=by simp [zhC]
theorem zhD {dl:Nat→Nat} {n m t:Nat} (h:t<n):(zhC dl n m)[t]'(by rw[zeq];exact h)=(zbP dl m t).map (Value.int .i64):=by simp [zhC]
theorem ztl (dl:Nat→Nat) (n:Nat):zhC dl n 0=List.replicate n []:=by
 unfold zhC zbP
 simp [List.map_const']
theorem ztm {dl:Nat→Nat} {n m:Nat} (h:dl m<n):zhC dl n (m+1)=(zhC dl n m).set (dl m) ((zbP dl m (dl m)).map (Value.int .i64)++[.int .i64 (m:Nat)]):=by
 apply List.ext_getElem
 ·simp [zeq]
 ·intro t h1 h2
  rw[zeq] at h1
  rw[zhD h1,ztk,List.getElem_set]
  by_cases e:dl m=t
  ·rw[if_pos e,if_pos e,List.map_append,e];rfl
  ·rw[if_neg e,if_neg e,zhD h1]
def ziX (G:za) (n:Nat) (dl:Nat→Nat) (v:Value):Prop:= ∃a c rv,v= .slice a n c∧Row G a rv∧rv.length=n∧n≤c∧ ∀t (h:t<n) (h2:t<rv.length),Sl G (Value.int .i64) rv[t] (zbP dl n t)
theorem ziX.mono {G G':za} (hle:PLe G G') {n:Nat} {dl:Nat→Nat} {v:Value} (h:ziX G n dl v):ziX G' n dl v:=by
 obtain⟨a,c,rv,h1,h2,h3,h4,h5⟩:=h
 exact⟨a,c,rv,h1,h2.mono hle,h3,h4,fun t g1 g2=>(h5 t g1 g2).mono hle⟩
def BkT (G:za) (n W:Nat) (dl:Nat→Nat→Nat) (v:Value):Prop:= ∃a c rv,v= .slice a W c∧Row G a rv∧rv.length=W∧W≤c∧ ∀k (h:k<W) (h2:k<rv.length),ziX G n (dl k) rv[k]
theorem BkT.mono {G G':za} (hle:PLe G G') {n W:Nat} {dl:Nat→Nat→Nat} {v:Value} (h:BkT G n W dl v):BkT G' n W dl v:=by
 obtain⟨a,c,rv,h1,h2,h3,h4,h5⟩:=h
 exact⟨a,c,rv,h1,h2.mono hle,h3,h4,fun t g1 g2=>(h5 t g1 g2).mono hle⟩
set_option maxRecDepth 4000 in
theorem zyy {d:DfaT} (hsm:zt d) (hok:zd d) {C:List Value} {an al ay:Option Addr} {cn cl cs:Nat} {rs:List Value} {G:za} {H:zb} (O:OpenD G d C an al ay cn cl cs rs) {n W:Nat} (hnl:n=d.label.length) (hW:d.width=(W:Int)) (hW2:W≤256) {b1 bq bp bk:Nat} {vs va vb vsp vw vm:Value}:
  Tri Tryz.prog Tryz.f95.ntmps (piece [1,1,1,1,1,1,1,0] Tryz.f95) G [(1, .pointer (some ⟨b1,0,none⟩)),(3, .int .i64 (n:Nat)),(4, .pointer (some ⟨bq,0,none⟩))] ((b1, .cells C [] 27):: (bq, .cells [.pointer (some ⟨bp,0,none⟩)] [] 105):: (bp, .cells (PC vs va vb vsp (.slice (some ⟨bk,0,none⟩) W W) vw vm (W:Nat)) [] 112):: (bk, .cells (List.replicate W (.slice none 0 0)) [] 23)::H) (onlyN fun G' l H'=>
   ∃rk,PLe G G'∧rk.length=W∧(∀k (h:k<W) (h2:k<rk.length),ziX G' n (dlF d k) rk[k])∧zy [4] l=[(4, .pointer (some ⟨bq,0,none⟩))]∧H'=(b1, .cells C [] 27):: (bq, .cells [.pointer (some ⟨bp,0,none⟩)] [] 105):: (bp, .cells (PC vs va vb vsp (.slice (some ⟨bk,0,none⟩) W W) vw vm (W:Nat)) [] 112):: (bk, .cells rk [] 23)::H):=by
 obtain⟨hm1,hm2,hm3,hm4,hm5⟩:=id hsm
 obtain⟨hk1,hk2,hk3,hk4,hk5,hk6,hk7⟩:=id hok
 have hCl:=O.len
 have hCw:=O.w
 have hCn:=O.n
 have hrnl:=O.rnl
 have hr1: ∀x:Value,List.replicate 1 x=[x]:=fun _=>rfl
 refine Tri.sepT fun hs0=>?_
 have hE:=hs0
 try simp only[zzs] at hE
 repeat(obtain⟨hx',hE⟩:=hE)
 refine Tri.piece (f:=Tryz.f95) rfl ?_
 refine Tri.run tok [0,1,2,3,4,5,6,7,8,9,10,11,27,28,29,48,49,50,51,75,113,114,115,126,127,128,129] Kk ?_
 repeat' first
  |with_reducible first|refine Nx.go ?_ |refine Bk.go (fun _=>?_) fun _=>?_ |refine Nb fun nb hnb hnb1 hnb2=>?_ |refine Nr fun nb nsp ncap hnb hncap hnb1 hnb2=>?_
  |simp -dsimp -implicitDefEqProofs (disch:=first|exact Kd|fail) only[go_sem,↓reduceIte,seval, -List.reduceReplicate,hCl,hCw,hW]
 refine Tri.loopU tok [0,1,2,3,4,5,6,7,8,9,10,11,27,28,29,48,49,50,51,75,113,114,115,126,127,128,129] Kk [1,3,4,113,114] (fun q G' fr H'=> ∃ (k:Nat) (rk:List Value),k+q=W∧rk.length=W∧PLe G G'∧(∀j (h:j<k) (h2:j<rk.length),ziX G' n (dlF d j) rk[j])∧rk.all zax=true∧H'=(b1, .cells C [] 27):: (bq, .cells [.pointer (some ⟨bp,0,none⟩)] [] 105):: (bp, .cells (PC vs va vb vsp (.slice (some ⟨bk,0,none⟩) W W) vw vm (W:Nat)) [] 112):: (bk, .cells rk [] 23)::H∧fr=[(1, .pointer (some ⟨b1,0,none⟩)),(3, .int .i64 (n:Nat)),(4, .pointer (some ⟨bq,0,none⟩)),(113, .int .i64 (W:Nat)),(114, .int .i64 (k:Nat))]) (W) ?_ ?_
 ·exact Upd.now ⟨0,_,by omega,List.length_replicate ..,PLe.refl _,fun j h=>by omega,by rw[List.all_replicate];simp [zax],rfl,rfl⟩
 ·rintro q G1 fr H1 hle1 hs1 ⟨k,rk,hkq,hrk,hle01,hbk,hro,rfl,rfl⟩
  have O1:=O.mono hle01
  have hE:=hs1
  try simp only[zzs] at hE
  repeat(obtain⟨hx',hE⟩:=hE)
  by_cases hkW:k<W
  ·have hput: ∀v,zi rk k [v]=rk.set k v:=fun v=>zks Ko v
   repeat' first
    |with_reducible first|refine Nx.go ?_ |refine Bk.go (fun _=>?_) fun _=>?_ |refine Nb fun nb hnb hnb1 hnb2=>?_ |refine Nr fun nb nsp ncap hnb hncap hnb1 hnb2=>?_
    |simp -dsimp -implicitDefEqProofs (disch:=first|exact Kd|fail) only[go_sem,↓reduceIte,seval, -List.reduceReplicate,hCl,hCw,hCn,hW,hput,hrk,Nat.sub_self,List.replicate_zero]
    |with_reducible refine Tri.drawS tok mixed [0,1,2,3,4,5,6,7,8,9,10,11,27,28,29,48,49,50,51,75,113,114,115,126,127,128,129] 22 [0,3] (.op 0 .held (.op 1 .plain (.op 2 .plain (.op 3 .held (.op 4 .plain (.op 5 .plain (.op 6 .keeps (.op 7 .plain (.op 8 .plain .nil))))))))) Kk [(bq, .cells [.pointer (some ⟨bp,0,none⟩)] [] 105),(bp, .cells (PC vs va vb vsp (.slice (some ⟨bk,0,none⟩) W W) vw vm (W:Nat)) [] 112)] Ks ?_
   obtain⟨bh,ebh⟩: ∃x,x=nb:=⟨_,rfl⟩
   subst ebh
   obtain⟨rk',hrk'⟩: ∃rk',rk'=rk.set k (.slice (some ⟨bh,0,none⟩) n n):=⟨_,rfl⟩
   have hrl:rk'.length=W:=by rw[hrk',List.length_set,hrk]
   have hro':rk'.all zax=true:=by
    rw[List.all_eq_true] at hro⊢
    intro x hx
    rw[hrk'] at hx
    rcases List.mem_or_eq_of_mem_set hx with h|h
    ·exact hro x h
    ·rw[h];rfl
   have hrg:rk'[k]? =some (.slice (some ⟨bh,0,none⟩) n n):=by rw[hrk',List.getElem?_set_self Ko]
   have hrold: ∀j (h:j<k) (h2:j<rk'.length),rk'[j]=rk[j]'Ko:=fun j h h2=>by simp only[hrk'];rw[List.getElem_set_ne Ko]
   rw[←hrk']
   refine Tri.loopS tok [0,1,2,3,4,5,6,7,8,9,10,11,27,28,29,48,49,50,51,75,113,114,115,126,127,128,129] (.seq .run (.seq .run (.seq (.block (.seq .run .cut)) .run))) Kk [1,3,4,9,113,114,126,127,128] (fun q2 G' fr H'=> ∃ (s:Nat) (hv:List Value) (Fm:zb),s+q2=n∧PLe G1 G'∧zfD 3 hv (zhC (dlF d k) n s) Fm∧H'=(bh, .cells hv [] 24):: (b1, .cells C [] 27):: (bq, .cells [.pointer (some ⟨bp,0,none⟩)] [] 105):: (bp, .cells (PC vs va vb vsp (.slice (some ⟨bk,0,none⟩) W W) vw vm (W:Nat)) [] 112):: (bk, .cells rk' [] 23):: (Fm++H)∧fr=[(1, .pointer (some ⟨b1,0,none⟩)),(3, .int .i64 (n:Nat)),(4, .pointer (some ⟨bq,0,none⟩)),(9, .int .i64 (k:Nat)),(113, .int .i64 (W:Nat)),(114, .int .i64 (k:Nat)),(126, .slice an d.next.length cn),(127, .int .i64 (d.next.length:Nat)),(128, .int .i64 (s:Nat))]) (n) ?_ ?_
   ·exact Upd.leave (H':=(bh, .cells (List.replicate n (.slice none 0 0)) [] 24):: (b1, .cells C [] 27):: (bq, .cells [.pointer (some ⟨bp,0,none⟩)] [] 105):: (bp, .cells (PC vs va vb vsp (.slice (some ⟨bk,0,none⟩) W W) vw vm (W:Nat)) [] 112):: (bk, .cells rk' [] 23):: ([]++H)) Ks ⟨0,_,[],by omega,PLe.refl _,by rw[ztl];exact zfD.zero 3 n,rfl,rfl⟩
   ·rintro q2 G2 fr H2 hle2 hs2 ⟨s,hv,Fm,hsq,hle12,hF,rfl,rfl⟩
    have O2:=O1.mono hle12
    have hhv:hv.length=n:=by have:=hF.lenv;rw[zeq] at this;exact this
    by_cases hsn:s<n
    ·have hx':s<d.next.length:=by omega
     obtain⟨h1,e1,e2⟩:=ziy hok hx' (k:=k) Ko
     obtain⟨t,ht⟩: ∃t,t=dlF d k s:=⟨_,rfl⟩
     have htn:t<n:=by omega
     have hsucc:=ztm (dl:=dlF d k) (n:=n) (m:=s) Ko
     rw[←ht] at e1 hsucc
     obtain⟨kb,F',hk,hsum,hback⟩:=hF.out (i:=t) (by rw[zeq];exact htn)
     have hfg:=zhD (dl:=dlF d k) (n:=n) (m:=s) htn
     rw[hfg] at hk
     have hgv:hv[t]? =some hv[t]:=List.getElem?_eq_getElem Ko
     obtain⟨b,c,r1,r2,r3⟩:=O2.rs s hx' Ko
     have hadb:Adr b:=r2.adr (by rw[List.length_map];omega)
     have hadn:Adr an:=O2.rn.adr Ko
     have hputv: ∀v,zi hv t [v]=hv.set t v:=fun v=>zks Ko v
     have hpl:=zjW (dlF d k) s t
     have hE:=hs2
     try simp only[zzs] at hE
     repeat(obtain⟨hx',hE⟩:=hE)
     repeat' first
      |with_reducible first|refine Nx.go ?_ |refine Bk.go (fun _=>?_) fun _=>?_ |refine Nb fun nb hnb hnb1 hnb2=>?_ |refine Nr fun nb nsp ncap hnb hncap hnb1 hnb2=>?_
      |simp -dsimp -implicitDefEqProofs (disch:=first|exact Kd|fail) only[go_sem,↓reduceIte,seval, -List.reduceReplicate,hCl,hCw,hCn,hW,Row.obj O2.rn,r1]
     refine Tri.upd (Upd.go (H':=(bh, .cells hv [] 24):: (b1, .cells C [] 27):: (bq, .cells [.pointer (some ⟨bp,0,none⟩)] [] 105):: (bp, .cells (PC vs va vb vsp (.slice (some ⟨bk,0,none⟩) W W) vw vm (W:Nat)) [] 112):: (bk, .cells rk' [] 23):: (kb++(F'++H))) (by intro fsum;have:=hsum fsum;simp only[List.map_append,List.map_cons,List.sum_append,List.sum_cons];omega) (Upd.now ?_))
     refine Tri.sepT fun hs3=>?_
     rcases hk with ⟨aa,ev,hx0,hx,rfl⟩| ⟨bx,cx,spx,ev,rfl,hx,hcx⟩
     ·rw[List.nil_append] at hs3⊢
      rw[ev] at hgv
      have hE:=hs3
      try simp only[zzs] at hE
      repeat(obtain⟨hx',hE⟩:=hE)
      refine Tri.run tok [0,1,2,3,4,5,6,7,8,9,10,11,27,28,29,48,49,50,51,75,113,114,115,126,127,128,129] Kk ?_
      repeat' first
       |with_reducible first|refine Nx.go ?_ |refine Bk.go (fun _=>?_) fun _=>?_ |refine Nb fun nb hnb hnb1 hnb2=>?_ |refine Nr fun nb nsp ncap hnb hncap hnb1 hnb2=>?_
       |simp -dsimp -implicitDefEqProofs (disch:=first|exact Kd|fail) only[go_sem,↓reduceIte,seval, -List.reduceReplicate,hrg,e1,Row.obj r2,List.getElem_map,hgv,hputv,hr1,hhv]
       |with_reducible refine Tri.drawS tok mixed [0,1,2,3,4,5,6,7,8,9,10,11,27,28,29,48,49,50,51,75,113,114,115,126,127,128,129] 26 [0,3,6,10,11,14,17,21,23] (.op 0 .held (.op 1 .plain (.op 2 .plain (.op 3 .held (.op 4 .plain (.op 5 .plain (.op 6 .held (.op 7 .plain (.op 8 .plain (.op 9 .plain (.op 10 .held (.op 11 .held (.op 12 .plain (.op 13 .plain (.op 14 .held (.op 15 .plain (.op 16 .plain (.op 17 .held (.op 18 .plain (.op 19 .plain (.op 20 .plain (.op 21 .held (.op 22 .plain (.op 23 .held (.op 24 .plain (.op 25 .keeps (.op 26 .keeps (.op 27 .plain (.op 28 .plain .nil))))))))))))))))))))))))))))) Kk [(bq, .cells [.pointer (some ⟨bp,0,none⟩)] [] 105),(bp, .cells (PC vs va vb vsp (.slice (some ⟨bk,0,none⟩) W W) vw vm (W:Nat)) [] 112),(bk, .cells rk' [] 23),(bh, .cells hv [] 24)] Ks ?_
      obtain⟨F'',hF2,hsum2⟩:=hback (.slice (some ⟨nb,0,none⟩) 1 ncap) [.int .i64 (s:Nat)] [(nb, .cells [.int .i64 (s:Nat)] nsp 3)] (.inr ⟨nb,ncap,nsp,rfl,rfl,rfl,by simp at hncap⊢;omega⟩)
      rw[hx,List.nil_append] at hsucc
      rw[←hsucc] at hF2
      refine Upd.leave (H':=(bh, .cells (hv.set t (.slice (some ⟨nb,0,none⟩) 1 ncap)) [] 24):: (b1, .cells C [] 27):: (bq, .cells [.pointer (some ⟨bp,0,none⟩)] [] 105):: (bp, .cells (PC vs va vb vsp (.slice (some ⟨bk,0,none⟩) W W) vw vm (W:Nat)) [] 112):: (bk, .cells rk' [] 23):: (F''++H)) (by intro fsum;have:=hsum2 fsum;simp only[List.map_append,List.map_cons,List.map_nil,List.sum_append,List.sum_cons,List.sum_nil] at this⊢;omega) ?_
      exact⟨q2 - 1,by omega,s+1,_,F'',by omega,hle12,hF2,rfl,rfl⟩
     ·rw[ev] at hgv
      rw[List.length_map,Nat.mul_one] at hx hcx
      have hx:=hx
      have hE:=hs3
      try simp only[zzs] at hE
      repeat(obtain⟨hx',hE⟩:=hE)
      refine Tri.run tok [0,1,2,3,4,5,6,7,8,9,10,11,27,28,29,48,49,50,51,75,113,114,115,126,127,128,129] Kk ?_
      repeat' first
       |with_reducible first|refine Nx.go ?_ |refine Bk.go (fun _=>?_) fun _=>?_ |refine Nb fun nb hnb hnb1 hnb2=>?_ |refine Nr fun nb nsp ncap hnb hncap hnb1 hnb2=>?_
       |simp -dsimp -implicitDefEqProofs (disch:=first|exact Kd|fail) only[go_sem,↓reduceIte,seval, -List.reduceReplicate,hrg,e1,Row.obj r2,List.getElem_map,hgv,hputv,hr1,hhv,List.length_map]
       |with_reducible refine Tri.drawS tok mixed [0,1,2,3,4,5,6,7,8,9,10,11,27,28,29,48,49,50,51,75,113,114,115,126,127,128,129] 26 [0,3,6,10,11,14,17,21,23] (.op 0 .held (.op 1 .plain (.op 2 .plain (.op 3 .held (.op 4 .plain (.op 5 .plain (.op 6 .held (.op 7 .plain (.op 8 .plain (.op 9 .plain (.op 10 .held (.op 11 .held (.op 12 .plain (.op 13 .plain (.op 14 .held (.op 15 .plain (.op 16 .plain (.op 17 .held (.op 18 .plain (.op 19 .plain (.op 20 .plain (.op 21 .held (.op 22 .plain (.op 23 .held (.op 24 .plain (.op 25 .keeps (.op 26 .keeps (.op 27 .plain (.op 28 .plain .nil))))))))))))))))))))))))))))) Kk [(bq, .cells [.pointer (some ⟨bp,0,none⟩)] [] 105),(bp, .cells (PC vs va vb vsp (.slice (some ⟨bk,0,none⟩) W W) vw vm (W:Nat)) [] 112),(bk, .cells rk' [] 23),(bh, .cells hv [] 24)] Ks ?_
      obtain⟨F'',hF2,hsum2⟩:=hback (.slice (some ⟨nb,0,none⟩) ((zbP (dlF d k) s t).length+1) ncap) ((zbP (dlF d k) s t).map (Value.int .i64)++[.int .i64 (s:Nat)]) [(nb, .cells ((zbP (dlF d k) s t).map (Value.int .i64)++[.int .i64 (s:Nat)]) nsp 3)] (.inr ⟨nb,ncap,nsp,by rw[List.length_append,List.length_map];rfl,rfl,by simp,by simp at hncap⊢;omega⟩)
      rw[←hsucc] at hF2
      refine Upd.leave (H':=(bh, .cells (hv.set t (.slice (some ⟨nb,0,none⟩) ((zbP (dlF d k) s t).length+1) ncap)) [] 24):: (b1, .cells C [] 27):: (bq, .cells [.pointer (some ⟨bp,0,none⟩)] [] 105):: (bp, .cells (PC vs va vb vsp (.slice (some ⟨bk,0,none⟩) W W) vw vm (W:Nat)) [] 112):: (bk, .cells rk' [] 23):: (F''++H)) (by intro fsum;have:=hsum2 fsum;simp only[List.map_append,List.map_cons,List.map_nil,List.sum_append,List.sum_cons,List.sum_nil] at this⊢;omega) ?_
      exact⟨q2 - 1,by omega,s+1,_,F'',by omega,hle12,hF2,rfl,rfl⟩
    ·obtain rfl:s=n:=by omega
     have hE:=hs2
     try simp only[zzs] at hE
     repeat(obtain⟨hx',hE⟩:=hE)
     repeat' first
      |with_reducible first|refine Nx.go ?_ |refine Bk.go (fun _=>?_) fun _=>?_ |refine Nb fun nb hnb hnb1 hnb2=>?_ |refine Nr fun nb nsp ncap hnb hncap hnb1 hnb2=>?_
      |simp -dsimp -implicitDefEqProofs (disch:=first|exact Kd|fail) only[go_sem,↓reduceIte,seval, -List.reduceReplicate,hCl]
     refine Upd.go (H':=Fm++((bh, .cells hv [] 24):: (b1, .cells C [] 27):: (bq, .cells [.pointer (some ⟨bp,0,none⟩)] [] 105):: (bp, .cells (PC vs va vb vsp (.slice (some ⟨bk,0,none⟩) W W) vw vm (W:Nat)) [] 112):: (bk, .cells rk' [] 23)::H)) Ks (Upd.sepI fun hx'=>Upd.trans (hF.share hx' fun G3 hle3 hs3 hall=>?_))
     refine Upd.shareRow hs3.1.1 fun G4 hle4 hs4 hr4=>?_
     have k4:=hle12.trans (hle3.trans hle4)
     refine⟨q - 1,by omega,k+1,rk',by omega,hrl,hle01.trans k4,fun j hj h2=>?_,hro',rfl,rfl⟩
     rcases Nat.lt_or_ge j k with g|g
     ·rw[hrold j g h2]
      exact(hbk j g Ko).mono k4
     ·obtain rfl:j=k:=by omega
      have hrg2:rk'[j]= .slice (some ⟨bh,0,none⟩) s s:=by
       rw[List.getElem?_eq_getElem h2,Option.some.injEq] at hrg;exact hrg
      rw[hrg2]
      refine⟨_,s,hv,rfl,hr4,hhv,Nat.le_refl _,fun t ht h3=>?_⟩
      obtain⟨a,c,g1,g2,g3⟩:=hall t (by rw[zeq];exact ht) h3
      rw[zhD ht] at g1 g2 g3
      rw[List.length_map] at g1 g3
      exact⟨a,c,g1,g2.mono hle4,g3⟩
  ·obtain rfl:k=W:=by omega
   repeat' first
    |with_reducible first|refine Nx.go ?_ |refine Bk.go (fun _=>?_) fun _=>?_ |refine Nb fun nb hnb hnb1 hnb2=>?_ |refine Nr fun nb nsp ncap hnb hncap hnb1 hnb2=>?_
    |simp -dsimp -implicitDefEqProofs (disch:=first|exact Kd|fail) only[go_sem,↓reduceIte,seval]
   exact Upd.now ⟨rk,hle01,hrk,fun j h h2=>hbk j h h2,rfl,rfl⟩
end Go.Proofs.YtefkpedhbijhkaaGreatDoor
namespace Go.Proofs.YtefkpedhbijhkaaGreatDoor
open Go Go.V Go.Proofs
set_option maxRecDepth 4000 in
theorem zo1 {d:DfaT} (hsm:zt d) (hok:zd d) {n W:Nat} (hnl:n=d.label.length) (hW:d.width=(W:Int)) (hW2:W≤256) {G:za} {H:zb} {R:Value→za→zb→Prop} {v:Value} (hv:IsD G d v)
  (hR: ∀G' bp bs ba bl bm cb spb vsp ks vk st pl nb fr to,PLe G G'→n≤cb→PInv n nb st pl (blF d.label) fr to (fun _=>0)→zH [] 139 3 vsp nb (zC nb fr to fun _=>0) ks→BkT G' n W (dlF d) vk→R (.pointer (some ⟨bp,0,none⟩)) G' ((bp, .cells (PC (.slice (some ⟨bs,0,none⟩) n n) (.slice (some ⟨ba,0,none⟩) n n) (.slice (some ⟨bl,0,none⟩) n cb) vsp vk (.slice none 0 0) (.map (some bm)) (W:Nat)) [] 112):: (bs, .cells (zj n st) [] 3):: (ba, .cells (zj n pl) [] 3):: (bl, .cells (zj n (blF d.label)) spb 3):: (bm, .map []):: (ks++H))):FnT Tryz.prog 95 [v] G H R:=by
 obtain⟨C,an,al,ay,cn,cl,cs,rs,rfl,O⟩:=hv.opened
 obtain⟨hm1,hm2,hm3,hm4,hm5⟩:=id hsm
 obtain⟨hk1,hk2,hk3,hk4,hk5,hk6,hk7⟩:=id hok
 have hCl:=O.len
 have hCa:=O.all
 have hCx:=O.l
 have hCw:=O.w
 refine FnT.bodyS tok [0,1,2,3,4,5,6,7,8,9,10,11,27,28,29,48,49,50,51,75,113,114,115,126,127,128,129] (.seq .run (.seq .run (.seq .cut (.seq .cut (.seq .cut (.seq .cut (.seq .cut (.seq .cut .cut)))))))) Tryz.func95 rfl Kk Kk (by show _≤164;simp) fun hsep=>?_
 rw[Tryz.results95]
 have hE:=hsep
 try simp only[zzs] at hE
 repeat(obtain⟨hx',hE⟩:=hE)
 repeat' first
  |with_reducible first|refine Nx.go ?_ |refine Bk.go (fun _=>?_) fun _=>?_ |refine Nb fun nb hnb hnb1 hnb2=>?_ |refine Nr fun nb nsp ncap hnb hncap hnb1 hnb2=>?_
  |simp -dsimp -implicitDefEqProofs (disch:=first|exact Kd|fail) only[go_sem,↓reduceIte,seval, -List.reduceReplicate,List.toList_toArray,hCl,hCa,hCx]
 obtain⟨b1,e10⟩: ∃x,x=nb:=⟨_,rfl⟩
 subst e10
 refine Tri.live [1,2,3] ?_
 refine Tri.isPiece [1,1,0] Tryz.f95 Kk ?_
 refine Tri.onlyN (zyu hsm O) fun G2 l2 H2 hle2 hs2 hM=>?_
 obtain⟨bq,bp,bs,ba,bm,vb,kb,hO,rfl,hfr,rfl⟩:=hM
 rcases hO with ⟨_,_,h0,_,_⟩| ⟨bl,cb,spb,rfl,rfl,hx,hcb⟩
 ·omega
 have hncb:n≤cb:=by rw[List.length_map,zv] at hx hcb;omega
 simp only[go_sem]
 refine Tri.live [1,3,4] ?_
 rw[hfr,hW]
 rw[zs8,zwO,←hnl]
 refine Tri.upd (Upd.go (H':=(bq, .cells [.pointer (some ⟨bp,0,none⟩)] [] 105):: (bp, .cells (PC (.slice (some ⟨bs,0,none⟩) n n) (.slice (some ⟨ba,0,none⟩) n n) (.slice (some ⟨bl,0,none⟩) n cb) (.slice none 0 0) (.slice none 0 0) (.slice none 0 0) (.map (some bm)) (W:Nat)) [] 112):: (bs, .cells (zj n fun _=>0) [] 3):: ((ba, .cells (zj n fun _=>0) [] 3):: (bl, .cells (zj n (blF d.label)) spb 3):: (bm, .map []):: (b1, .cells C [] 27)::H)) Ks (Upd.now ?_))
 refine Tri.isPiece [1,1,1,0] Tryz.f95 Kk ?_
 refine Tri.onlyN (zyv Ko) fun G3 l3 H3 hle3 hs3 hM=>?_
 obtain⟨rfl,hfr3,rfl⟩:=hM
 simp only[go_sem]
 refine Tri.live [1,3,4] ?_
 rw[hfr3]
 refine Tri.sepT fun hs4=>?_
 have hs4':=hs4
 have hE:=hs4
 try simp only[zzs] at hE
 repeat(obtain⟨hx',hE⟩:=hE)
 refine Tri.run tok [0,1,2,3,4,5,6,7,8,9,10,11,27,28,29,48,49,50,51,75,113,114,115,126,127,128,129] Kk ?_
 repeat' first
  |with_reducible first|refine Nx.go ?_ |refine Bk.go (fun _=>?_) fun _=>?_ |refine Nb fun nb hnb hnb1 hnb2=>?_ |refine Nr fun nb nsp ncap hnb hncap hnb1 hnb2=>?_
  |simp -dsimp -implicitDefEqProofs (disch:=first|exact Kd|fail) only[go_sem,↓reduceIte,seval]
 have hcmp:=zyw (n:=n) Ko (bq:=bq) (bp:=bp) (bl:=bl) (cb:=cb) (spb:=spb) (W:=(W:Int)) (vs:= .slice (some ⟨bs,0,none⟩) n n) (va:= .slice (some ⟨ba,0,none⟩) n n) (vsp:= .slice none 0 0) (vk:= .slice none 0 0) (vw:= .slice none 0 0) (vm:= .map (some bm)) (bf:=blF d.label) (fun s hs=>by have:=ztj (l:=d.label) (s:=s) Ko;omega) (sp:=[]) (bs:=bs) (G:=G3) (H:=(ba, .cells (zj n fun _=>0) [] 3):: (bm, .map []):: (b1, .cells C [] 27)::H) ?hsp
 case hsp=>
  simp only[zbo,zg7,zbm]
  repeat' first
   |assumption
   | (apply Ne.symm;assumption)
   |with_reducible refine And.intro ?_ ?_
 refine FnT.upd (FnT.leave (H':=(bs, .cells (zj n fun i=>i) [] 3):: (bq, .cells [.pointer (some ⟨bp,0,none⟩)] [] 105):: (bp, .cells (PC (.slice (some ⟨bs,0,none⟩) n n) (.slice (some ⟨ba,0,none⟩) n n) (.slice (some ⟨bl,0,none⟩) n cb) (.slice none 0 0) (.slice none 0 0) (.slice none 0 0) (.map (some bm)) (W:Nat)) [] 112):: (bl, .cells (zj n (blF d.label)) spb 3):: ((ba, .cells (zj n fun _=>0) [] 3):: (bm, .map []):: (b1, .cells C [] 27)::H)) (znS Ko (fun i hi=>hi) hcmp fun f hrea hsrt=>?_) Ks)
 refine Upd.go (H':=(bq, .cells [.pointer (some ⟨bp,0,none⟩)] [] 105):: (bp, .cells (PC (.slice (some ⟨bs,0,none⟩) n n) (.slice (some ⟨ba,0,none⟩) n n) (.slice (some ⟨bl,0,none⟩) n cb) (.slice none 0 0) (.slice none 0 0) (.slice none 0 0) (.map (some bm)) (W:Nat)) [] 112):: (bs, .cells (zj n f) [] 3):: (ba, .cells (zj n fun _=>0) [] 3):: (bl, .cells (zj n (blF d.label)) spb 3):: ((bm, .map []):: (b1, .cells C [] 27)::H)) Ks (Upd.now ?_)
 repeat' first
  |with_reducible first|refine Nx.go ?_ |refine Bk.go (fun _=>?_) fun _=>?_ |refine Nb fun nb hnb hnb1 hnb2=>?_ |refine Nr fun nb nsp ncap hnb hncap hnb1 hnb2=>?_
  |simp -dsimp -implicitDefEqProofs (disch:=first|exact Kd|fail) only[go_sem,↓reduceIte,seval]
 have hbij:zjQ n f:=zjQ.rea (f:=fun i=>i) ⟨fun i=>i,fun i hi=>⟨hi,rfl⟩,fun s hs=>⟨hs,rfl⟩⟩ hrea
 refine Tri.live [1,3,4] ?_
 refine Tri.isPiece [1,1,1,1,1,0] Tryz.f95 Kk ?_
 refine Tri.onlyN (zyx Ko hbij hsrt (fun s hs=>by have:=ztj (l:=d.label) (s:=s) Ko;omega) (fun j v hj hv=>by
  obtain⟨p,g1,g2⟩:=hbij
  obtain⟨t,h1,h2⟩:=zvl (l:=d.label) (s:=f j) (by have:=(g1 j hj).1;omega) hv
  exact⟨p t,(g2 t Ko).1,by rw[(g2 t Ko).2];exact h2⟩)) fun G5 l5 H5 hle5 hs5 hM=>?_
 obtain⟨w,fr,to,pl,vsp,ks,hP,hks,rfl,hfr5,rfl⟩:=hM
 simp only[go_sem]
 refine Tri.live [1,3,4] ?_
 rw[hfr5]
 refine Tri.upd (Upd.go (H':=(bq, .cells [.pointer (some ⟨bp,0,none⟩)] [] 105):: (bp, .cells (PC (.slice (some ⟨bs,0,none⟩) n n) (.slice (some ⟨ba,0,none⟩) n n) (.slice (some ⟨bl,0,none⟩) n cb) vsp (.slice none 0 0) (.slice none 0 0) (.map (some bm)) (W:Nat)) [] 112):: (b1, .cells C [] 27):: (bs, .cells (zj n f) [] 3):: (ba, .cells (zj n pl) [] 3):: (bl, .cells (zj n (blF d.label)) spb 3):: (bm, .map []):: (ks++H)) Ks (Upd.now ?_))
 refine Tri.sepT fun hs6=>?_
 have hE:=hs6
 try simp only[zzs] at hE
 repeat(obtain⟨hx',hE⟩:=hE)
 refine Tri.run tok [0,1,2,3,4,5,6,7,8,9,10,11,27,28,29,48,49,50,51,75,113,114,115,126,127,128,129] Kk ?_
 repeat' first
  |with_reducible first|refine Nx.go ?_ |refine Bk.go (fun _=>?_) fun _=>?_ |refine Nb fun nb hnb hnb1 hnb2=>?_ |refine Nr fun nb nsp ncap hnb hncap hnb1 hnb2=>?_
  |simp -dsimp -implicitDefEqProofs (disch:=first|exact Kd|fail) only[go_sem,↓reduceIte,seval, -List.reduceReplicate,hCl,hCw,hW,Nat.sub_self,List.replicate_zero]
  |with_reducible refine Tri.drawS tok mixed [0,1,2,3,4,5,6,7,8,9,10,11,27,28,29,48,49,50,51,75,113,114,115,126,127,128,129] 18 [0,2] (.op 0 .held (.op 1 .plain (.op 2 .held (.op 3 .keeps (.op 4 .plain (.op 5 .plain (.op 6 .plain .nil))))))) Kk [(bq, .cells [.pointer (some ⟨bp,0,none⟩)] [] 105),(b1, .cells C [] 27)] Ks ?_
 obtain⟨bk,ebk⟩: ∃x,x=nb:=⟨_,rfl⟩
 subst ebk
 refine Tri.live [1,3,4] ?_
 refine Tri.upd (Upd.go (H':=(b1, .cells C [] 27):: (bq, .cells [.pointer (some ⟨bp,0,none⟩)] [] 105):: (bp, .cells (PC (.slice (some ⟨bs,0,none⟩) n n) (.slice (some ⟨ba,0,none⟩) n n) (.slice (some ⟨bl,0,none⟩) n cb) vsp (.slice (some ⟨bk,0,none⟩) W W) (.slice none 0 0) (.map (some bm)) (W:Nat)) [] 112):: (bk, .cells (List.replicate W (.slice none 0 0)) [] 23):: ((bs, .cells (zj n f) [] 3):: (ba, .cells (zj n pl) [] 3):: (bl, .cells (zj n (blF d.label)) spb 3):: (bm, .map []):: (ks++H))) Ks (Upd.now ?_))
 refine Tri.isPiece [1,1,1,1,1,1,1,0] Tryz.f95 Kk ?_
 refine Tri.onlyN (zyy hsm hok (O.mono hle2) hnl hW hW2) fun G7 l7 H7 hle7 hs7 hM=>?_
 obtain⟨rk,hle57,hrk,hbk,hfr7,rfl⟩:=hM
 simp only[go_sem]
 refine Tri.live [4] ?_
 rw[hfr7]
 refine Tri.upd (Upd.go (H':=(bk, .cells rk [] 23):: (bq, .cells [.pointer (some ⟨bp,0,none⟩)] [] 105):: (bp, .cells (PC (.slice (some ⟨bs,0,none⟩) n n) (.slice (some ⟨ba,0,none⟩) n n) (.slice (some ⟨bl,0,none⟩) n cb) vsp (.slice (some ⟨bk,0,none⟩) W W) (.slice none 0 0) (.map (some bm)) (W:Nat)) [] 112):: (bs, .cells (zj n f) [] 3):: (ba, .cells (zj n pl) [] 3):: (bl, .cells (zj n (blF d.label)) spb 3):: (bm, .map []):: (ks++H)) Ks (Upd.sepI fun hs8=>Upd.shareRow hs8.1.1 fun G8 hle8 hs9 hr8=>?_))
 have hE:=hs9
 try simp only[zzs] at hE
 repeat(obtain⟨hx',hE⟩:=hE)
 refine Tri.run tok [0,1,2,3,4,5,6,7,8,9,10,11,27,28,29,48,49,50,51,75,113,114,115,126,127,128,129] Kk ?_
 repeat' first
  |with_reducible first|refine Nx.go ?_ |refine Bk.go (fun _=>?_) fun _=>?_ |refine Nb fun nb hnb hnb1 hnb2=>?_ |refine Nr fun nb nsp ncap hnb hncap hnb1 hnb2=>?_
  |simp -dsimp -implicitDefEqProofs (disch:=first|exact Kd|fail) only[go_sem,↓reduceIte,seval]
 unfold zz
 refine Upd.leave (H':=(bp, .cells (PC (.slice (some ⟨bs,0,none⟩) n n) (.slice (some ⟨ba,0,none⟩) n n) (.slice (some ⟨bl,0,none⟩) n cb) vsp (.slice (some ⟨bk,0,none⟩) W W) (.slice none 0 0) (.map (some bm)) (W:Nat)) [] 112):: (bs, .cells (zj n f) [] 3):: (ba, .cells (zj n pl) [] 3):: (bl, .cells (zj n (blF d.label)) spb 3):: (bm, .map []):: (ks++H)) Ks ?_
 exact hR G8 bp bs ba bl bm cb spb vsp ks _ f pl w fr to (hle2.trans (hle57.trans hle8)) hncb hP hks ⟨_,W,rk,rfl,hr8,hrk,Nat.le_refl _,fun k h h2=>(hbk k h h2).mono hle8⟩
end Go.Proofs.YtefkpedhbijhkaaGreatDoor
namespace Go.Proofs.YtefkpedhbijhkaaGreatDoor
open Go Go.V Go.Proofs
theorem ztn {n:Nat} {fr to mk:Nat→Nat} {sp:List Value} {i:Nat} (hi:i<n):List.take 3 (List.drop (i * 3) (zC n fr to mk++sp))=[.int .i64 (fr i:Nat), .int .i64 (to i:Nat), .int .i64 (mk i:Nat)]:=by
 have hl:(zC n fr to mk++sp).length≥n * 3:=by rw[List.length_append,zba];omega
 apply List.ext_getElem?
 intro j
 rw[List.getElem?_take]
 by_cases hj:j<3
 ·rw[if_pos hj,List.getElem?_drop,zhA hi hj];rfl
 ·rw[if_neg hj,List.getElem?_eq_none (by simp;omega)]
theorem znT {n w:Nat} {st pl bf fr to mk:Nat→Nat} (hP:PInv n w st pl bf fr to mk) (hn:n≤70000) {bp bs bx csp:Nat} {spx:List Value} {va vb vk vw vm:Value} {W:Int} {b:Nat} (hb:b<w) {G:za} {H:zb} {R:Value→za→zb→Prop}
  (hR:R (.slice (some ⟨bs,fr b,none⟩) (to b - fr b) (to b - fr b)) G ((bp, .cells (PC (.slice (some ⟨bs,0,none⟩) n n) va vb (.slice (some ⟨bx,0,none⟩) w csp) vk vw vm W) [] 112):: (bx, .cells (zC w fr to mk) spx 139)::H)):FnT Tryz.prog 119 [.pointer (some ⟨bp,0,none⟩), .int .i64 (b:Nat)] G ((bp, .cells (PC (.slice (some ⟨bs,0,none⟩) n n) va vb (.slice (some ⟨bx,0,none⟩) w csp) vk vw vm W) [] 112):: (bx, .cells (zC w fr to mk) spx 139)::H) R:=by
 have h1:=hP.ne b hb
 have h2:=hP.le b hb
 have hw:=hP.nb_le
 have g0:=zkI (fr:=fr) (to:=to) (mk:=mk) (sp:=spx) hb
 have g1:=zgL (fr:=fr) (to:=to) (mk:=mk) (sp:=spx) hb
 have g2:=zkJ (fr:=fr) (to:=to) (mk:=mk) (sp:=spx) hb
 have e1:((to b:Nat):Int) - ((fr b:Nat):Int)=((to b - fr b:Nat):Int):=by omega
 have hrt:=ztn (fr:=fr) (to:=to) (mk:=mk) (sp:=spx) hb
 refine FnT.body tok [0,1,4,5] Tryz.func119 rfl Kk Kk (by show _≤24;simp) fun hsep=>?_
 rw[Tryz.results119]
 have hE:=hsep
 try simp only[zzs] at hE
 repeat(obtain⟨hx',hE⟩:=hE)
 repeat' first
  |with_reducible first|refine Nx.go ?_ |refine Bk.go (fun _=>?_) fun _=>?_ |refine Nb fun nb hnb hnb1 hnb2=>?_
  |simp -dsimp -implicitDefEqProofs (disch:=first|exact Kd|fail) only[go_sem,↓reduceIte,seval,g0,g1,g2,e1,hrt]
  |with_reducible refine Tri.drawS tok mixed [0,1,4,5] 2 [3,5,7,9] (.op 0 .plain (.op 1 .plain (.op 2 .plain (.op 3 .held (.op 4 .plain (.op 5 .held (.op 6 .plain (.op 7 .held (.op 8 .plain (.op 9 .held (.op 10 .plain (.op 11 .plain .nil)))))))))))) Kk [(bp, .cells (PC (.slice (some ⟨bs,0,none⟩) n n) va vb (.slice (some ⟨bx,0,none⟩) w csp) vk vw vm W) [] 112),(nb, .cells [.int .i64 (fr b:Nat), .int .i64 (to b:Nat), .int .i64 (mk b:Nat)] [] 139)] Ks ?_
 refine⟨rfl,?_⟩
 all_goals refine Upd.finL ?_ hR ?_
 any_goals first|exact Ks|skip
 rfl
theorem znU {n w:Nat} {st pl bf fr to mk:Nat→Nat} (hP:PInv n w st pl bf fr to mk) (hn:n≤70000) {bp bs ba bl bx cb csp:Nat} {spb spx:List Value} {vk vw vm:Value} {W:Int} {s:Nat} (hs:s<n) {G:za} {H:zb} {R:Value→za→zb→Prop}
  (hR: ∀r st' pl' mk',PInv n w st' pl' bf fr to mk'→(∀x,x<n→(Mkd pl' bf fr mk' x↔Mkd pl bf fr mk x∨x=s))→(∀b,b≠bf s→mk' b=mk b)→1≤mk' (bf s)→R (.bool r) G ((bp, .cells (PC (.slice (some ⟨bs,0,none⟩) n n) (.slice (some ⟨ba,0,none⟩) n n) (.slice (some ⟨bl,0,none⟩) n cb) (.slice (some ⟨bx,0,none⟩) w csp) vk vw vm W) [] 112):: (bx, .cells (zC w fr to mk') spx 139):: (bs, .cells (zj n st') [] 3):: (ba, .cells (zj n pl') [] 3):: (bl, .cells (zj n bf) spb 3)::H)):
  FnT Tryz.prog 120 [.pointer (some ⟨bp,0,none⟩), .int .i64 (s:Nat)] G ((bp, .cells (PC (.slice (some ⟨bs,0,none⟩) n n) (.slice (some ⟨ba,0,none⟩) n n) (.slice (some ⟨bl,0,none⟩) n cb) (.slice (some ⟨bx,0,none⟩) w csp) vk vw vm W) [] 112):: (bx, .cells (zC w fr to mk) spx 139):: (bs, .cells (zj n st) [] 3):: (ba, .cells (zj n pl) [] 3):: (bl, .cells (zj n bf) spb 3)::H) R:=by
 have hb:=hP.bl_lt s hs
 have hlo:=hP.lo s hs
 have hhi:=hP.hi s hs
 have hle:=hP.le _ hb
 have hmk:=hP.mk_le _ hb
 have hps:=hP.pl_lt s hs
 have hw:=hP.nb_le
 have gb:=zaJ bf (sp:=spb) hs
 have ga:=zdg pl hs
 have g0:=zkI (fr:=fr) (to:=to) (mk:=mk) (sp:=spx) hb
 have g2:=zkJ (fr:=fr) (to:=to) (mk:=mk) (sp:=spx) hb
 have e1:((fr (bf s):Nat):Int)+((mk (bf s):Nat):Int)=((fr (bf s)+mk (bf s):Nat):Int):=by omega
 by_cases hm:Mkd pl bf fr mk s
 ·unfold Mkd at hm
  refine FnT.body tok [0,1,4,5,6,7,37] Tryz.func120 rfl Kk Kk (by show _≤92;simp) fun hsep=>?_
  rw[Tryz.results120]
  have hE:=hsep
  try simp only[zzs] at hE
  repeat(obtain⟨hx',hE⟩:=hE)
  repeat' first
   |with_reducible first|refine Nx.go ?_ |refine Bk.go (fun _=>?_) fun _=>?_ |refine Nb fun nb hnb hnb1 hnb2=>?_
   |simp -dsimp -implicitDefEqProofs (disch:=first|exact Kd|fail) only[go_sem,↓reduceIte,seval,gb,ga,g0,g2,e1]
   |with_reducible refine Tri.drawS tok mixed [0,1,4,5,6,7,37] 1 [3,7,10] (.op 0 .plain (.op 1 .plain (.op 2 .plain (.op 3 .held (.op 4 .plain (.op 5 .plain (.op 6 .plain (.op 7 .held (.op 8 .plain (.op 9 .plain (.op 10 .held (.op 11 .plain (.op 12 .plain .nil))))))))))))) Kk [(bp, .cells (PC (.slice (some ⟨bs,0,none⟩) n n) (.slice (some ⟨ba,0,none⟩) n n) (.slice (some ⟨bl,0,none⟩) n cb) (.slice (some ⟨bx,0,none⟩) w csp) vk vw vm W) [] 112),(bl, .cells (zj n bf) spb 3)] Ks ?_
   |with_reducible refine Tri.drawS tok mixed [0,1,4,5,6,7,37] 2 [3,7] (.op 0 .plain (.op 1 .plain (.op 2 .plain (.op 3 .held (.op 4 .plain (.op 5 .plain (.op 6 .plain (.op 7 .held (.op 8 .plain (.op 9 .plain .nil)))))))))) Kk [(bx, .cells (zC w fr to mk) spx 139)] Ks ?_
  exact Upd.now (hR false st pl mk hP (fun x _=>⟨.inl,fun h=>h.elim id fun e=>by rw[e];exact hm⟩) (fun _ _=>rfl) Ko)
 ·have hmark:=hP.mark hs hm
  unfold Mkd at hm
  have hpl:fr (bf s)+mk (bf s) <n:=by omega
  have hst:=hP.st_lt _ hpl
  have gs:=zdg st hpl
  have p1:=za6 st hpl s
  have p2:=za6 (zo st (fr (bf s)+mk (bf s)) s) hps (st (fr (bf s)+mk (bf s)))
  have p3:=za6 pl hst (pl s)
  have p4:=za6 (zo pl (st (fr (bf s)+mk (bf s))) (pl s)) hs (fr (bf s)+mk (bf s))
  have p5:=zth (fr:=fr) (to:=to) (mk:=mk) hb (mk (bf s)+1)
  have e2:((mk (bf s):Nat):Int)+1=((mk (bf s)+1 :Nat):Int):=rfl
  refine FnT.body tok [0,1,4,5,6,7,37] Tryz.func120 rfl Kk Kk (by show _≤92;simp) fun hsep=>?_
  rw[Tryz.results120]
  have hE:=hsep
  try simp only[zzs] at hE
  repeat(obtain⟨hx',hE⟩:=hE)
  repeat' first
   |with_reducible first|refine Nx.go ?_ |refine Bk.go (fun _=>?_) fun _=>?_ |refine Nb fun nb hnb hnb1 hnb2=>?_
   |simp -dsimp -implicitDefEqProofs (disch:=first|exact Kd|fail) only[go_sem,↓reduceIte,seval,gb,ga,gs,g0,g2,e1,e2,p1,p2,p3,p4,p5]
   |with_reducible refine Tri.drawS tok mixed [0,1,4,5,6,7,37] 1 [3,7,10] (.op 0 .plain (.op 1 .plain (.op 2 .plain (.op 3 .held (.op 4 .plain (.op 5 .plain (.op 6 .plain (.op 7 .held (.op 8 .plain (.op 9 .plain (.op 10 .held (.op 11 .plain (.op 12 .plain .nil))))))))))))) Kk [(bp, .cells (PC (.slice (some ⟨bs,0,none⟩) n n) (.slice (some ⟨ba,0,none⟩) n n) (.slice (some ⟨bl,0,none⟩) n cb) (.slice (some ⟨bx,0,none⟩) w csp) vk vw vm W) [] 112),(bl, .cells (zj n bf) spb 3)] Ks ?_
   |with_reducible refine Tri.drawS tok mixed [0,1,4,5,6,7,37] 2 [3,7] (.op 0 .plain (.op 1 .plain (.op 2 .plain (.op 3 .held (.op 4 .plain (.op 5 .plain (.op 6 .plain (.op 7 .held (.op 8 .plain (.op 9 .plain .nil)))))))))) Kk [(bx, .cells (zC w fr to mk) spx 139)] Ks ?_
   |with_reducible refine Tri.drawS tok mixed [0,1,4,5,6,7,37] 6 [3,8,12,15] (.op 0 .plain (.op 1 .plain (.op 2 .plain (.op 3 .held (.op 4 .plain (.op 5 .plain (.op 6 .plain (.op 7 .plain (.op 8 .held (.op 9 .plain (.op 10 .plain (.op 11 .plain (.op 12 .held (.op 13 .plain (.op 14 .plain (.op 15 .held (.op 16 .plain (.op 17 .plain (.op 18 .plain (.op 19 .plain (.op 20 .plain (.op 21 .plain .nil)))))))))))))))))))))) Kk [(bp, .cells (PC (.slice (some ⟨bs,0,none⟩) n n) (.slice (some ⟨ba,0,none⟩) n n) (.slice (some ⟨bl,0,none⟩) n cb) (.slice (some ⟨bx,0,none⟩) w csp) vk vw vm W) [] 112),(ba, .cells (zj n pl) [] 3)] Ks ?_
   |with_reducible refine Tri.drawS tok mixed [0,1,4,5,6,7,37] 7 [3,8,13,16] (.op 0 .plain (.op 1 .plain (.op 2 .plain (.op 3 .held (.op 4 .plain (.op 5 .plain (.op 6 .plain (.op 7 .plain (.op 8 .held (.op 9 .plain (.op 10 .plain (.op 11 .plain (.op 12 .plain (.op 13 .held (.op 14 .plain (.op 15 .plain (.op 16 .held (.op 17 .plain (.op 18 .plain (.op 19 .plain (.op 20 .plain (.op 21 .plain .nil)))))))))))))))))))))) Kk [(bp, .cells (PC (.slice (some ⟨bs,0,none⟩) n n) (.slice (some ⟨ba,0,none⟩) n n) (.slice (some ⟨bl,0,none⟩) n cb) (.slice (some ⟨bx,0,none⟩) w csp) vk vw vm W) [] 112),(ba, .cells (zj n pl) [] 3)] Ks ?_
  exact Upd.now (hR true _ _ _ hmark.1 hmark.2 (fun b hb=>za0 _ _ hb) (by rw[zbe];omega))
theorem zxD {n w:Nat} {st pl bf fr to mk:Nat→Nat} (hP:PInv n w st pl bf fr to mk) (hn:n≤70000) {bp bs ba bl bx cb csp:Nat} {spb spx:List Value} {vk vw vm:Value} {W:Int} {b:Nat} (hb:b<w) (h1:1≤mk b) (hcx:w * 3+spx.length=csp * 3) {G:za} {H:zb} {R:Value→za→zb→Prop}
  (hR0:fr b+mk b=to b→R (.int .i64 (-1)) G ((bp, .cells (PC (.slice (some ⟨bs,0,none⟩) n n) (.slice (some ⟨ba,0,none⟩) n n) (.slice (some ⟨bl,0,none⟩) n cb) (.slice (some ⟨bx,0,none⟩) w csp) vk vw vm W) [] 112):: (bx, .cells (zC w fr to (zo mk b 0)) spx 139):: (bs, .cells (zj n st) [] 3):: (bl, .cells (zj n bf) spb 3)::H))
  (hR: ∀bx' csp' spx',fr b+mk b<to b→(w+1) * 3+spx'.length=csp' * 3→R (.int .i64 (w:Nat)) G ((bp, .cells (PC (.slice (some ⟨bs,0,none⟩) n n) (.slice (some ⟨ba,0,none⟩) n n) (.slice (some ⟨bl,0,none⟩) n cb) (.slice (some ⟨bx',0,none⟩) (w+1) csp') vk vw vm W) [] 112):: (bx', .cells (zC (w+1) (zo (zo fr b (fr b+mk b)) w (fr b)) (zo to w (fr b+mk b)) (zo (zo mk b 0) w 0)) spx' 139):: (bs, .cells (zj n st) [] 3):: (bl, .cells (zj n (fun s=>if bf s=b∧pl s<fr b+mk b then w else bf s)) spb 3)::H)):
  FnT Tryz.prog 121 [.pointer (some ⟨bp,0,none⟩), .int .i64 (b:Nat)] G ((bp, .cells (PC (.slice (some ⟨bs,0,none⟩) n n) (.slice (some ⟨ba,0,none⟩) n n) (.slice (some ⟨bl,0,none⟩) n cb) (.slice (some ⟨bx,0,none⟩) w csp) vk vw vm W) [] 112):: (bx, .cells (zC w fr to mk) spx 139):: (bs, .cells (zj n st) [] 3):: (bl, .cells (zj n bf) spb 3)::H) R:=by
 have hne:=hP.ne b hb
 have hle:=hP.le b hb
 have hmk:=hP.mk_le b hb
 have hw:=hP.nb_le
 have g2:=zkJ (fr:=fr) (to:=to) (mk:=mk) (sp:=spx) hb
 have g0':=zkI (fr:=fr) (to:=to) (mk:=zo mk b 0) (sp:=spx) hb
 have g1':=zgL (fr:=fr) (to:=to) (mk:=zo mk b 0) (sp:=spx) hb
 have p2:=zth (fr:=fr) (to:=to) (mk:=mk) hb 0
 have e1:((to b:Nat):Int) - ((fr b:Nat):Int)=((to b - fr b:Nat):Int):=by omega
 have e2:((fr b:Nat):Int)+((mk b:Nat):Int)=((fr b+mk b:Nat):Int):=by omega
 have hz:(Value.int .i64 ((0 :Nat):Int))=Value.int .i64 0:=rfl
 rw[hz] at p2
 by_cases hall:fr b+mk b=to b
 ·have hme:mk b=to b - fr b:=by omega
  have hR0:=hR0 hall
  refine FnT.body tok [0,1,4,5,6,7,8,10,34,71,72,73,74] Tryz.func121 rfl Kk Kk (by show _≤86;simp) fun hsep=>?_
  rw[Tryz.results121]
  have hE:=hsep
  try simp only[zzs] at hE
  repeat(obtain⟨hx',hE⟩:=hE)
  repeat' first
   |with_reducible first|refine Nx.go ?_ |refine Bk.go (fun _=>?_) fun _=>?_ |refine Nb fun nb hnb hnb1 hnb2=>?_ |refine Nr fun nb nsp ncap hnb hncap hnb1 hnb2=>?_
   |simp -dsimp -implicitDefEqProofs (disch:=first|exact Kd|fail) only[go_sem,↓reduceIte,seval,g2,g0',g1',p2,e1]
   |with_reducible refine Tri.drawS tok mixed [0,1,4,5,6,7,8,10,34,71,72,73,74] 4 [4,8] (.op 0 .plain (.op 1 .plain (.op 2 .plain (.op 3 .plain (.op 4 .held (.op 5 .plain (.op 6 .plain (.op 7 .plain (.op 8 .held (.op 9 .plain (.op 10 .plain .nil))))))))))) Kk [(bx, .cells (zC w fr to (zo mk b 0)) spx 139)] Ks ?_
  all_goals first| (exfalso;omega)|skip
  exact Upd.now hR0
 ·have hme: ¬((mk b:Nat):Int)=((to b - fr b:Nat):Int):=by omega
  have p0:=zxB (fr:=fr) (to:=to) (mk:=zo mk b 0) hb (fr b+mk b)
  have hsn:=zl0 w (zo fr b (fr b+mk b)) to (zo mk b 0) (fr b) (fr b+mk b) 0
  rw[hz] at hsn
  refine FnT.body tok [0,1,4,5,6,7,8,10,34,71,72,73,74] Tryz.func121 rfl Kk Kk (by show _≤86;simp) fun hsep=>?_
  rw[Tryz.results121]
  have hE:=hsep
  try simp only[zzs] at hE
  repeat(obtain⟨hx',hE⟩:=hE)
  repeat' first
   |with_reducible first|refine Nx.go ?_ |refine Bk.go (fun _=>?_) fun _=>?_ |refine Nb fun nb hnb hnb1 hnb2=>?_ |refine Nr fun nb nsp ncap hnb hncap hnb1 hnb2=>?_
   |simp -dsimp -implicitDefEqProofs (disch:=first|exact Kd|fail) only[go_sem,↓reduceIte,seval,g2,g0',g1',p2,p0,e1,e2]
   |with_reducible refine Tri.drawS tok mixed [0,1,4,5,6,7,8,10,34,71,72,73,74] 4 [4,8] (.op 0 .plain (.op 1 .plain (.op 2 .plain (.op 3 .plain (.op 4 .held (.op 5 .plain (.op 6 .plain (.op 7 .plain (.op 8 .held (.op 9 .plain (.op 10 .plain .nil))))))))))) Kk [(bx, .cells (zC w fr to (zo mk b 0)) spx 139)] Ks ?_
   |with_reducible refine Tri.drawS tok mixed [0,1,4,5,6,7,8,10,34,71,72,73,74] 7 [3,7] (.op 0 .plain (.op 1 .plain (.op 2 .plain (.op 3 .held (.op 4 .plain (.op 5 .plain (.op 6 .plain (.op 7 .held (.op 8 .plain (.op 9 .plain (.op 10 .plain (.op 11 .keeps (.op 12 .plain .nil))))))))))))) Kk [(bx, .cells (zC w fr to (zo mk b 0)) spx 139)] Ks ?_
  obtain⟨b8,e80⟩: ∃x,x=nb:=⟨_,rfl⟩
  subst e80
  repeat' first
   |with_reducible first|refine Nx.go ?_ |refine Bk.go (fun _=>?_) fun _=>?_ |refine Nb fun nb hnb hnb1 hnb2=>?_ |refine Nr fun nb nsp ncap hnb hncap hnb1 hnb2=>?_
   |simp -dsimp -implicitDefEqProofs (disch:=first|exact Kd|fail) only[go_sem,↓reduceIte,seval,hsn]
   |with_reducible refine Tri.drawS tok mixed [0,1,4,5,6,7,8,10,34,71,72,73,74] 9 [4,5] (.op 0 .plain (.op 1 .plain (.op 2 .plain (.op 3 .plain (.op 4 .held (.op 5 .held (.op 6 .keeps (.op 7 .keeps (.op 8 .plain (.op 9 .plain (.op 10 .plain .nil))))))))))) Kk [(bp, .cells (PC (.slice (some ⟨bs,0,none⟩) n n) (.slice (some ⟨ba,0,none⟩) n n) (.slice (some ⟨bl,0,none⟩) n cb) (.slice (some ⟨bx,0,none⟩) w csp) vk vw vm W) [] 112),(b8, .cells [.int .i64 (fr b:Nat), .int .i64 ((fr b+mk b:Nat):Int), .int .i64 0] [] 139)] Ks ?_
  obtain⟨bx',ebx⟩: ∃x,x=nb:=⟨_,rfl⟩
  subst ebx
  rename_i y1 y2 y3 y4
  have hPN:=hP.part hb h1 Ko
  have hfw:zo (zo fr b (fr b+mk b)) w (fr b) w=fr b:=zbe _ _ _
  have htw:zo to w (fr b+mk b) w=fr b+mk b:=zbe _ _ _
  refine FnT.upd (FnT.leave (H':=(bp, .cells (PC (.slice (some ⟨bs,0,none⟩) n n) (.slice (some ⟨ba,0,none⟩) n n) (.slice (some ⟨bl,0,none⟩) n cb) (.slice (some ⟨bx',0,none⟩) (w+1) ncap) vk vw vm W) [] 112):: (bx', .cells (zC (w+1) (zo (zo fr b (fr b+mk b)) w (fr b)) (zo to w (fr b+mk b)) (zo (zo mk b 0) w 0)) nsp 139):: ((bs, .cells (zj n st) [] 3):: (bl, .cells (zj n bf) spb 3)::H)) (znT hPN hn Ko (Upd.sepI fun hs2=>Upd.now ?_)) Ks)
  rw[hfw,htw,Nat.add_sub_cancel_left]
  clear g2 g0' g1' p2 p0 hsn
  clear y1 y2 y3 y4
  have hE:=hs2
  try simp only[zzs] at hE
  repeat(obtain⟨hx',hE⟩:=hE)
  repeat' first
   |with_reducible first|refine Nx.go ?_ |refine Bk.go (fun _=>?_) fun _=>?_ |refine Nb fun nb hnb hnb1 hnb2=>?_ |refine Nr fun nb nsp ncap hnb hncap hnb1 hnb2=>?_
   |simp -dsimp -implicitDefEqProofs (disch:=first|exact Kd|fail) only[go_sem,↓reduceIte,seval]
  refine Tri.loopU tok [0,1,4,5,6,7,8,10,34,71,72,73,74] Kk [0,7,71,72,73] (fun q G' l H'=> ∃i:Nat,i+q=mk b∧G'=G∧H'=(bp, .cells (PC (.slice (some ⟨bs,0,none⟩) n n) (.slice (some ⟨ba,0,none⟩) n n) (.slice (some ⟨bl,0,none⟩) n cb) (.slice (some ⟨bx',0,none⟩) (w+1) ncap) vk vw vm W) [] 112):: (bx', .cells (zC (w+1) (zo (zo fr b (fr b+mk b)) w (fr b)) (zo to w (fr b+mk b)) (zo (zo mk b 0) w 0)) nsp 139):: (bs, .cells (zj n st) [] 3):: (bl, .cells (zj n (fun s=>if bf s=b∧pl s<fr b+i then w else bf s)) spb 3)::H∧l=[(0, .pointer (some ⟨bp,0,none⟩)),(7, .int .i64 (w:Nat)),(71, .slice (some ⟨bs,fr b,none⟩) (mk b) (mk b)),(72, .int .i64 (mk b:Nat)),(73, .int .i64 (i:Nat))]) ((mk b)) ?_ ?_
  ·refine Upd.now ⟨0,by omega,rfl,?_,rfl⟩
   rw[zd7 (f:=bf) (g:=fun s=>if bf s=b∧pl s<fr b+0 then w else bf s) fun s hs=>by
    show _=if _ then _ else _
    rw[if_neg]
    rintro⟨e,h⟩
    have:=hP.lo s hs
    rw[e] at this
    omega]
  ·rintro q G2 l H2 hle2 hs3 ⟨i,hiq,rfl,rfl,rfl⟩
   have hE:=hs3
   try simp only[zzs] at hE
   repeat(obtain⟨hx',hE⟩:=hE)
   by_cases hi:i<mk b
   ·have hpn:fr b+i<n:=by omega
    have hsn:=hP.st_lt _ hpn
    have hbi:=hP.own b (fr b+i) hb Ko Ko
    have hpi:=hP.pl_st _ hpn
    have gs:=zdg st hpn
    have pb:=za6 (fun s=>if bf s=b∧pl s<fr b+i then w else bf s) hsn w
    have hnx:zj n (zo (fun s=>if bf s=b∧pl s<fr b+i then w else bf s) (st (fr b+i)) w)=zj n fun s=>if bf s=b∧pl s<fr b+(i+1) then w else bf s:=zd7 fun s hs=>by
     unfold zo
     by_cases e:s=st (fr b+i)
     ·rw[if_pos e,e]
      show _=if _ then _ else _
      rw[if_pos ⟨hbi,by rw[hpi];omega⟩]
     ·rw[if_neg e]
      have hne:pl s≠fr b+i:=fun h=>e (by rw[←h,hP.st_pl s hs])
      show(if _ then _ else _)=if _ then _ else _
      by_cases c:bf s=b∧pl s<fr b+i
      ·rw[if_pos c,if_pos ⟨c.1,by omega⟩]
      ·rw[if_neg c,if_neg fun c2=>c ⟨c2.1,by omega⟩]
    rw[hnx] at pb
    repeat' first
     |with_reducible first|refine Nx.go ?_ |refine Bk.go (fun _=>?_) fun _=>?_ |refine Nb fun nb hnb hnb1 hnb2=>?_ |refine Nr fun nb nsp ncap hnb hncap hnb1 hnb2=>?_
     |simp -dsimp -implicitDefEqProofs (disch:=first|exact Kd|fail) only[go_sem,↓reduceIte,seval,gs,pb]
    exact Upd.now ⟨q - 1,by omega,i+1,by omega,rfl,rfl,rfl⟩
   ·obtain rfl:i=mk b:=by omega
    repeat' first
     |with_reducible first|refine Nx.go ?_ |refine Bk.go (fun _=>?_) fun _=>?_ |refine Nb fun nb hnb hnb1 hnb2=>?_ |refine Nr fun nb nsp ncap hnb hncap hnb1 hnb2=>?_
     |simp -dsimp -implicitDefEqProofs (disch:=first|exact Kd|fail) only[go_sem,↓reduceIte,seval]
    exact Upd.now (hR bx' ncap nsp Ko Ko)
end Go.Proofs.YtefkpedhbijhkaaGreatDoor
namespace Go.Proofs.YtefkpedhbijhkaaGreatDoor
open Go Go.V Go.Proofs
section
variable {α β:Type} [DecidableEq α]
theorem ziz (k:α) (v:β): ∀l:List (α×β),zbL k (zb7 k v l)=some v
 | []=>by simp [zb7,zbL]
 |e::l=>by
  unfold zb7
  by_cases h:k=e.1
  ·rw[if_pos h];simp [zbL]
  ·rw[if_neg h];unfold zbL;rw[if_neg h];exact ziz k v l
theorem zfR {k k':α} (v:β) (h:k'≠k): ∀l:List (α×β),zbL k' (zb7 k v l)=zbL k' l
 | []=>by simp [zb7,zbL,h]
 |e::l=>by
  unfold zb7
  by_cases h1:k=e.1
  ·rw[if_pos h1]
   unfold zbL
   rw[if_neg h,if_neg (by rw[←h1];exact h)]
  ·rw[if_neg h1]
   unfold zbL
   split
   ·rfl
   ·exact zfR v h l
end
def zbf (am:List ((Int×Int)×Int)) (ws:List (Nat×Nat)):Prop:= ∀b k:Nat,((b,k)∈ws→zbL ((b:Int),(k:Int)) am=some 1)∧((b,k)∉ws→zbL ((b:Int),(k:Int)) am=none∨zbL ((b:Int),(k:Int)) am=some 0)
theorem zbf.nil:zbf [] []:=fun b k=>⟨(fun h=>by cases h),fun _=> .inl rfl⟩
theorem zbf.put {am:List ((Int×Int)×Int)} {ws:List (Nat×Nat)} (h:zbf am ws) (b k:Nat):zbf (zb7 ((b:Int),(k:Int)) 1 am) (ws++[(b,k)]):=fun b' k'=>by
 by_cases e:((b':Int),(k':Int))=((b:Int),(k:Int))
 ·rw[Prod.mk.injEq] at e
  obtain⟨e1,e2⟩:=e
  obtain rfl:b'=b:=by omega
  obtain rfl:k'=k:=by omega
  exact⟨fun _=>ziz _ _ _,fun hn=>absurd (List.mem_append_right _ (List.mem_singleton.2 rfl)) hn⟩
 ·have e':(b',k')≠(b,k):=fun h=>e (by rw[Prod.mk.injEq] at h;rw[h.1,h.2])
  rw[zfR _ e]
  refine⟨fun hm=>?_,fun hm=>?_⟩
  ·rcases List.mem_append.1 hm with hm|hm
   ·exact(h b' k').1 hm
   ·exact absurd (List.mem_singleton.1 hm) e'
  ·exact(h b' k').2 fun h2=>hm (List.mem_append_left _ h2)
theorem zbf.take {am:List ((Int×Int)×Int)} {ws:List (Nat×Nat)} {b k:Nat} (h:zbf am (ws++[(b,k)])) (hnd:(ws++[(b,k)]).Nodup):zbf (zb7 ((b:Int),(k:Int)) 0 am) ws:=fun b' k'=>by
 have hni:(b,k)∉ws:=fun hm=>(List.nodup_append.1 hnd).2.2 _ hm _ (List.mem_singleton.2 rfl) rfl
 by_cases e:((b':Int),(k':Int))=((b:Int),(k:Int))
 ·rw[Prod.mk.injEq] at e
  obtain⟨e1,e2⟩:=e
  obtain rfl:b'=b:=by omega
  obtain rfl:k'=k:=by omega
  exact⟨fun hm=>absurd hm hni,fun _=> .inr (ziz _ _ _)⟩
 ·have e':(b',k')≠(b,k):=fun h=>e (by rw[Prod.mk.injEq] at h;rw[h.1,h.2])
  rw[zfR _ e]
  refine⟨fun hm=>(h b' k').1 (List.mem_append_left _ hm),fun hm=>(h b' k').2 fun h2=>?_⟩
  rcases List.mem_append.1 h2 with h2|h2
  ·exact hm h2
  ·exact e' (List.mem_singleton.1 h2)
def zdh (p:Nat×Nat):List Value:=[.int .i64 (p.1:Nat), .int .i64 (p.2:Nat)]
theorem zeU (ws:List (Nat×Nat)):(ws.flatMap zdh).length=ws.length * 2:=zaS (m:=2) (fun _=>rfl) ws
theorem zfj (ws:List (Nat×Nat)) (b k:Nat):(ws++[(b,k)]).flatMap zdh=ws.flatMap zdh++[.int .i64 (b:Nat), .int .i64 (k:Nat)]:=by rw[List.flatMap_append];rfl
theorem zl1 (ws:List (Nat×Nat)):(ws.flatMap zdh).all zax=true:=by
 rw[List.all_flatMap]
 exact List.all_eq_true.2 fun i _=>rfl
theorem zrl (ws:List (Nat×Nat)) (b k:Nat) (sp:List Value):List.take 2 (List.drop (ws.length * 2) ((ws++[(b,k)]).flatMap zdh++sp))=[.int .i64 (b:Nat), .int .i64 (k:Nat)]:=by
 rw[zfj,List.append_assoc,List.drop_append_of_le_length (by rw[zeU];exact Nat.le_refl _),List.drop_of_length_le (by rw[zeU];exact Nat.le_refl _)];rfl
def WtO (vw:Value) (ws:List (Nat×Nat)) (kw:zb):Prop:=(∃a,vw= .slice a 0 0∧ws=[]∧kw=[])∨(∃b cap sp,vw= .slice (some ⟨b,0,none⟩) ws.length cap∧kw=[(b, .cells (ws.flatMap zdh) sp 114)]∧ws.length * 2+sp.length=cap * 2)∨ ∃b sp,vw= .slice (some ⟨b,0,none⟩) ws.length ws.length∧kw=[(b, .cells (ws.flatMap zdh) sp 114)]
def zat (p:Int×Int):Value:= .agg #[.int .i64 p.1, .int .i64 p.2]
theorem zvn:zdZ T 114 zat:=zqH (T:=T) (t:=114) (e:=3) (k:= .i64) rfl rfl rfl
theorem zer (f:Int→Value) (a b:Int) (l:List ((Int×Int)×Int)):zf1 T 114 (.agg #[.int .i64 a, .int .i64 b]) (l.map fun p=>(zat p.1,f p.2))=some ((zbL (a,b) l).map f):=zbC zvn f (a,b) l
theorem ziA (a b v:Int) (l:List ((Int×Int)×Int)):zgY T 114 (.agg #[.int .i64 a, .int .i64 b]) (.int .i64 v) (l.map fun p=>(zat p.1,Value.int .i64 p.2))=some ((zb7 (a,b) v l).map fun p=>(zat p.1,Value.int .i64 p.2)):=
 zb8 zvn (Value.int .i64) (a,b) v l
theorem zdi (a b:Int):zeA T 114 (.agg #[.int .i64 a, .int .i64 b]):=zbq zvn (a,b)
theorem zmD {ws:List (Nat×Nat)} {am:List ((Int×Int)×Int)} (hw:ws.length≤30000000) (hA:zbf am ws) {b k:Nat} {bp bm:Nat} {vs va vb vsp vk vw:Value} {W:Int} {kw:zb} (hO:WtO vw ws kw) {G:za} {H:zb} {R:Value→za→zb→Prop}
  (hR: ∀vw' am' kw',WtO vw' (zce ws (b,k)) kw'→zbf am' (zce ws (b,k))→R (.tuple #[]) G ((bp, .cells (PC vs va vb vsp vk vw' (.map (some bm)) W) [] 112):: (bm, .map (am'.map fun p=>(zat p.1,Value.int .i64 p.2))):: (kw'++H))):
  FnT Tryz.prog 96 [.pointer (some ⟨bp,0,none⟩), .int .i64 (b:Nat), .int .i64 (k:Nat)] G ((bp, .cells (PC vs va vb vsp vk vw (.map (some bm)) W) [] 112):: (bm, .map (am.map fun p=>(zat p.1,Value.int .i64 p.2))):: (kw++H)) R:=by
 have hr1: ∀x:Value,List.replicate 1 x=[x]:=fun _=>rfl
 by_cases hm:(b,k)∈ws
 ·have hg:=(hA b k).1 hm
  have hask:zce ws (b,k)=ws:=by unfold zce;rw[if_pos hm]
  rw[hask] at hR
  have hR:=hR vw am kw hO hA
  refine FnT.body tok [0,1,2,14] Tryz.func96 rfl Kk Kk (by show _≤34;simp) fun hsep=>?_
  rw[Tryz.results96]
  have hE:=hsep
  try simp only[zzs] at hE
  repeat(obtain⟨hx',hE⟩:=hE)
  repeat' first
   |with_reducible first|refine Nx.go ?_ |refine Bk.go (fun _=>?_) fun _=>?_ |refine zas.mk (fun _ _=>?_) fun _=>?_ |refine Nb fun nb hnb hnb1 hnb2=>?_ |refine Nr fun nb nsp ncap hnb hncap hnb1 hnb2=>?_
   |simp -dsimp -implicitDefEqProofs (disch:=first|exact Kd|fail) only[go_sem,↓reduceIte,seval,zer (Value.int .i64),zdi,hg,Option.map_some]
  exact Upd.now hR
 ·have hask:zce ws (b,k)=ws++[(b,k)]:=by unfold zce;rw[if_neg hm]
  rw[hask] at hR
  have hA2:=hA.put b k
  have hg: ∀K:Prop,(zbL ((b:Int),(k:Int)) am=none→K)→(zbL ((b:Int),(k:Int)) am=some 0→K)→K:=fun K h1 h2=>((hA b k).2 hm).elim h1 h2
  rcases hO with ⟨aa,rfl,rfl,rfl⟩| ⟨bw,cap,sp,rfl,rfl,hc⟩| ⟨bw,sp,rfl,rfl⟩
  ·refine hg _ (fun hg=>?_) fun hg=>?_
   all_goals
    refine FnT.body tok [0,1,2,14] Tryz.func96 rfl Kk Kk (by show _≤34;simp) fun hsep=>?_
    rw[Tryz.results96]
    have hE:=hsep
    try simp only[zzs] at hE
    repeat(obtain⟨hx',hE⟩:=hE)
    repeat' first
     |with_reducible first|refine Nx.go ?_ |refine Bk.go (fun _=>?_) fun _=>?_ |refine zas.mk (fun _ _=>?_) fun _=>?_ |refine Nb fun nb hnb hnb1 hnb2=>?_ |refine Nr fun nb nsp ncap hnb hncap hnb1 hnb2=>?_
     |simp -dsimp -implicitDefEqProofs (disch:=first|exact Kd|fail) only[go_sem,↓reduceIte,seval, -List.reduceReplicate,zer (Value.int .i64),ziA,zdi,hg,Option.map_some,Option.map_none,hr1]
    unfold zz
    refine Upd.leave (H':=(bp, .cells (PC vs va vb vsp vk (.slice (some ⟨nb,0,none⟩) 1 ncap) (.map (some bm)) W) [] 112):: (bm, .map ((zb7 ((b:Int),(k:Int)) 1 am).map fun p=>(zat p.1,Value.int .i64 p.2))):: ([(nb, .cells [.int .i64 (b:Nat), .int .i64 (k:Nat)] nsp 114)]++H)) Ks ?_
    exact hR _ _ _ (.inr (.inl ⟨nb,ncap,nsp,rfl,rfl,by simp at hncap⊢;omega⟩)) hA2
  ·have hl:=zeU ws
   have ho:=zl1 ws
   refine hg _ (fun hg=>?_) fun hg=>?_
   all_goals
    refine FnT.body tok [0,1,2,14] Tryz.func96 rfl Kk Kk (by show _≤34;simp) fun hsep=>?_
    rw[Tryz.results96]
    have hE:=hsep
    try simp only[zzs] at hE
    repeat(obtain⟨hx',hE⟩:=hE)
    repeat' first
     |with_reducible first|refine Nx.go ?_ |refine Bk.go (fun _=>?_) fun _=>?_ |refine zas.mk (fun _ _=>?_) fun _=>?_ |refine Nb fun nb hnb hnb1 hnb2=>?_ |refine Nr fun nb nsp ncap hnb hncap hnb1 hnb2=>?_
     |simp -dsimp -implicitDefEqProofs (disch:=first|exact Kd|fail) only[go_sem,↓reduceIte,seval, -List.reduceReplicate,zer (Value.int .i64),ziA,zdi,hg,Option.map_some,Option.map_none,hr1,hl,ho]
    unfold zz
    refine Upd.leave (H':=(bp, .cells (PC vs va vb vsp vk (.slice (some ⟨nb,0,none⟩) (ws.length+1) ncap) (.map (some bm)) W) [] 112):: (bm, .map ((zb7 ((b:Int),(k:Int)) 1 am).map fun p=>(zat p.1,Value.int .i64 p.2))):: ([(nb, .cells (ws.flatMap zdh++[.int .i64 (b:Nat), .int .i64 (k:Nat)]) nsp 114)]++H)) Ks ?_
    exact hR _ _ _ (.inr (.inl ⟨nb,ncap,nsp,by simp,by rw[zfj],by simp only[List.length_append,List.length_singleton];omega⟩)) hA2
  ·have hl:=zeU ws
   have ho:=zl1 ws
   refine hg _ (fun hg=>?_) fun hg=>?_
   all_goals
    refine FnT.body tok [0,1,2,14] Tryz.func96 rfl Kk Kk (by show _≤34;simp) fun hsep=>?_
    rw[Tryz.results96]
    have hE:=hsep
    try simp only[zzs] at hE
    repeat(obtain⟨hx',hE⟩:=hE)
    repeat' first
     |with_reducible refine Br.yes ?_
     |with_reducible refine Br.no ?_
     |with_reducible refine Br.dec (fun _=>?_) (fun _=>?_)
     |with_reducible refine Br.beqB (fun _=>?_) (fun _=>?_)
     |with_reducible refine Br.beqb (fun _=>?_) (fun _=>?_)
     |with_reducible refine Br.mk (fun _=>?_) (fun _=>?_)
     |with_reducible refine zas.mk (fun _ _=>?_) (fun _=>?_)
     |with_reducible refine zd9.zero ?_
     | ((with_reducible refine zcR.mk fun nb hnb=>?_);have hnb1:=hnb.1.1;have hnb2:=hnb.1.2;try simp only[zbo,zb6,zfy,zbm,zcs,zeN,and_true] at hnb2)
     | ((with_reducible refine zbI.mk fun nb nsp ncap hnb hncap=>?_);have hnb1:=hnb.1.1;have hnb2:=hnb.1.2;try simp only[zbo,zb6,zfy,zbm,zcs,zeN,and_true] at hnb2)
     |simp -dsimp -implicitDefEqProofs (disch:=first|exact Kd|fail) only[go_sem,↓reduceIte,seval, -List.reduceReplicate,zer (Value.int .i64),ziA,zdi,hg,Option.map_some,Option.map_none,hr1,hl,ho]
     |with_reducible refine zd9.tight ?_
    unfold zz
    refine Upd.leave (H':=(bp, .cells (PC vs va vb vsp vk (.slice (some ⟨nb,0,none⟩) (ws.length+1) ncap) (.map (some bm)) W) [] 112):: (bm, .map ((zb7 ((b:Int),(k:Int)) 1 am).map fun p=>(zat p.1,Value.int .i64 p.2))):: ([(nb, .cells (ws.flatMap zdh++[.int .i64 (b:Nat), .int .i64 (k:Nat)]) nsp 114)]++H)) Ks ?_
    exact hR _ _ _ (.inr (.inl ⟨nb,ncap,nsp,by simp,by rw[zfj],by simp only[List.length_append,List.length_singleton];omega⟩)) hA2
theorem zxE {ws:List (Nat×Nat)} {b k:Nat} {am:List ((Int×Int)×Int)} (hw:ws.length≤30000000) (hA:zbf am (ws++[(b,k)])) (hnd:(ws++[(b,k)]).Nodup) {bp bm:Nat} {vs va vb vsp vk vw:Value} {W:Int} {kw:zb} (hO:WtO vw (ws++[(b,k)]) kw) {G:za} {H:zb} {R:Value→za→zb→Prop}
  (hR: ∀vw' am' kw',WtO vw' ws kw'→zbf am' ws→R (.agg #[.int .i64 (b:Nat), .int .i64 (k:Nat)]) G ((bp, .cells (PC vs va vb vsp vk vw' (.map (some bm)) W) [] 112):: (bm, .map (am'.map fun p=>(zat p.1,Value.int .i64 p.2))):: (kw'++H))):
  FnT Tryz.prog 97 [.pointer (some ⟨bp,0,none⟩)] G ((bp, .cells (PC vs va vb vsp vk vw (.map (some bm)) W) [] 112):: (bm, .map (am.map fun p=>(zat p.1,Value.int .i64 p.2))):: (kw++H)) R:=by
 have hA2:=hA.take hnd
 have hl:=zeU (ws++[(b,k)])
 have hwl:(ws++[(b,k)]).length=ws.length+1:=by simp
 rw[hwl] at hl
 have key: ∃bw cap sp,vw= .slice (some ⟨bw,0,none⟩) (ws.length+1) cap∧kw=[(bw, .cells ((ws++[(b,k)]).flatMap zdh) sp 114)]∧ws.length+1≤cap:=by
  rcases hO with ⟨aa,_,h,_⟩| ⟨bw,cap,sp,rfl,rfl,hc⟩| ⟨bw,sp,rfl,rfl⟩
  ·simp at h
  ·exact⟨bw,cap,sp,by rw[hwl],rfl,by rw[hwl] at hc;omega⟩
  ·exact⟨bw,_,sp,by rw[hwl],rfl,Nat.le_refl _⟩
 obtain⟨bw,cap,sp,rfl,rfl,hcap⟩:=key
 have hla:=zrl ws b k sp
 have e1:((ws.length+1 :Nat):Int) - 1=((ws.length:Nat):Int):=by omega
 refine FnT.body tok [0,2,3,4] Tryz.func97 rfl Kk Kk (by show _≤34;simp) fun hsep=>?_
 rw[Tryz.results97]
 have hE:=hsep
 try simp only[zzs] at hE
 repeat(obtain⟨hx',hE⟩:=hE)
 repeat' first
  |with_reducible first|refine Nx.go ?_ |refine Bk.go (fun _=>?_) fun _=>?_ |refine Nb fun nb hnb hnb1 hnb2=>?_
  |simp -dsimp -implicitDefEqProofs (disch:=first|exact Kd|fail) only[go_sem,↓reduceIte,seval,ziA,zdi,hl,hla,e1,Nat.sub_zero,Option.isSome_some,true_and]
 rename_i bz y1 y2 y3
 repeat' first
  |with_reducible first|refine Nx.go ?_ |refine Bk.go (fun _=>?_) fun _=>?_ |refine Nb fun nb hnb hnb1 hnb2=>?_
  |simp -dsimp -implicitDefEqProofs (disch:=first|exact Kd|fail) only[go_sem,↓reduceIte,seval,ziA,zdi,hl,hla,e1,Nat.sub_zero]
  |with_reducible refine Tri.drawS tok mixed [0,2,3,4] 4 [3,4] (.op 0 .plain (.op 1 .plain (.op 2 .plain (.op 3 .held (.op 4 .held (.op 5 .plain .nil)))))) Kk [(bp, .cells (PC vs va vb vsp vk (.slice (some ⟨bw,0,none⟩) ws.length ws.length) (.map (some bm)) W) [] 112),(nb, .cells [.int .i64 (b:Nat), .int .i64 (k:Nat)] [] 114)] Ks ?_
 unfold zz
 refine Upd.refind bw (ws.flatMap zdh) ([.int .i64 (b:Nat), .int .i64 (k:Nat)]++sp) (xs:=(ws++[(b,k)]).flatMap zdh) (sp:=sp) (e:=114) ?_ (by rw[zfj,List.append_assoc]) ?_
 ·simp -dsimp -implicitDefEqProofs (disch:=first|exact Kd|fail) only[go_sem,↓reduceIte,seval]
 ·simp -dsimp -implicitDefEqProofs (disch:=first|exact Kd|fail) only[go_sem,↓reduceIte,seval]
  refine Upd.leave (H':=(bp, .cells (PC vs va vb vsp vk (.slice (some ⟨bw,0,none⟩) ws.length ws.length) (.map (some bm)) W) [] 112):: (bm, .map ((zb7 ((b:Int),(k:Int)) 0 am).map fun p=>(zat p.1,Value.int .i64 p.2))):: ([(bw, .cells (ws.flatMap zdh) ([.int .i64 (b:Nat), .int .i64 (k:Nat)]++sp) 114)]++H)) Ks ?_
  exact hR _ _ _ (.inr (.inr ⟨bw,_,rfl,rfl⟩)) hA2
theorem zkK {w b:Nat} (hb:b<w) (hw:w≤70000) {fr to mk:Nat→Nat} (hbd:fr b≤to b∧to b≤70000) {bp b4 bx csp:Nat} {spx:List Value} {vs va vb vk vw vm:Value} {W:Int} {G:za} {H:zb} {R:Value→za→zb→Prop}
  (hR:R (.int .i64 ((to b - fr b:Nat):Int)) G ((b4, .cells [.pointer (some ⟨bp,0,none⟩)] [] 105):: (bp, .cells (PC vs va vb (.slice (some ⟨bx,0,none⟩) w csp) vk vw vm W) [] 112):: (bx, .cells (zC w fr to mk) spx 139)::H)):
  FnT Tryz.prog 142 [.int .i64 (b:Nat), .pointer (some ⟨b4,0,none⟩)] G ((b4, .cells [.pointer (some ⟨bp,0,none⟩)] [] 105):: (bp, .cells (PC vs va vb (.slice (some ⟨bx,0,none⟩) w csp) vk vw vm W) [] 112):: (bx, .cells (zC w fr to mk) spx 139)::H) R:=by
 have g0:=zkI (fr:=fr) (to:=to) (mk:=mk) (sp:=spx) hb
 have g1:=zgL (fr:=fr) (to:=to) (mk:=mk) (sp:=spx) hb
 have e1:((to b:Nat):Int) - ((fr b:Nat):Int)=((to b - fr b:Nat):Int):=by omega
 refine FnT.body tok [0,1,3] Tryz.func142 rfl Kk Kk (by show _≤21;simp) fun hsep=>?_
 rw[Tryz.results142]
 have hE:=hsep
 try simp only[zzs] at hE
 repeat(obtain⟨hx',hE⟩:=hE)
 repeat' first
  |with_reducible first|refine Nx.go ?_ |refine Bk.go (fun _=>?_) fun _=>?_
  |simp -dsimp -implicitDefEqProofs (disch:=first|exact Kd|fail) only[go_sem,↓reduceIte,seval,g0,g1,e1]
  |with_reducible refine Tri.drawM tok mixed [0,1,3] 1 [0,3,7,8,11,15] (.op 0 .held (.op 1 .plain (.op 2 .plain (.op 3 .held (.op 4 .plain (.op 5 .plain (.op 6 .plain (.op 7 .held (.op 8 .held (.op 9 .plain (.op 10 .plain (.op 11 .held (.op 12 .plain (.op 13 .plain (.op 14 .plain (.op 15 .held (.op 16 .plain (.op 17 .plain .nil)))))))))))))))))) Kk _ (List.Sublist.refl _) ?_
 all_goals refine Upd.finL ?_ hR ?_
 any_goals first|exact Ks|skip
 rfl
end Go.Proofs.YtefkpedhbijhkaaGreatDoor
namespace Go.Proofs.YtefkpedhbijhkaaGreatDoor
open Go Go.V Go.Proofs
theorem zvo {ws:List (Nat×Nat)} {am:List ((Int×Int)×Int)} (hw:ws.length≤30000000) (hA:zbf am ws) {n w W k old fresh:Nat} (hwn:w≤70000) (ho:old<w) (hf:fresh<w) {fr to mk:Nat→Nat} (hbd: ∀b,b<w→fr b≤to b∧to b≤70000) {bp bm bx csp:Nat} {spx:List Value} {vs va vb vk vw:Value} {kw:zb} (hO:WtO vw ws kw) {G:za} {H:zb} {R:Value→za→zb→Prop}
  (hR: ∀vw' am' kw',WtO vw' (zbR (decide (to fresh - fr fresh≤to old - fr old)) old fresh ws k) kw'→zbf am' (zbR (decide (to fresh - fr fresh≤to old - fr old)) old fresh ws k)→R (.tuple #[]) G ((bp, .cells (PC vs va vb (.slice (some ⟨bx,0,none⟩) w csp) vk vw' (.map (some bm)) (W:Nat)) [] 112):: (bx, .cells (zC w fr to mk) spx 139):: (bm, .map (am'.map fun p=>(zat p.1,Value.int .i64 p.2))):: (kw'++H))):
  FnT Tryz.prog 122 [.pointer (some ⟨bp,0,none⟩), .int .i64 (old:Nat), .int .i64 (fresh:Nat), .int .i64 (k:Nat)] G ((bp, .cells (PC vs va vb (.slice (some ⟨bx,0,none⟩) w csp) vk vw (.map (some bm)) (W:Nat)) [] 112):: (bx, .cells (zC w fr to mk) spx 139):: (bm, .map (am.map fun p=>(zat p.1,Value.int .i64 p.2))):: (kw++H)) R:=by
 by_cases hm:(old,k)∈ws
 ·have hg:=(hA old k).1 hm
  have hl:zbR (decide (to fresh - fr fresh≤to old - fr old)) old fresh ws k=zce ws (fresh,k):=by unfold zbR;rw[if_pos (.inl hm)]
  rw[hl] at hR
  refine FnT.body tok [0,1,2,3,4,8,27] Tryz.func122 rfl Kk Kk (by show _≤36;simp) fun hsep=>?_
  rw[Tryz.results122]
  have hE:=hsep
  try simp only[zzs] at hE
  repeat(obtain⟨hx',hE⟩:=hE)
  repeat' first
   |with_reducible first|refine Nx.go ?_ |refine Bk.go (fun _=>?_) fun _=>?_ |refine zas.mk (fun _ _=>?_) fun _=>?_ |refine Nb fun nb hnb hnb1 hnb2=>?_ |refine Nr fun nb nsp ncap hnb hncap hnb1 hnb2=>?_
   |simp -dsimp -implicitDefEqProofs (disch:=first|exact Kd|fail) only[go_sem,↓reduceIte,seval,zer (Value.int .i64),zdi,hg,Option.map_some]
  refine FnT.upd (FnT.leave (H':=(bp, .cells (PC vs va vb (.slice (some ⟨bx,0,none⟩) w csp) vk vw (.map (some bm)) (W:Nat)) [] 112):: (bm, .map (am.map fun p=>(zat p.1,Value.int .i64 p.2))):: (kw++((bx, .cells (zC w fr to mk) spx 139)::H))) (zmD hw hA hO fun vw' am' kw' hO' hA'=>?_) Ks)
  refine Upd.go (H':=(bp, .cells (PC vs va vb (.slice (some ⟨bx,0,none⟩) w csp) vk vw' (.map (some bm)) (W:Nat)) [] 112):: (bx, .cells (zC w fr to mk) spx 139):: (bm, .map (am'.map fun p=>(zat p.1,Value.int .i64 p.2))):: (kw'++H)) Ks (Upd.now ?_)
  repeat' first
   |with_reducible first|refine Nx.go ?_ |refine Bk.go (fun _=>?_) fun _=>?_ |refine zas.mk (fun _ _=>?_) fun _=>?_ |refine Nb fun nb hnb hnb1 hnb2=>?_ |refine Nr fun nb nsp ncap hnb hncap hnb1 hnb2=>?_
   |simp -dsimp -implicitDefEqProofs (disch:=first|exact Kd|fail) only[go_sem,↓reduceIte,seval]
  exact Upd.now (hR vw' am' kw' hO' hA')
 ·have hg: ∀K:Prop,(zbL ((old:Int),(k:Int)) am=none→K)→(zbL ((old:Int),(k:Int)) am=some 0→K)→K:=fun K h1 h2=>((hA old k).2 hm).elim h1 h2
  have hbo:=hbd old ho
  have hbf:=hbd fresh hf
  by_cases hsm:to fresh - fr fresh≤to old - fr old
  ·have hl:zbR (decide (to fresh - fr fresh≤to old - fr old)) old fresh ws k=zce ws (fresh,k):=by unfold zbR;rw[if_pos (.inr (decide_eq_true hsm))]
   rw[hl] at hR
   refine hg _ (fun hg=>?_) fun hg=>?_
   all_goals
    refine FnT.body tok [0,1,2,3,4,8,27] Tryz.func122 rfl Kk Kk (by show _≤36;simp) fun hsep=>?_
    rw[Tryz.results122]
    have hE:=hsep
    try simp only[zzs] at hE
    repeat(obtain⟨hx',hE⟩:=hE)
    repeat' first
     |with_reducible first|refine Nx.go ?_ |refine Bk.go (fun _=>?_) fun _=>?_ |refine zas.mk (fun _ _=>?_) fun _=>?_ |refine Nb fun nb hnb hnb1 hnb2=>?_ |refine Nr fun nb nsp ncap hnb hncap hnb1 hnb2=>?_
     |simp -dsimp -implicitDefEqProofs (disch:=first|exact Kd|fail) only[go_sem,↓reduceIte,seval,zer (Value.int .i64),zdi,hg,Option.map_some,Option.map_none]
     |with_reducible refine zkK hf hwn hbf ?_
     |with_reducible refine zkK ho hwn hbo ?_
    refine FnT.upd (FnT.leave (H':=(bp, .cells (PC vs va vb (.slice (some ⟨bx,0,none⟩) w csp) vk vw (.map (some bm)) (W:Nat)) [] 112):: (bm, .map (am.map fun p=>(zat p.1,Value.int .i64 p.2))):: (kw++((bx, .cells (zC w fr to mk) spx 139)::H))) (zmD hw hA hO fun vw' am' kw' hO' hA'=>?_) Ks)
    refine Upd.go (H':=(bp, .cells (PC vs va vb (.slice (some ⟨bx,0,none⟩) w csp) vk vw' (.map (some bm)) (W:Nat)) [] 112):: (bx, .cells (zC w fr to mk) spx 139):: (bm, .map (am'.map fun p=>(zat p.1,Value.int .i64 p.2))):: (kw'++H)) Ks (Upd.now ?_)
    repeat' first
     |with_reducible first|refine Nx.go ?_ |refine Bk.go (fun _=>?_) fun _=>?_ |refine zas.mk (fun _ _=>?_) fun _=>?_ |refine Nb fun nb hnb hnb1 hnb2=>?_ |refine Nr fun nb nsp ncap hnb hncap hnb1 hnb2=>?_
     |simp -dsimp -implicitDefEqProofs (disch:=first|exact Kd|fail) only[go_sem,↓reduceIte,seval]
    exact Upd.now (hR vw' am' kw' hO' hA')
  ·have hl:zbR (decide (to fresh - fr fresh≤to old - fr old)) old fresh ws k=zce ws (old,k):=by unfold zbR;rw[if_neg];rintro(h|h);exact hm h;exact hsm (of_decide_eq_true h)
   rw[hl] at hR
   refine hg _ (fun hg=>?_) fun hg=>?_
   all_goals
    refine FnT.body tok [0,1,2,3,4,8,27] Tryz.func122 rfl Kk Kk (by show _≤36;simp) fun hsep=>?_
    rw[Tryz.results122]
    have hE:=hsep
    try simp only[zzs] at hE
    repeat(obtain⟨hx',hE⟩:=hE)
    repeat' first
     |with_reducible first|refine Nx.go ?_ |refine Bk.go (fun _=>?_) fun _=>?_ |refine zas.mk (fun _ _=>?_) fun _=>?_ |refine Nb fun nb hnb hnb1 hnb2=>?_ |refine Nr fun nb nsp ncap hnb hncap hnb1 hnb2=>?_
     |simp -dsimp -implicitDefEqProofs (disch:=first|exact Kd|fail) only[go_sem,↓reduceIte,seval,zer (Value.int .i64),zdi,hg,Option.map_some,Option.map_none]
     |with_reducible refine zkK hf hwn hbf ?_
     |with_reducible refine zkK ho hwn hbo ?_
    refine FnT.upd (FnT.leave (H':=(bp, .cells (PC vs va vb (.slice (some ⟨bx,0,none⟩) w csp) vk vw (.map (some bm)) (W:Nat)) [] 112):: (bm, .map (am.map fun p=>(zat p.1,Value.int .i64 p.2))):: (kw++((bx, .cells (zC w fr to mk) spx 139)::H))) (zmD hw hA hO fun vw' am' kw' hO' hA'=>?_) Ks)
    refine Upd.go (H':=(bp, .cells (PC vs va vb (.slice (some ⟨bx,0,none⟩) w csp) vk vw' (.map (some bm)) (W:Nat)) [] 112):: (bx, .cells (zC w fr to mk) spx 139):: (bm, .map (am'.map fun p=>(zat p.1,Value.int .i64 p.2))):: (kw'++H)) Ks (Upd.now ?_)
    repeat' first
     |with_reducible first|refine Nx.go ?_ |refine Bk.go (fun _=>?_) fun _=>?_ |refine zas.mk (fun _ _=>?_) fun _=>?_ |refine Nb fun nb hnb hnb1 hnb2=>?_ |refine Nr fun nb nsp ncap hnb hncap hnb1 hnb2=>?_
     |simp -dsimp -implicitDefEqProofs (disch:=first|exact Kd|fail) only[go_sem,↓reduceIte,seval]
    exact Upd.now (hR vw' am' kw' hO' hA')
theorem zyz {ws:List (Nat×Nat)} {am:List ((Int×Int)×Int)} {w W old fresh:Nat} (hw:ws.length+W≤29000000) (hA:zbf am ws) (hwn:w≤70000) (hW:W≤70000) (ho:old<w) (hf:fresh<w) {fr to mk:Nat→Nat} (hbd: ∀b,b<w→fr b≤to b∧to b≤70000) {bp bm bx csp:Nat} {spx:List Value} {vs va vb vk vw v72 v73 v74:Value} {kw:zb} (hO:WtO vw ws kw) {G:za} {H:zb}:
  Tri Tryz.prog Tryz.f98.ntmps (piece [1,1,1,1,1,0,0,1,1,0,0,1,1,1] Tryz.f98) G [(0, .pointer (some ⟨bp,0,none⟩)),(13, .int .i64 (old:Nat)),(14, .int .i64 (fresh:Nat)),(72,v72),(73,v73),(74,v74)] ((bp, .cells (PC vs va vb (.slice (some ⟨bx,0,none⟩) w csp) vk vw (.map (some bm)) (W:Nat)) [] 112):: (bx, .cells (zC w fr to mk) spx 139):: (bm, .map (am.map fun p=>(zat p.1,Value.int .i64 p.2))):: (kw++H)) (onlyN fun G' l H'=> ∃vw' am' kw',WtO vw' (zb4 (decide (to fresh - fr fresh≤to old - fr old)) old fresh ws W) kw'∧zbf am' (zb4 (decide (to fresh - fr fresh≤to old - fr old)) old fresh ws W)∧G'=G∧zy [0,72,73,74] l=[(0, .pointer (some ⟨bp,0,none⟩)),(72,v72),(73,v73),(74,v74)]∧H'=(bp, .cells (PC vs va vb (.slice (some ⟨bx,0,none⟩) w csp) vk vw' (.map (some bm)) (W:Nat)) [] 112):: (bx, .cells (zC w fr to mk) spx 139):: (bm, .map (am'.map fun p=>(zat p.1,Value.int .i64 p.2))):: (kw'++H)):=by
 refine Tri.sepT fun hs0=>?_
 have hE:=hs0
 try simp only[zzs] at hE
 repeat(obtain⟨hx',hE⟩:=hE)
 refine Tri.piece (f:=Tryz.f98) rfl ?_
 refine Tri.run tok [0,1,2,6,8,9,11,13,14,15,18,19,20,21,37,38,39,40,57,72,73,74,75,82,86,87,88] Kk ?_
 repeat' first
  |with_reducible first|refine Nx.go ?_ |refine Bk.go (fun _=>?_) fun _=>?_ |refine Nb fun nb hnb hnb1 hnb2=>?_ |refine Nr fun nb nsp ncap hnb hncap hnb1 hnb2=>?_
  |simp -dsimp -implicitDefEqProofs (disch:=first|exact Kd|fail) only[go_sem,↓reduceIte,seval]
 refine Tri.loopU tok [0,1,2,6,8,9,11,13,14,15,18,19,20,21,37,38,39,40,57,72,73,74,75,82,86,87,88] Kk [0,13,14,72,73,74,86,87] (fun q G' l H'=> ∃ (j:Nat) (vw':Value) (am':List ((Int×Int)×Int)) (kw':zb),j+q=W∧WtO vw' (zb4 (decide (to fresh - fr fresh≤to old - fr old)) old fresh ws j) kw'∧zbf am' (zb4 (decide (to fresh - fr fresh≤to old - fr old)) old fresh ws j)∧G'=G∧H'=(bp, .cells (PC vs va vb (.slice (some ⟨bx,0,none⟩) w csp) vk vw' (.map (some bm)) (W:Nat)) [] 112):: (bx, .cells (zC w fr to mk) spx 139):: (bm, .map (am'.map fun p=>(zat p.1,Value.int .i64 p.2))):: (kw'++H)∧l=[(0, .pointer (some ⟨bp,0,none⟩)),(13, .int .i64 (old:Nat)),(14, .int .i64 (fresh:Nat)),(72,v72),(73,v73),(74,v74),(86, .int .i64 (W:Nat)),(87, .int .i64 (j:Nat))]) (W) ?_ ?_
 ·exact Upd.now ⟨0,vw,am,kw,by omega,hO,hA,rfl,rfl,rfl⟩
 ·rintro q G1 l H1 hle hs1 ⟨j,vw',am',kw',hjq,hO',hA',rfl,rfl,rfl⟩
  have hlen:=(zix (decide (to fresh - fr fresh≤to old - fr old)) old fresh ws j).2.2.2.2.1
  by_cases hj:j<W
  ·repeat' first
    |with_reducible first|refine Nx.go ?_ |refine Bk.go (fun _=>?_) fun _=>?_ |refine Nb fun nb hnb hnb1 hnb2=>?_ |refine Nr fun nb nsp ncap hnb hncap hnb1 hnb2=>?_
    |simp -dsimp -implicitDefEqProofs (disch:=first|exact Kd|fail) only[go_sem,↓reduceIte,seval]
   refine zvo (n:=0) Ko hA' hwn ho hf hbd hO' fun vw2 am2 kw2 hO2 hA2=>?_
   rw[←zkH] at hO2 hA2
   repeat' first
    |with_reducible first|refine Nx.go ?_ |refine Bk.go (fun _=>?_) fun _=>?_ |refine Nb fun nb hnb hnb1 hnb2=>?_ |refine Nr fun nb nsp ncap hnb hncap hnb1 hnb2=>?_
    |simp -dsimp -implicitDefEqProofs (disch:=first|exact Kd|fail) only[go_sem,↓reduceIte,seval]
   exact Upd.now ⟨q - 1,by omega,j+1,vw2,am2,kw2,by omega,hO2,hA2,rfl,rfl,rfl⟩
  ·obtain rfl:j=W:=by omega
   repeat' first
    |with_reducible first|refine Nx.go ?_ |refine Bk.go (fun _=>?_) fun _=>?_ |refine Nb fun nb hnb hnb1 hnb2=>?_ |refine Nr fun nb nsp ncap hnb hncap hnb1 hnb2=>?_
    |simp -dsimp -implicitDefEqProofs (disch:=first|exact Kd|fail) only[go_sem,↓reduceIte,seval]
   exact Upd.now ⟨vw',am',kw',hO',hA',rfl,rfl,rfl⟩
def zcP (dl:Nat→Nat) (n:Nat) (st:Nat→Nat) (f i:Nat):List Int:=(List.range i).flatMap fun j=>zbP dl n (st (f+j))
theorem zkL (dl:Nat→Nat) (n:Nat) (st:Nat→Nat) (f i:Nat):zcP dl n st f (i+1)=zcP dl n st f i++zbP dl n (st (f+i)):=by
 unfold zcP;rw[List.range_succ,List.flatMap_append];simp
theorem ziB (dl:Nat→Nat) (n:Nat) (st:Nat→Nat) (f:Nat): ∀i,(zcP dl n st f i).length≤i * n
 |0=>by simp [zcP]
 |i+1=>by
  rw[zkL,List.length_append,Nat.succ_mul]
  have h1:=ziB dl n st f i
  have h2:=zjW dl n (st (f+i))
  omega
theorem zto {dl:Nat→Nat} {n:Nat} {st:Nat→Nat} {f i:Nat} {x:Int}:x∈zcP dl n st f i↔ ∃s:Nat,s<n∧(∃j,j<i∧dl s=st (f+j))∧x=s:=by
 unfold zcP
 simp only[List.mem_flatMap,List.mem_range,zvm]
 constructor
 ·rintro⟨j,h1,s,h2,h3,h4⟩;exact⟨s,h2,⟨j,h1,h3⟩,h4⟩
 ·rintro⟨s,h2,⟨j,h1,h3⟩,h4⟩;exact⟨j,h1,s,h2,h3,h4⟩
theorem zyA {n w W:Nat} {st pl bf fr to mk:Nat→Nat} (hP:PInv n w st pl bf fr to mk) (hn:n≤66000) {b k:Nat} (hb:b<w) (hk:k<W) {dl:Nat→Nat→Nat} {bp bs bx csp:Nat} {spx:List Value} {va vb vk vw vm:Value} {G:za} {H:zb} (hbk:BkT G n W dl vk):
  Tri Tryz.prog Tryz.f98.ntmps (piece [1,0] Tryz.f98) G [(0, .pointer (some ⟨bp,0,none⟩)),(1, .int .i64 (b:Nat)),(2, .int .i64 (k:Nat)),(6, .slice none 0 0)] ((bp, .cells (PC (.slice (some ⟨bs,0,none⟩) n n) va vb (.slice (some ⟨bx,0,none⟩) w csp) vk vw vm (W:Nat)) [] 112):: (bx, .cells (zC w fr to mk) spx 139):: (bs, .cells (zj n st) [] 3)::H) (onlyN fun G' l H'=> ∃vf kf,zH [] 3 1 vf (zcP (dl k) n st (fr b) (to b - fr b)).length ((zcP (dl k) n st (fr b) (to b - fr b)).map (Value.int .i64)) kf∧G'=G∧zy [0,6] l=[(0, .pointer (some ⟨bp,0,none⟩)),(6,vf)]∧H'=(bp, .cells (PC (.slice (some ⟨bs,0,none⟩) n n) va vb (.slice (some ⟨bx,0,none⟩) w csp) vk vw vm (W:Nat)) [] 112):: (bx, .cells (zC w fr to mk) spx 139):: (bs, .cells (zj n st) [] 3):: (kf++H)):=by
 have h1:=hP.ne b hb
 have h2:=hP.le b hb
 obtain⟨ak,ck,rk,rfl,hrk,hrl,hrc,hrr⟩:=hbk
 obtain⟨a2,c2,rv,e2,hr2,hl2,hc2,hrv⟩:=hrr k hk Ko
 have hadk:Adr ak:=hrk.adr Ko
 have hn0:0<n:=by omega
 have had2:Adr a2:=hr2.adr Ko
 refine Tri.sepT fun hs0=>?_
 have hE:=hs0
 try simp only[zzs] at hE
 repeat(obtain⟨hx',hE⟩:=hE)
 refine Tri.piece (f:=Tryz.f98) rfl ?_
 refine Tri.run tok [0,1,2,6,8,9,11,13,14,15,18,19,20,21,37,38,39,40,57,72,73,74,75,82,86,87,88] Kk ?_
 repeat' first
  |with_reducible first|refine Nx.go ?_ |refine Bk.go (fun _=>?_) fun _=>?_ |refine Nb fun nb hnb hnb1 hnb2=>?_ |refine Nr fun nb nsp ncap hnb hncap hnb1 hnb2=>?_
  |simp -dsimp -implicitDefEqProofs (disch:=first|exact Kd|fail) only[go_sem,↓reduceIte,seval]
  |with_reducible refine znT hP Ko hb ?_
 refine Tri.loopU tok [0,1,2,6,8,9,11,13,14,15,18,19,20,21,37,38,39,40,57,72,73,74,75,82,86,87,88] Kk [0,2,6,18,19,20] (fun q G' l H'=> ∃ (i:Nat) (vf:Value) (kf:zb),i+q=to b - fr b∧zH [] 3 1 vf (zcP (dl k) n st (fr b) i).length ((zcP (dl k) n st (fr b) i).map (Value.int .i64)) kf∧G'=G∧H'=(bp, .cells (PC (.slice (some ⟨bs,0,none⟩) n n) va vb (.slice (some ⟨bx,0,none⟩) w csp) (.slice ak W ck) vw vm (W:Nat)) [] 112):: (bx, .cells (zC w fr to mk) spx 139):: (bs, .cells (zj n st) [] 3):: (kf++H)∧l=[(0, .pointer (some ⟨bp,0,none⟩)),(2, .int .i64 (k:Nat)),(6,vf),(18, .slice (some ⟨bs,fr b,none⟩) (to b - fr b) (to b - fr b)),(19, .int .i64 ((to b - fr b:Nat):Int)),(20, .int .i64 (i:Nat))]) ((to b - fr b)) ?_ ?_
 ·exact Upd.now ⟨0,_,[],by omega, .inl ⟨none,rfl,rfl,rfl,rfl⟩,rfl,rfl,rfl⟩
 ·rintro q G1 l H1 hle hs1 ⟨i,vf,kf,hiq,hO,rfl,rfl,rfl⟩
  by_cases hi:i<to b - fr b
  ·have hpn:fr b+i<n:=by omega
   have gs:=zdg st hpn
   have hst:=hP.st_lt _ hpn
   obtain⟨a3,c3,e3,hr3,hc3⟩:=hrv _ hst Ko
   have hfl:=ziB (dl k) n st (fr b) i
   have hpl:=zjW (dl k) n (st (fr b+i))
   have hmul:i * n≤66000 * 66000:=Nat.mul_le_mul Ko hn
   have hsucc:=zkL (dl k) n st (fr b) i
   have hrall:=fun(H:zb) (k':List Value→Prop)=>hr3.rdSlAll (n:=(zbP (dl k) n (st (fr b+i))).length) (by rw[List.length_map]) H k'
   rcases hO with ⟨aa,rfl,hx0,hx,rfl⟩| ⟨bfm,cfm,spf,rfl,rfl,hx,hcf⟩
   ·have hE:=hs1
    try simp only[zzs] at hE
    repeat(obtain⟨hx',hE⟩:=hE)
    have hnil:zcP (dl k) n st (fr b) i=[]:=List.eq_nil_of_length_eq_zero hx0
    rw[hnil,List.nil_append] at hsucc
    repeat' first
     |with_reducible first|refine Nx.go ?_ |refine Bk.go (fun _=>?_) fun _=>?_ |refine Nb fun nb hnb hnb1 hnb2=>?_ |refine Nr fun nb nsp ncap hnb hncap hnb1 hnb2=>?_
     |simp -dsimp -implicitDefEqProofs (disch:=first|exact Kd|fail) only[go_sem,↓reduceIte,seval,gs,Row.obj hrk,e2,Row.obj hr2,e3,hrall]
    ·rename_i h0
     have hp0:zbP (dl k) n (st (fr b+i))=[]:=List.eq_nil_of_length_eq_zero h0
     exact Upd.now ⟨q - 1,by omega,i+1, .slice aa 0 0,[],by omega,by rw[hsucc,hp0];exact .inl ⟨aa,rfl,rfl,rfl,rfl⟩,rfl,rfl,rfl⟩
    ·refine Upd.leave (H':=(bp, .cells (PC (.slice (some ⟨bs,0,none⟩) n n) va vb (.slice (some ⟨bx,0,none⟩) w csp) (.slice ak W ck) vw vm (W:Nat)) [] 112):: (bx, .cells (zC w fr to mk) spx 139):: (bs, .cells (zj n st) [] 3):: ([(nb, .cells ((zbP (dl k) n (st (fr b+i))).map (Value.int .i64)) nsp 3)]++H)) Ks ?_
     exact⟨q - 1,by omega,i+1,_,_,by omega,by rw[hsucc];exact .inr ⟨nb,ncap,nsp,rfl,rfl,by rw[List.length_map,Nat.mul_one],by rw[List.length_map];omega⟩,rfl,rfl,rfl⟩
   ·have hE:=hs1
    try simp only[zzs] at hE
    repeat(obtain⟨hx',hE⟩:=hE)
    rw[List.length_map,Nat.mul_one] at hx hcf
    repeat' first
     |with_reducible first|refine Nx.go ?_ |refine Bk.go (fun _=>?_) fun _=>?_ |refine Nb fun nb hnb hnb1 hnb2=>?_ |refine Nr fun nb nsp ncap hnb hncap hnb1 hnb2=>?_
     |simp -dsimp -implicitDefEqProofs (disch:=first|exact Kd|fail) only[go_sem,↓reduceIte,seval,gs,Row.obj hrk,e2,Row.obj hr2,e3,hrall,List.length_map]
    refine Upd.leave (H':=(bp, .cells (PC (.slice (some ⟨bs,0,none⟩) n n) va vb (.slice (some ⟨bx,0,none⟩) w csp) (.slice ak W ck) vw vm (W:Nat)) [] 112):: (bx, .cells (zC w fr to mk) spx 139):: (bs, .cells (zj n st) [] 3):: ([(nb, .cells ((zcP (dl k) n st (fr b) i).map (Value.int .i64)++(zbP (dl k) n (st (fr b+i))).map (Value.int .i64)) nsp 3)]++H)) Ks ?_
    exact⟨q - 1,by omega,i+1,_,_,by omega,by rw[hsucc];exact .inr ⟨nb,ncap,nsp,by rw[List.length_append],by rw[List.map_append],by rw[List.length_map,Nat.mul_one],by rw[List.length_map,List.length_append];omega⟩,rfl,rfl,rfl⟩
  ·obtain rfl:i=to b - fr b:=by omega
   have hE:=hs1
   try simp only[zzs] at hE
   repeat(obtain⟨hx',hE⟩:=hE)
   repeat' first
    |with_reducible first|refine Nx.go ?_ |refine Bk.go (fun _=>?_) fun _=>?_ |refine Nb fun nb hnb hnb1 hnb2=>?_ |refine Nr fun nb nsp ncap hnb hncap hnb1 hnb2=>?_
    |simp -dsimp -implicitDefEqProofs (disch:=first|exact Kd|fail) only[go_sem,↓reduceIte,seval]
   exact Upd.now ⟨vf,kf,hO,rfl,rfl,rfl⟩
end Go.Proofs.YtefkpedhbijhkaaGreatDoor
