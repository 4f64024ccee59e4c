/- Law 35, PackKeys: two machines have one key just if they tell the same of all words: the law answers true. -/
import Derived.Test.YtomdbjfdbkejoaaGreatDoorW11
import Derived.OpenShut
import Derived.Deep.DeepHandedRow
import Derived.Lib.LaidTab
import Derived.Test.YtomdbjfdbkejoaaGreatDoorProg
import Derived.Test.YtomdbjfdbkejoaaGreatDoorCards
import Derived.Test.YtomdbjfdbkejoaaGreatDoorTie
set_option maxHeartbeats 64000000
set_option linter.unusedSimpArgs false
set_option linter.unusedVariables false
set_option linter.unusedSectionVars false
namespace Go.Proofs.YtomdbjfdbkejoaaGreatDoor
open Go Go.V Go.Proofs
theorem zwU (x y:Nat):zu5 (x:Int) (y:Int)=((min x y:Nat):Int):=by unfold zu5;split <;> omega
theorem zsA (m:Nat→Nat) (a b:Nat):zaK m b a=zaK m a b:=by unfold zaK;rw[Nat.max_comm,Nat.min_comm]
theorem zwV {m:Nat→Nat} {a b a' b':Nat} (h1:m a=m a') (h2:m b=m b'):zaK m a b=zaK m a' b':=by unfold zaK;rw[h1,h2]
theorem zm7 {p q:Nat→Bool} {h:Nat} (hp:p h=true) (hq:q h=false): ∀ {n:Nat},(∀i,i<n→i≠h→q i=p i)→h<n→(List.range n).countP q+1=(List.range n).countP p
 |0,_,hl=>absurd hl (Nat.not_lt_zero _)
 |n+1,he,hl=>by
  rw[List.range_succ,List.countP_append,List.countP_append]
  by_cases e:h=n
  ·subst e
   have:(List.range h).countP q=(List.range h).countP p:=List.countP_congr fun x hx=>by rw[he x (by have:=List.mem_range.1 hx;omega) (by have:=List.mem_range.1 hx;omega)]
   simp [hp,hq,this]
  ·have ih:=zm7 hp hq (n:=n) (fun i hi=>he i Ko) Ko
   have:=he n Ko (fun e2=>e e2.symm)
   simp only[List.countP_cons,List.countP_nil,this]
   omega
theorem zo6 {n:Nat} {up least m rank:Nat→Nat} {B:Nat} (h:UInv n up least m rank B) {a b:Nat} (ha:a<n) (hb:b<n) (hab:m a≠m b):zde n (zaK m a b)+1=zde n m:=by
 have h1:=h.mid a ha
 have h2:=h.mid b hb
 have h3:=h.mle a ha
 have h4:=h.mle b hb
 have e1:m (max (m a) (m b))=max (m a) (m b):=by
  rcases Nat.le_total (m a) (m b) with hl|hl
  ·rw[Nat.max_eq_right hl,h2]
  ·rw[Nat.max_eq_left hl,h1]
 unfold zde
 refine zm7 (h:=max (m a) (m b)) (by simpa using e1) ?_ (fun i hi hne=>?_) Ko
 ·simp only[beq_eq_false_iff_ne,ne_eq]
  unfold zaK
  rw[if_pos e1];omega
 ·unfold zaK
  by_cases e:m i=max (m a) (m b)
  ·rw[if_pos e]
   have:=h.mle i hi
   rw[Bool.eq_iff_iff];simp;omega
  ·rw[if_neg e]
def zbR (n:Nat) (m:Nat→Nat) (i j:Int):(Nat→Nat)×Bool:=if 0≤i∧i<n∧0≤j∧j<n∧m i.toNat≠m j.toNat then(zaK m i.toNat j.toNat,true) else(m,false)
theorem zkO {n:Nat} {m:Nat→Nat} {i j:Int} (h: ¬(0≤i∧i<n∧0≤j∧j<n∧m i.toNat≠m j.toNat)):zbR n m i j=(m,false):=if_neg h
theorem zyx (i j:Int) {hb:zb} {pt:Value} {n:Nat} {m:Nat→Nat} (ht:zgw hb pt n m) {G:za} {H:zb} {R:Value→za→zb→Prop}
  (hR: ∀hb',zgw hb' pt n (zbR n m i j).1→R (.bool (zbR n m i j).2) G (hb'++H)):FnT Tryz.prog 83 [pt, .int .i64 i, .int .i64 j] G (hb++H) R:=by
 obtain⟨hn,bu,bt,cap,up,least,rank,B,many,sp,rfl,rfl,hu⟩:=ht
 have hcb:zde n m≤n:=by
  have:=List.countP_le_length (p:=fun i=>m i==i) (l:=List.range n)
  rwa [List.length_range] at this
 refine FnT.body tok [0,1,2,6,7,8,9,10,27,44] Tryz.func83 rfl Kk Kk (by show _≤93;simp) fun hsep=>?_
 rw[Tryz.results83]
 have hE:=hsep
 try simp only[zzs] at hE
 repeat(obtain⟨hx',hE⟩:=hE)
 repeat' first
  |with_reducible first|refine Nx.go ?_ |refine Bk.go (fun _=>?_) fun _=>?_ |refine Nb fun nb hnb hnb1 hnb2=>?_
  |with_reducible refine Tri.drawM tok mixed [0,1,2,6,7,8,9,10,27,44] 4 [3,7,11,15] (.op 0 .plain (.op 1 .plain (.op 2 .plain (.op 3 .held (.op 4 .plain (.op 5 .plain (.op 6 .plain (.op 7 .held (.op 8 .plain (.op 9 .plain (.op 10 .plain (.op 11 .held (.op 12 .plain (.op 13 .plain (.op 14 .plain (.op 15 .held (.op 16 .plain .nil))))))))))))))))) Kk _ (List.Sublist.refl _) ?_
  |with_reducible refine Tri.drawH tok mixed [0,1,2,6,7,8,9,10,27,44] 6 [3,9] (.op 0 .plain (.op 1 .plain (.op 2 .plain (.op 3 .held (.op 4 .plain (.op 5 .plain (.op 6 .plain (.op 7 .plain (.op 8 .plain (.op 9 .held (.op 10 .plain (.op 11 .plain (.op 12 .plain (.op 13 .plain .nil)))))))))))))) Kk [0] ?_
  |with_reducible refine Tri.drawH tok mixed [0,1,2,6,7,8,9,10,27,44] 8 [3,7] (.op 0 .plain (.op 1 .plain (.op 2 .plain (.op 3 .held (.op 4 .plain (.op 5 .plain (.op 6 .plain (.op 7 .held (.op 8 .plain (.op 9 .plain (.op 10 .plain (.op 11 .plain .nil)))))))))))) Kk [9,10] ?_
  |with_reducible refine Tri.drawH tok mixed [0,1,2,6,7,8,9,10,27,44] 9 [4,8] (.op 0 .plain (.op 1 .plain (.op 2 .plain (.op 3 .plain (.op 4 .held (.op 5 .plain (.op 6 .plain (.op 7 .plain (.op 8 .held (.op 9 .plain (.op 10 .plain (.op 11 .plain (.op 12 .plain .nil))))))))))))) Kk [9,10] ?_
  |simp -dsimp -implicitDefEqProofs (disch:=first|exact Kd|fail) only[go_sem,↓reduceIte,seval]
 refine zo5 n i bu bt cap _ many sp hu hn (fun t up' htn hi0 hin hu' hr hm hroot=>?_) (fun ho=>?_)
 ·repeat' first
   |with_reducible first|refine Nx.go ?_ |refine Bk.go (fun _=>?_) fun _=>?_ |refine Nb fun nb hnb hnb1 hnb2=>?_
   |with_reducible refine Tri.drawM tok mixed [0,1,2,6,7,8,9,10,27,44] 4 [3,7,11,15] (.op 0 .plain (.op 1 .plain (.op 2 .plain (.op 3 .held (.op 4 .plain (.op 5 .plain (.op 6 .plain (.op 7 .held (.op 8 .plain (.op 9 .plain (.op 10 .plain (.op 11 .held (.op 12 .plain (.op 13 .plain (.op 14 .plain (.op 15 .held (.op 16 .plain .nil))))))))))))))))) Kk _ (List.Sublist.refl _) ?_
   |with_reducible refine Tri.drawH tok mixed [0,1,2,6,7,8,9,10,27,44] 6 [3,9] (.op 0 .plain (.op 1 .plain (.op 2 .plain (.op 3 .held (.op 4 .plain (.op 5 .plain (.op 6 .plain (.op 7 .plain (.op 8 .plain (.op 9 .held (.op 10 .plain (.op 11 .plain (.op 12 .plain (.op 13 .plain .nil)))))))))))))) Kk [0] ?_
   |with_reducible refine Tri.drawH tok mixed [0,1,2,6,7,8,9,10,27,44] 8 [3,7] (.op 0 .plain (.op 1 .plain (.op 2 .plain (.op 3 .held (.op 4 .plain (.op 5 .plain (.op 6 .plain (.op 7 .held (.op 8 .plain (.op 9 .plain (.op 10 .plain (.op 11 .plain .nil)))))))))))) Kk [9,10] ?_
   |with_reducible refine Tri.drawH tok mixed [0,1,2,6,7,8,9,10,27,44] 9 [4,8] (.op 0 .plain (.op 1 .plain (.op 2 .plain (.op 3 .plain (.op 4 .held (.op 5 .plain (.op 6 .plain (.op 7 .plain (.op 8 .held (.op 9 .plain (.op 10 .plain (.op 11 .plain (.op 12 .plain .nil))))))))))))) Kk [9,10] ?_
   |simp -dsimp -implicitDefEqProofs (disch:=first|exact Kd|fail) only[go_sem,↓reduceIte,seval]
  refine zo5 n j bu bt cap _ many sp hu' hn (fun t2 up2 htn2 hj0 hjn hu2 hr2 hm2 hroot2=>?_) (fun ho=>?_)
  ·have hr1:=hroot2 t hr
   have jn:(∀x y:Nat,((x=t∧y=t2)∨(x=t2∧y=t))→t≠t2→ ∀many',R (.bool true) G ([(bu, .cells [.slice (some ⟨bt,0,none⟩) n cap, .int .i64 ((zde n m:Int) - 1)] [] 108),(bt, .cells (zaN n (upd up2 y x) (upd least x (min (least x) (least y))) many') sp 110)]++H)):=fun x y hxy hne many'=>by
    have hmt:m t≠m t2:=fun e=>hne (hu2.root t t2 htn htn2 hr1 hr2 e)
    have hj:zbR n m i j=(zaK m t t2,true):=by
     unfold zbR
     rw[if_pos ⟨hi0,hin,hj0,hjn,by rw[←hm,←hm2];exact hmt⟩,zwV hm hm2]
    rw[hj] at hR
    have hc:=zo6 hu2 htn htn2 hmt
    rw[show(zde n m:Int) - 1=(zde n (zaK m t t2):Int) by omega]
    rcases hxy with ⟨rfl,rfl⟩| ⟨rfl,rfl⟩
    ·exact hR [_,_] ⟨hn,bu,bt,cap,_,_,_,_,_,sp,rfl,rfl,hu2.join htn htn2 hr1 hr2 hmt⟩
    ·have:=hu2.join htn2 htn hr2 hr1 (Ne.symm hmt)
     rw[zsA] at this
     exact hR [_,_] ⟨hn,bu,bt,cap,_,_,_,_,_,sp,rfl,rfl,this⟩
   repeat' first
    |with_reducible first|refine Nx.go ?_ |refine Bk.go (fun _=>?_) fun _=>?_ |refine Nb fun nb hnb hnb1 hnb2=>?_
    |with_reducible refine Tri.drawM tok mixed [0,1,2,6,7,8,9,10,27,44] 4 [3,7,11,15] (.op 0 .plain (.op 1 .plain (.op 2 .plain (.op 3 .held (.op 4 .plain (.op 5 .plain (.op 6 .plain (.op 7 .held (.op 8 .plain (.op 9 .plain (.op 10 .plain (.op 11 .held (.op 12 .plain (.op 13 .plain (.op 14 .plain (.op 15 .held (.op 16 .plain .nil))))))))))))))))) Kk _ (List.Sublist.refl _) ?_
    |with_reducible refine Tri.drawH tok mixed [0,1,2,6,7,8,9,10,27,44] 6 [3,9] (.op 0 .plain (.op 1 .plain (.op 2 .plain (.op 3 .held (.op 4 .plain (.op 5 .plain (.op 6 .plain (.op 7 .plain (.op 8 .plain (.op 9 .held (.op 10 .plain (.op 11 .plain (.op 12 .plain (.op 13 .plain .nil)))))))))))))) Kk [0] ?_
    |with_reducible refine Tri.drawH tok mixed [0,1,2,6,7,8,9,10,27,44] 8 [3,7] (.op 0 .plain (.op 1 .plain (.op 2 .plain (.op 3 .held (.op 4 .plain (.op 5 .plain (.op 6 .plain (.op 7 .held (.op 8 .plain (.op 9 .plain (.op 10 .plain (.op 11 .plain .nil)))))))))))) Kk [9,10] ?_
    |with_reducible refine Tri.drawH tok mixed [0,1,2,6,7,8,9,10,27,44] 9 [4,8] (.op 0 .plain (.op 1 .plain (.op 2 .plain (.op 3 .plain (.op 4 .held (.op 5 .plain (.op 6 .plain (.op 7 .plain (.op 8 .held (.op 9 .plain (.op 10 .plain (.op 11 .plain (.op 12 .plain .nil))))))))))))) Kk [9,10] ?_
    |simp -dsimp -implicitDefEqProofs (disch:=first|exact Kd|fail) only[go_sem,↓reduceIte,seval,zjF,zqU,zqV,zqW,zqX,zqY,zdd,zwU]
   ·rename_i e
    rw[zkO (fun h=>h.2.2.2.2 (by rw[←hm,←hm2,show t=t2 by omega]))] at hR
    all_goals refine Upd.finL ?_ (hR [_,_] ⟨hn,bu,bt,cap,up2,least,rank,B,many,sp,rfl,rfl,hu2⟩) ?_
    any_goals first|exact Ks|skip
    rfl
   ·exact Upd.fin (jn t2 t (.inr ⟨rfl,rfl⟩) Ko _) rfl
   ·exact Upd.fin (jn t t2 (.inl ⟨rfl,rfl⟩) Ko _) rfl
  ·repeat' first
    |with_reducible first|refine Nx.go ?_ |refine Bk.go (fun _=>?_) fun _=>?_ |refine Nb fun nb hnb hnb1 hnb2=>?_
    |with_reducible refine Tri.drawM tok mixed [0,1,2,6,7,8,9,10,27,44] 4 [3,7,11,15] (.op 0 .plain (.op 1 .plain (.op 2 .plain (.op 3 .held (.op 4 .plain (.op 5 .plain (.op 6 .plain (.op 7 .held (.op 8 .plain (.op 9 .plain (.op 10 .plain (.op 11 .held (.op 12 .plain (.op 13 .plain (.op 14 .plain (.op 15 .held (.op 16 .plain .nil))))))))))))))))) Kk _ (List.Sublist.refl _) ?_
    |with_reducible refine Tri.drawH tok mixed [0,1,2,6,7,8,9,10,27,44] 6 [3,9] (.op 0 .plain (.op 1 .plain (.op 2 .plain (.op 3 .held (.op 4 .plain (.op 5 .plain (.op 6 .plain (.op 7 .plain (.op 8 .plain (.op 9 .held (.op 10 .plain (.op 11 .plain (.op 12 .plain (.op 13 .plain .nil)))))))))))))) Kk [0] ?_
    |with_reducible refine Tri.drawH tok mixed [0,1,2,6,7,8,9,10,27,44] 8 [3,7] (.op 0 .plain (.op 1 .plain (.op 2 .plain (.op 3 .held (.op 4 .plain (.op 5 .plain (.op 6 .plain (.op 7 .held (.op 8 .plain (.op 9 .plain (.op 10 .plain (.op 11 .plain .nil)))))))))))) Kk [9,10] ?_
    |with_reducible refine Tri.drawH tok mixed [0,1,2,6,7,8,9,10,27,44] 9 [4,8] (.op 0 .plain (.op 1 .plain (.op 2 .plain (.op 3 .plain (.op 4 .held (.op 5 .plain (.op 6 .plain (.op 7 .plain (.op 8 .held (.op 9 .plain (.op 10 .plain (.op 11 .plain (.op 12 .plain .nil))))))))))))) Kk [9,10] ?_
    |simp -dsimp -implicitDefEqProofs (disch:=first|exact Kd|fail) only[go_sem,↓reduceIte,seval]
   rw[zkO Ko] at hR
   all_goals refine Upd.finL ?_ (hR [_,_] ⟨hn,bu,bt,cap,up',least,rank,B,many,sp,rfl,rfl,hu'⟩) ?_
   any_goals first|exact Ks|skip
   rfl
 ·rw[zkO Ko] at hR
  repeat' first
   |with_reducible first|refine Nx.go ?_ |refine Bk.go (fun _=>?_) fun _=>?_ |refine Nb fun nb hnb hnb1 hnb2=>?_
   |with_reducible refine Tri.drawM tok mixed [0,1,2,6,7,8,9,10,27,44] 4 [3,7,11,15] (.op 0 .plain (.op 1 .plain (.op 2 .plain (.op 3 .held (.op 4 .plain (.op 5 .plain (.op 6 .plain (.op 7 .held (.op 8 .plain (.op 9 .plain (.op 10 .plain (.op 11 .held (.op 12 .plain (.op 13 .plain (.op 14 .plain (.op 15 .held (.op 16 .plain .nil))))))))))))))))) Kk _ (List.Sublist.refl _) ?_
   |with_reducible refine Tri.drawH tok mixed [0,1,2,6,7,8,9,10,27,44] 6 [3,9] (.op 0 .plain (.op 1 .plain (.op 2 .plain (.op 3 .held (.op 4 .plain (.op 5 .plain (.op 6 .plain (.op 7 .plain (.op 8 .plain (.op 9 .held (.op 10 .plain (.op 11 .plain (.op 12 .plain (.op 13 .plain .nil)))))))))))))) Kk [0] ?_
   |with_reducible refine Tri.drawH tok mixed [0,1,2,6,7,8,9,10,27,44] 8 [3,7] (.op 0 .plain (.op 1 .plain (.op 2 .plain (.op 3 .held (.op 4 .plain (.op 5 .plain (.op 6 .plain (.op 7 .held (.op 8 .plain (.op 9 .plain (.op 10 .plain (.op 11 .plain .nil)))))))))))) Kk [9,10] ?_
   |with_reducible refine Tri.drawH tok mixed [0,1,2,6,7,8,9,10,27,44] 9 [4,8] (.op 0 .plain (.op 1 .plain (.op 2 .plain (.op 3 .plain (.op 4 .held (.op 5 .plain (.op 6 .plain (.op 7 .plain (.op 8 .held (.op 9 .plain (.op 10 .plain (.op 11 .plain (.op 12 .plain .nil))))))))))))) Kk [9,10] ?_
   |simp -dsimp -implicitDefEqProofs (disch:=first|exact Kd|fail) only[go_sem,↓reduceIte,seval]
  refine zo5 n j bu bt cap _ many sp hu hn (fun t2 up2 htn2 hj0 hjn hu2 hr2 hm2 hroot2=>?_) (fun ho=>?_)
  ·repeat' first
    |with_reducible first|refine Nx.go ?_ |refine Bk.go (fun _=>?_) fun _=>?_ |refine Nb fun nb hnb hnb1 hnb2=>?_
    |with_reducible refine Tri.drawM tok mixed [0,1,2,6,7,8,9,10,27,44] 4 [3,7,11,15] (.op 0 .plain (.op 1 .plain (.op 2 .plain (.op 3 .held (.op 4 .plain (.op 5 .plain (.op 6 .plain (.op 7 .held (.op 8 .plain (.op 9 .plain (.op 10 .plain (.op 11 .held (.op 12 .plain (.op 13 .plain (.op 14 .plain (.op 15 .held (.op 16 .plain .nil))))))))))))))))) Kk _ (List.Sublist.refl _) ?_
    |with_reducible refine Tri.drawH tok mixed [0,1,2,6,7,8,9,10,27,44] 6 [3,9] (.op 0 .plain (.op 1 .plain (.op 2 .plain (.op 3 .held (.op 4 .plain (.op 5 .plain (.op 6 .plain (.op 7 .plain (.op 8 .plain (.op 9 .held (.op 10 .plain (.op 11 .plain (.op 12 .plain (.op 13 .plain .nil)))))))))))))) Kk [0] ?_
    |with_reducible refine Tri.drawH tok mixed [0,1,2,6,7,8,9,10,27,44] 8 [3,7] (.op 0 .plain (.op 1 .plain (.op 2 .plain (.op 3 .held (.op 4 .plain (.op 5 .plain (.op 6 .plain (.op 7 .held (.op 8 .plain (.op 9 .plain (.op 10 .plain (.op 11 .plain .nil)))))))))))) Kk [9,10] ?_
    |with_reducible refine Tri.drawH tok mixed [0,1,2,6,7,8,9,10,27,44] 9 [4,8] (.op 0 .plain (.op 1 .plain (.op 2 .plain (.op 3 .plain (.op 4 .held (.op 5 .plain (.op 6 .plain (.op 7 .plain (.op 8 .held (.op 9 .plain (.op 10 .plain (.op 11 .plain (.op 12 .plain .nil))))))))))))) Kk [9,10] ?_
    |simp -dsimp -implicitDefEqProofs (disch:=first|exact Kd|fail) only[go_sem,↓reduceIte,seval]
   all_goals refine Upd.finL ?_ (hR [_,_] ⟨hn,bu,bt,cap,up2,least,rank,B,many,sp,rfl,rfl,hu2⟩) ?_
   any_goals first|exact Ks|skip
   rfl
  ·repeat' first
    |with_reducible first|refine Nx.go ?_ |refine Bk.go (fun _=>?_) fun _=>?_ |refine Nb fun nb hnb hnb1 hnb2=>?_
    |with_reducible refine Tri.drawM tok mixed [0,1,2,6,7,8,9,10,27,44] 4 [3,7,11,15] (.op 0 .plain (.op 1 .plain (.op 2 .plain (.op 3 .held (.op 4 .plain (.op 5 .plain (.op 6 .plain (.op 7 .held (.op 8 .plain (.op 9 .plain (.op 10 .plain (.op 11 .held (.op 12 .plain (.op 13 .plain (.op 14 .plain (.op 15 .held (.op 16 .plain .nil))))))))))))))))) Kk _ (List.Sublist.refl _) ?_
    |with_reducible refine Tri.drawH tok mixed [0,1,2,6,7,8,9,10,27,44] 6 [3,9] (.op 0 .plain (.op 1 .plain (.op 2 .plain (.op 3 .held (.op 4 .plain (.op 5 .plain (.op 6 .plain (.op 7 .plain (.op 8 .plain (.op 9 .held (.op 10 .plain (.op 11 .plain (.op 12 .plain (.op 13 .plain .nil)))))))))))))) Kk [0] ?_
    |with_reducible refine Tri.drawH tok mixed [0,1,2,6,7,8,9,10,27,44] 8 [3,7] (.op 0 .plain (.op 1 .plain (.op 2 .plain (.op 3 .held (.op 4 .plain (.op 5 .plain (.op 6 .plain (.op 7 .held (.op 8 .plain (.op 9 .plain (.op 10 .plain (.op 11 .plain .nil)))))))))))) Kk [9,10] ?_
    |with_reducible refine Tri.drawH tok mixed [0,1,2,6,7,8,9,10,27,44] 9 [4,8] (.op 0 .plain (.op 1 .plain (.op 2 .plain (.op 3 .plain (.op 4 .held (.op 5 .plain (.op 6 .plain (.op 7 .plain (.op 8 .held (.op 9 .plain (.op 10 .plain (.op 11 .plain (.op 12 .plain .nil))))))))))))) Kk [9,10] ?_
    |simp -dsimp -implicitDefEqProofs (disch:=first|exact Kd|fail) only[go_sem,↓reduceIte,seval]
   all_goals refine Upd.finL ?_ (hR [_,_] ⟨hn,bu,bt,cap,up,least,rank,B,many,sp,rfl,rfl,hu⟩) ?_
   any_goals first|exact Ks|skip
   rfl
theorem zuP {i:Nat} {cs:List Value}:zf (zaN i id id (fun _=>1)++cs) (i * 3) [.int .i64 i, .int .i64 i, .int .i64 1]=zaN (i+1) id id (fun _=>1)++cs.drop 3:=by
 have hl:=zdd i id id (fun _=>1)
 unfold zf
 rw[List.take_append_of_le_length Ko,List.take_of_length_le Ko,zg1]
 congr 1
 show List.drop (i * 3+3) _=_
 rw[←hl,List.drop_append,List.drop_eq_nil_of_le Ko,List.nil_append,Nat.add_sub_cancel_left]
theorem zuQ (n:Int) (h:n≤9223372036854775807) {G:za} {H:zb} {R:Value→za→zb→Prop}
  (h1: ∀hb bu,0≤n→n≤1048576→Sep G (zm (hb++H))→zgw hb (.pointer (some ⟨bu,0,none⟩)) n.toNat id→R (.tuple #[.pointer (some ⟨bu,0,none⟩), .int .i64 0]) G (hb++H))
  (h2:(n<0∨1048576<n)→R (.tuple #[.pointer none, .int .i64 2]) G H):FnT Tryz.prog 50 [.int .i64 n] G H R:=by
 refine FnT.sep ?_
 refine FnT.body tok [0,2,3,4,5,11,21,22,23] Tryz.func50 rfl Kk Kk (by show _≤36;simp) fun hsep=>?_
 rw[Tryz.results50]
 have hE:=hsep
 try simp only[zzs] at hE
 repeat(obtain⟨hx',hE⟩:=hE)
 repeat' first
  |with_reducible first|refine Nx.go ?_ |refine Bk.go (fun _=>?_) fun _=>?_ |refine Nb fun nb hnb hnb1 hnb2=>?_ |refine Nr fun nb nsp ncap hnb hncap hnb1 hnb2=>?_
  |simp -dsimp -implicitDefEqProofs (disch:=first|exact Kd|fail) only[go_sem,↓reduceIte,seval]
 ·all_goals refine Upd.finL ?_ (fun _ _=>h2 Ko) ?_
  any_goals first|exact Ks|skip
  rfl
 ·all_goals refine Upd.finL ?_ (fun _ _=>h2 Ko) ?_
  any_goals first|exact Ks|skip
  rfl
 ·rename_i bt hbt hbt1 hbt2
  refine Tri.loopU tok [0,2,3,4,5,11,21,22,23] Kk [0,2,3,4,21,22] (fun q G' fr H'=> ∃ (i:Nat) (cs sp:List Value),i+q=n.toNat∧G'=G∧cs.length=q * 3∧H'=(nb, .cells [.slice (some ⟨bt,0,none⟩) n.toNat n.toNat, .int .i64 n] [] 108):: (bt, .cells (zaN i id id (fun _=>1)++cs) sp 110)::H∧fr=[(0, .int .i64 n),(2, .pointer none),(3, .int .i64 0),(4, .pointer (some ⟨nb,0,none⟩)),(21, .int .i64 n.toNat),(22, .int .i64 i)]) (n.toNat) (Upd.now ?_) ?_
  ·exact⟨0,_,_,by omega,rfl,by simp,rfl,rfl⟩
  ·rintro q G' fr H' hle hs ⟨i,cs,sp,hi,rfl,hc,rfl,rfl⟩
   have hE:=hs
   try simp only[zzs] at hE
   repeat(obtain⟨hx',hE⟩:=hE)
   have hrl:=zdd i id id (fun _=>1)
   have hal:(zaN i id id (fun _=>1)++cs).length=n.toNat * 3:=by rw[List.length_append];omega
   by_cases hq:0<q
   ·repeat' first
     |with_reducible first|refine Nx.go ?_ |refine Bk.go (fun _=>?_) fun _=>?_ |refine Nb fun nb hnb hnb1 hnb2=>?_ |refine Nr fun nb nsp ncap hnb hncap hnb1 hnb2=>?_
     |simp -dsimp -implicitDefEqProofs (disch:=first|exact Kd|fail) only[go_sem,↓reduceIte,seval,hal,zuP]
    refine Upd.now ⟨q - 1,by omega,i+1,cs.drop 3,sp,by omega,rfl,by rw[List.length_drop];omega,rfl,rfl⟩
   ·obtain rfl:q=0:=by omega
    obtain rfl:cs=[]:=List.eq_nil_of_length_eq_zero Ko
    obtain rfl:i=n.toNat:=by omega
    have hc:zde n.toNat id=n.toNat:=by unfold zde;simp
    repeat' first
     |with_reducible first|refine Nx.go ?_ |refine Bk.go (fun _=>?_) fun _=>?_ |refine Nb fun nb hnb hnb1 hnb2=>?_ |refine Nr fun nb nsp ncap hnb hncap hnb1 hnb2=>?_
     |simp -dsimp -implicitDefEqProofs (disch:=first|exact Kd|fail) only[go_sem,↓reduceIte,seval]
    refine Upd.now fun _ hs2=>h1 [_,_] nb Ko Ko hs2 ⟨by omega,nb,bt,n.toNat,id,id,fun _=>0,0,fun _=>1,sp,rfl,by rw[hc,show((n.toNat:Nat):Int)=n by omega],UInv.new _⟩
end Go.Proofs.YtomdbjfdbkejoaaGreatDoor
namespace Go.Proofs.YtomdbjfdbkejoaaGreatDoor
open Go Go.V Go.Proofs
structure CInv (a b:DfaT) (m:Nat→Nat) (D W:Nat×Nat→Prop):Prop where
 wrd: ∀p:Nat×Nat,D p∨W p→ ∃w,zaj a w=(p.1:Nat)∧zaj b w=(p.2:Nat)
 nam: ∀p:Nat×Nat,D p→zaT a (atL a.label (p.1:Nat))=zaT b (atL b.label (p.2:Nat))
 stp: ∀p:Nat×Nat,D p→ ∀c:Nat,c<256→m (toD a (p.1:Nat) c).toNat=m (a.label.length+(toD b (p.2:Nat) c).toNat)
 gen: ∀E:Nat→Nat→Prop,(∀x,E x x)→(∀x y,E x y→E y x)→(∀x y z,E x y→E y z→E x z)→(∀p:Nat×Nat,D p∨W p→E p.1 (a.label.length+p.2))→ ∀x y,m x=m y→E x y
theorem CInv.zero (a b:DfaT):CInv a b id (fun _=>False) (fun _=>False):=
 ⟨fun p h=>by rcases h with h|h <;> exact h.elim,fun p h=>h.elim,fun p h=>h.elim,fun E h1 _ _ _ x y e=>by cases e;exact h1 _⟩
theorem zin {m:Nat→Nat} {x y:Nat} (i j:Nat) (h:m x=m y):zaK m i j x=zaK m i j y:=by unfold zaK;rw[h]
theorem zlM (m:Nat→Nat) (i j:Nat):zaK m i j i=zaK m i j j:=by
 unfold zaK
 split <;> split <;> omega
theorem zqg {m:Nat→Nat} {i j x y:Nat} (h:zaK m i j x=zaK m i j y):m x=m y∨(m x=m i∧m y=m j)∨(m x=m j∧m y=m i):=by
 unfold zaK at h
 split at h <;> split at h <;> omega
theorem CInv.push {a b:DfaT} {m:Nat→Nat} {D W:Nat×Nat→Prop} (h:CInv a b m D W) {s t:Nat} (hw: ∃w,zaj a w=(s:Nat)∧zaj b w=(t:Nat)):CInv a b (zaK m s (a.label.length+t)) D (fun q=>W q∨q=(s,t)):=by
 refine⟨fun p hp=>?_,h.nam,fun p hp c hc=>zin _ _ (h.stp p hp c hc),fun E h1 h2 h3 h4 x y e=>?_⟩
 ·rcases hp with hp|hp|rfl
  ·exact h.wrd p (.inl hp)
  ·exact h.wrd p (.inr hp)
  ·exact hw
 ·have g:=h.gen E h1 h2 h3 fun p hp=>h4 p (hp.elim .inl fun q=> .inr (.inl q))
  have k:=h4 (s,t) (.inr (.inr rfl))
  rcases zqg e with e| ⟨e1,e2⟩| ⟨e1,e2⟩
  ·exact g _ _ e
  ·exact h3 _ _ _ (g _ _ e1) (h3 _ _ _ k (h2 _ _ (g _ _ e2)))
  ·exact h3 _ _ _ (g _ _ e1) (h3 _ _ _ (h2 _ _ k) (h2 _ _ (g _ _ e2)))
theorem CInv.done {a b:DfaT} {m:Nat→Nat} {D W W':Nat×Nat→Prop} (h:CInv a b m D W) {p:Nat×Nat} (hp:W p) (hW: ∀q,W q↔W' q∨q=p) (hn:zaT a (atL a.label (p.1:Nat))=zaT b (atL b.label (p.2:Nat))) (hs: ∀c:Nat,c<256→m (toD a (p.1:Nat) c).toNat=m (a.label.length+(toD b (p.2:Nat) c).toNat)):CInv a b m (fun q=>D q∨q=p) W':=by
 have key: ∀q,(D q∨q=p)∨W' q→D q∨W q:=fun q hq=>by
  rcases hq with (hq|rfl)|hq
  ·exact .inl hq
  ·exact .inr hp
  ·exact .inr ((hW q).2 (.inl hq))
 refine⟨fun q hq=>h.wrd q (key q hq),fun q hq=>?_,fun q hq=>?_,fun E h1 h2 h3 h4=>h.gen E h1 h2 h3 fun q hq=>h4 q ?_⟩
 ·rcases hq with hq|rfl
  ·exact h.nam q hq
  ·exact hn
 ·rcases hq with hq|rfl
  ·exact h.stp q hq
  ·exact hs
 ·rcases hq with hq|hq
  ·exact .inl (.inl hq)
  ·rcases(hW q).1 hq with hq|hq
   ·exact .inr hq
   ·exact .inl (.inr hq)
theorem CInv.mono {a b:DfaT} {m:Nat→Nat} {D W W':Nat×Nat→Prop} (h:CInv a b m D W) (hW: ∀q,W q↔W' q):CInv a b m D W':=by
 have:W=W':=funext fun q=>propext (hW q)
 rwa [←this]
def nmX (a b:DfaT) (x:Nat):Tx:=if x<a.label.length then zaT a (atL a.label (x:Nat)) else zaT b (atL b.label ((x - a.label.length:Nat):Int))
def stX (a b:DfaT) (x c:Nat):Nat:=if x<a.label.length then(toD a (x:Nat) c).toNat else a.label.length+(toD b ((x - a.label.length:Nat):Int) c).toNat
theorem CInv.all {a b:DfaT} (ha:zc a) (hb:zc b) (fa:a.of.length=256) (fb:b.of.length=256) {m:Nat→Nat} {D W:Nat×Nat→Prop} (h:CInv a b m D W) (hW: ∀q,¬W q) (h0:m 0=m a.label.length) (w:List UInt8):zaD a w=zaD b w:=by
 have na: ∀ {x:Nat},x<a.label.length→nmX a b x=zaT a (atL a.label (x:Nat))∧ ∀c,stX a b x c=(toD a (x:Nat) c).toNat:=fun hx=>⟨if_pos hx,fun c=>if_pos hx⟩
 have nb: ∀y:Nat,nmX a b (a.label.length+y)=zaT b (atL b.label (y:Nat))∧ ∀c,stX a b (a.label.length+y) c=a.label.length+(toD b (y:Nat) c).toNat:=fun y=>by
  refine⟨?_,fun c=>?_⟩
  ·unfold nmX;rw[if_neg Ko,Nat.add_sub_cancel_left]
  ·unfold stX;rw[if_neg Ko,Nat.add_sub_cancel_left]
 have g:=h.gen (fun x y=>nmX a b x=nmX a b y∧ ∀c,c<256→m (stX a b x c)=m (stX a b y c)) (fun x=>⟨rfl,fun _ _=>rfl⟩) (fun x y e=>⟨e.1.symm,fun c hc=>(e.2 c hc).symm⟩) (fun x y z e f=>⟨e.1.trans f.1,fun c hc=>(e.2 c hc).trans (f.2 c hc)⟩) fun p hp=>by
  have hD:D p:=hp.elim id fun q=>absurd q (hW p)
  obtain⟨u,e1,e2⟩:=h.wrd p hp
  have hu:=za6 ha fa u
  have hx:p.1<a.label.length:=by omega
  refine⟨?_,fun c hc=>?_⟩
  ·rw[(na hx).1,(nb p.2).1];exact h.nam p hD
  ·rw[(na hx).2,(nb p.2).2];exact h.stp p hD c hc
 have key:m (zaj a w).toNat=m (a.label.length+(zaj b w).toNat):=by
  induction w using zgI with
  |h0=>exact h0
  |h1 w c ih=>
   obtain⟨x0,x1⟩:=za6 ha fa w
   obtain⟨y0,y1⟩:=za6 hb fb w
   have:=(g _ _ ih).2 c.toNat c.toNat_lt
   rw[(na Ko).2,(nb _).2,show(((zaj a w).toNat:Nat):Int)=zaj a w by omega,show(((zaj b w).toNat:Nat):Int)=zaj b w by omega] at this
   rw[zdD,zdD]
   exact this
 obtain⟨x0,x1⟩:=za6 ha fa w
 obtain⟨y0,y1⟩:=za6 hb fb w
 have:=(g _ _ key).1
 rw[(na Ko).1,(nb _).1,show(((zaj a w).toNat:Nat):Int)=zaj a w by omega,show(((zaj b w).toNat:Nat):Int)=zaj b w by omega] at this
 exact this
theorem CInv.not {a b:DfaT} {m:Nat→Nat} {D W:Nat×Nat→Prop} (h:CInv a b m D W) {p:Nat×Nat} (hp:W p) (hn:zaT a (atL a.label (p.1:Nat))≠zaT b (atL b.label (p.2:Nat))): ¬ ∀w,zaD a w=zaD b w:=fun e=>by
 obtain⟨u,e1,e2⟩:=h.wrd p (.inr hp)
 have:=e u
 unfold zaD zX at this
 rw[e1,e2] at this
 exact hn this
def zkP (a b:DfaT) (low:List Int):Prop:=(∀k∈low,0≤k∧k<256)∧ ∀c:Nat,c<256→ ∃k:Nat,(k:Int)∈low∧a.of.getD c 0=a.of.getD k 0∧b.of.getD c 0=b.of.getD k 0
theorem zkP.step {a b:DfaT} {low:List Int} (h:zkP a b low) {m:Nat→Nat} {s t:Nat} (hs: ∀k:Nat,(k:Int)∈low→m (toD a (s:Nat) k).toNat=m (a.label.length+(toD b (t:Nat) k).toNat)): ∀c:Nat,c<256→m (toD a (s:Nat) c).toNat=m (a.label.length+(toD b (t:Nat) c).toNat):=fun c hc=>by
 obtain⟨k,hk,e1,e2⟩:=h.2 c hc
 have g:=hs k hk
 unfold toD at g⊢
 rw[e1,e2]
 exact g
theorem zm8 {l:List Int} {c:Nat} (hc:c<l.length): ∃ (k:Nat) (h:k<l.length),(k:Int)∈zag l∧l[k]=l[c]:=by
 obtain⟨k,hk⟩:=zab (List.getElem_mem hc)
 obtain⟨h1,h2⟩:=z6 hk
 rw[List.getElem?_eq_getElem h1,Option.some.injEq] at h2
 exact⟨k,h1,List.mem_map.2 ⟨l[c],(zN l).2 (List.getElem_mem hc),zH hk⟩,h2⟩
theorem zm9 {l:List Int} (hl:l.length=256): ∀k∈zag l,0≤k∧k<256:=fun k hk=>by
 obtain⟨x,hx,rfl⟩:=List.mem_map.1 hk
 obtain⟨n,hn⟩:=zab ((zN l).1 hx)
 have:=(z6 hn).1
 rw[zH hn]
 omega
theorem zf3 {l:List Int} {c:Nat} (h:c<l.length):l.getD c 0=l[c]:=by rw[List.getD_eq_getElem?_getD,List.getElem?_eq_getElem h];rfl
theorem zyy {a b:DfaT} (fa:a.of.length=256) (e:a.of=b.of):zkP a b (zag a.of):=⟨zm9 fa,fun c hc=>by
 obtain⟨k,hk,h1,h2⟩:=zm8 (l:=a.of) (c:=c) Ko
 have:a.of.getD c 0=a.of.getD k 0:=by rw[zf3 Ko,zf3 hk,h2]
 exact⟨k,h1,this,by rw[←e];exact this⟩⟩
theorem zyz {a b:DfaT} (fa:a.of.length=256) (fb:b.of.length=256):zkP a b (zag (zg (a.of.zip b.of))):=by
 have hz:(a.of.zip b.of).length=256:=by rw[List.length_zip];omega
 have hn:(zg (a.of.zip b.of)).length=256:=by rw[zr,hz]
 refine⟨zm9 hn,fun c hc=>?_⟩
 obtain⟨k,hk,h1,h2⟩:=zm8 (l:=zg (a.of.zip b.of)) (c:=c) Ko
 have h3:=(zcF Ko Ko).1 h2
 rw[List.getElem_zip,List.getElem_zip,Prod.mk.injEq] at h3
 refine⟨k,h1,?_,?_⟩
 ·rw[zf3 Ko,zf3 Ko];exact h3.1.symm
 ·rw[zf3 Ko,zf3 Ko];exact h3.2.symm
end Go.Proofs.YtomdbjfdbkejoaaGreatDoor
namespace Go.Proofs.YtomdbjfdbkejoaaGreatDoor
open Go Go.V Go.Proofs
def zmm (p:Int×Int):Value:= .agg #[.int .u8 p.1, .int .u8 p.2]
theorem heB:zeB T 104 zmm:=zlb (T:=T) (t:=104) (e:=5) (k:= .u8) rfl rfl rfl
def zch (l:List (Int×Int)) (i:Nat):List Int:=zg (l.take i)++List.replicate (256 - i) 0
theorem zna {l:List (Int×Int)} (hl:l.length=256) {i:Nat} (hi:i≤256):(zch l i).length=256:=by
 unfold zch;rw[List.length_append,zr,List.length_take,List.length_replicate];omega
theorem znb {l:List (Int×Int)} (hl:l.length=256) {i:Nat} (hi:i<256) {n:Int} (h:zg (l.take (i+1))=zg (l.take i)++[n]):zf (u8L (zch l i)) i [.int .u8 n]=u8L (zch l (i+1)):=by
 have hn:(zg (l.take i)).length=i:=by rw[zr,List.length_take];omega
 unfold zf zch u8L
 rw[h,List.map_append,List.map_append,List.map_append,List.map_replicate,List.map_replicate,show 256 - i=(256 - (i+1))+1 by omega,List.replicate_succ]
 rw[List.take_append_of_le_length (by rw[List.length_map];omega),List.take_of_length_le (by rw[List.length_map];omega)]
 rw[List.drop_append,List.drop_of_length_le (by rw[List.length_map];simp;omega)]
 simp [hn]
theorem zsB (l:List (Int×Int)):List.replicate 256 (Value.int .u8 0)=u8L (zch l 0):=by
 unfold zch u8L;rw[List.take_zero,zkh,List.nil_append,List.map_replicate]
theorem zuR {l:List (Int×Int)} (hl:l.length=256):zch l 256=zg l:=by
 unfold zch;rw[←hl,List.take_length];simp
theorem zo7 {xs ys:List Int} {b1 b2 i:Nat} (hx:xs.length=256) (hy:ys.length=256) {l:List (Int×Int)} (hl:l=xs.zip ys) (hi:i<l.length) {G:za} {H:zb} {R:Value→za→zb→Prop}
  (h1:Row G (some ⟨b1,0,none⟩) (u8L xs)) (h2:Row G (some ⟨b2,0,none⟩) (u8L ys)) (hR:R (zmm l[i]) G H):FnT Tryz.prog 82 [.int .i64 (i:Nat), .pointer (some ⟨b1,0,none⟩), .pointer (some ⟨b2,0,none⟩)] G H R:=by
 have hi2:=hi
 rw[hl,List.length_zip] at hi2
 have hi3:i< (u8L xs).length:=by rw[List.length_map];omega
 have hi4:i< (u8L ys).length:=by rw[List.length_map];omega
 have e1:l[i].1=xs[i]'Ko:=by simp [hl]
 have e2:l[i].2=ys[i]'Ko:=by simp [hl]
 have hR:R (.agg #[.int .u8 l[i].1, .int .u8 l[i].2]) G H:=hR
 rw[e1,e2] at hR
 have g1: ∀ (H:zb) (k:Value→Prop),zez G H b1 (G b1) i k=k (.int .u8 (xs[i]'Ko)):=fun H k=>by
  have:=h1.obj hi3 H k
  rw[List.getElem_map] at this
  simpa [blk,ofs] using this
 have g2: ∀ (H:zb) (k:Value→Prop),zez G H b2 (G b2) i k=k (.int .u8 (ys[i]'Ko)):=fun H k=>by
  have:=h2.obj hi4 H k
  rw[List.getElem_map] at this
  simpa [blk,ofs] using this
 have hr2:List.replicate 2 (Value.int .u8 0)=[Value.int .u8 0,Value.int .u8 0]:=rfl
 refine FnT.body tok [0,1,2,4] Tryz.func82 rfl Kk Kk (by show _≤12;simp) fun hsep=>?_
 rw[Tryz.results82]
 have hE:=hsep
 try simp only[zzs] at hE
 repeat(obtain⟨hx',hE⟩:=hE)
 repeat' first
  |with_reducible first|refine Nx.go ?_ |refine Bk.go (fun _=>?_) fun _=>?_ |refine Nb fun nb hnb hnb1 hnb2=>?_ |refine Nr fun nb nsp ncap hnb hncap hnb1 hnb2=>?_
  |simp -dsimp -implicitDefEqProofs (disch:=first|exact Kd|fail) only[go_sem,↓reduceIte,seval, -List.reduceReplicate,List.toList_toArray,hr2,g1,g2]
  |with_reducible refine Tri.drawM tok mixed [0,1,2,4] 1 [2,5] (.op 0 .plain (.op 1 .plain (.op 2 .held (.op 3 .plain (.op 4 .plain (.op 5 .held (.op 6 .plain (.op 7 .plain .nil)))))))) Kk [] (List.nil_sublist _) ?_
 all_goals refine Upd.finL ?_ hR ?_
 any_goals first|exact Ks|skip
 rfl
theorem zzx {xs ys:List Int} (hx:xs.length=256) (hy:ys.length=256) {l:List (Int×Int)} (hlz:l=xs.zip ys) (hl:l.length=256) {b1 b2:Nat} {G:za} {H:zb} {R:Value→za→zb→Prop} (hf:Row G (some ⟨b1,0,none⟩) (u8L xs)) (hf2:Row G (some ⟨b2,0,none⟩) (u8L ys))
  (hR:R (.tuple #[zbO (zg l), .int .i64 (zk l).length]) G H):FnT Tryz.prog 81 [.func (.func 82) #[] #[.pointer (some ⟨b1,0,none⟩), .pointer (some ⟨b2,0,none⟩)]] G H R:=by
 refine FnT.body tok [0,2,3,4,5,6,7,8,9,11,12,24] Tryz.func81 rfl Kk Kk (by show _≤38;simp) fun hsep=>?_
 rw[Tryz.results81]
 have hE:=hsep
 try simp only[zzs] at hE
 repeat(obtain⟨hx',hE⟩:=hE)
 repeat' first
  |with_reducible first|refine Nx.go ?_ |refine Bk.go (fun _=>?_) fun _=>?_ |refine zas.mk (fun _ _=>?_) fun _=>?_ |refine Nb fun nb hnb hnb1 hnb2=>?_ |refine Nr fun nb nsp ncap hnb hncap hnb1 hnb2=>?_
  |simp -dsimp -implicitDefEqProofs (disch:=first|exact Kd|fail) only[go_sem,↓reduceIte,seval, -List.reduceReplicate]
 rename_i c2 hb20 hb21 hb22 b4 hb40 hb41 hb42
 revert nb
 intro bm hbm hbm1 hbm2
 rw[zsB l]
 refine Tri.loopU tok [0,2,3,4,5,6,7,8,9,11,12,24] Kk [0,2,3,4,5,11] (fun q G' fr H'=> ∃ (i:Nat),i+q=256∧G'=G∧H'=(bm, .map ((zbN 0 (zk (l.take i))).map fun p=>(zmm p.1,Value.int .u8 p.2))):: (b4, .cells (u8L (zch l i)) [] 22):: (c2, .cells (u8L (zch l 0)) [] 22)::H∧fr=[(0, .func (.func 82) #[] #[.pointer (some ⟨b1,0,none⟩), .pointer (some ⟨b2,0,none⟩)]),(2, .pointer (some ⟨c2,0,none⟩)),(3, .int .i64 0),(4, .pointer (some ⟨b4,0,none⟩)),(5, .map (some bm)),(11, .int .i64 i)]) (256) ?_ ?_
 ·exact Upd.now ⟨0,by omega,rfl,rfl,rfl⟩
 ·rintro q G1 fr H' hle hs ⟨i,hi,rfl,rfl,rfl⟩
  have hE:=hs
  try simp only[zzs] at hE
  repeat(obtain⟨hx',hE⟩:=hE)
  have htl:=zai (l.take i)
  rw[List.length_take] at htl
  have h8:(zch l i).length=256:=zna hl Ko
  by_cases hil:i<256
  ·have hil2:i<l.length:=by omega
   have htk:=List.take_succ_eq_append_getElem hil2
   have hw:=zeO (n:=(zk (l.take i)).length) Ko
   have hr2:List.replicate 2 (Value.int .u8 0)=[Value.int .u8 0,Value.int .u8 0]:=rfl
   have hel:zmm l[i]= .agg #[.int .u8 l[i].1, .int .u8 l[i].2]:=rfl
   have hfv:=zb2 heB (Value.int .u8) l[i]
   have hpv:=zcB heB (Value.int .u8) l[i]
   have hko:=zb3 heB l[i]
   rw[hel] at hfv hpv hko
   rcases hp:place (zk (l.take i)) l[i] with _|n
   ·have hnn:=zcE hp
    rw[←htk] at hnn
    have hput:=znb hl hil hnn.2
    repeat' first
     |with_reducible first|refine Nx.go ?_ |refine Bk.go (fun _=>?_) fun _=>?_ |refine zas.mk (fun _ _=>?_) fun _=>?_ |refine Nb fun nb hnb hnb1 hnb2=>?_ |refine Nr fun nb nsp ncap hnb hncap hnb1 hnb2=>?_
     |simp -dsimp -implicitDefEqProofs (disch:=first|exact Kd|fail) only[go_sem,↓reduceIte,seval, -List.reduceReplicate,List.toList_toArray,hr2,hel,hfv,hko,zbJ,Option.map_map,hpv,zcD,hp,List.length_map,zbT,hw,hput]
     |with_reducible refine zo7 hx hy hlz hil2 hf hf2 ?_
    rw[←hnn.1]
    exact Upd.leave (H':=(bm, .map ((zbN 0 (zk (l.take (i+1)))).map fun p=>(zmm p.1,Value.int .u8 p.2))):: (b4, .cells (u8L (zch l (i+1))) [] 22):: (c2, .cells (u8L (zch l 0)) [] 22)::H) Ks ⟨q - 1,by omega,i+1,by omega,rfl,rfl,rfl⟩
   ·have hnn:=zc3 hp
    rw[←htk] at hnn
    have hput:=znb hl hil hnn.2
    repeat' first
     |with_reducible first|refine Nx.go ?_ |refine Bk.go (fun _=>?_) fun _=>?_ |refine zas.mk (fun _ _=>?_) fun _=>?_ |refine Nb fun nb hnb hnb1 hnb2=>?_ |refine Nr fun nb nsp ncap hnb hncap hnb1 hnb2=>?_
     |simp -dsimp -implicitDefEqProofs (disch:=first|exact Kd|fail) only[go_sem,↓reduceIte,seval, -List.reduceReplicate,List.toList_toArray,hr2,hel,hfv,hko,zbJ,Option.map_map,hpv,zcD,hp,List.length_map,zbT,hput]
     |with_reducible refine zo7 hx hy hlz hil2 hf hf2 ?_
    rw[←hnn.1]
    exact Upd.leave (H':=(bm, .map ((zbN 0 (zk (l.take (i+1)))).map fun p=>(zmm p.1,Value.int .u8 p.2))):: (b4, .cells (u8L (zch l (i+1))) [] 22):: (c2, .cells (u8L (zch l 0)) [] 22)::H) Ks ⟨q - 1,by omega,i+1,by omega,rfl,by rw[hnn.1],rfl⟩
  ·obtain rfl:i=256:=by omega
   have hnl:(zg l).length=256:=by rw[zr,hl]
   have htake:List.take 256 (u8L (zg l))=u8L (zg l):=List.take_of_length_le (by rw[List.length_map,hnl];omega)
   have h80:(zch l 0).length=256:=zna hl Ko
   have hspl:zf (u8L (zch l 0)) 0 (u8L (zg l))=u8L (zg l):=by
    unfold zf
    rw[List.take_zero,List.nil_append,List.drop_of_length_le (by simp [hnl,h80]),List.append_nil]
   have h256:List.take 256 l=l:=List.take_of_length_le Ko
   rw[zuR hl,h256]
   repeat' first
    |with_reducible first|refine Nx.go ?_ |refine Bk.go (fun _=>?_) fun _=>?_ |refine zas.mk (fun _ _=>?_) fun _=>?_ |refine Nb fun nb hnb hnb1 hnb2=>?_ |refine Nr fun nb nsp ncap hnb hncap hnb1 hnb2=>?_
    |simp -dsimp -implicitDefEqProofs (disch:=first|exact Kd|fail) only[go_sem,↓reduceIte,seval, -List.reduceReplicate,htake,List.length_map,hnl,h80,hspl,zbT]
   all_goals refine Upd.finL ?_ hR ?_
   any_goals first|exact Ks|skip
   rfl
theorem zsC:V.Callee Tryz.prog 81:=⟨_,_,Tryz.func81,rfl,by kernel_rfl⟩
theorem zyA {xs ys:List Int} (hx:xs.length=256) (hy:ys.length=256) {G:za} {H:zb} {R:Value→za→zb→Prop}
  (hR: ∀G',PLe G G'→Sep G' (zm H)→R (.tuple #[zbO (zg (xs.zip ys)), .int .i64 (zk (xs.zip ys)).length]) G' H):FnT Tryz.prog 49 [zbO xs,zbO ys] G H R:=by
 have hz:(xs.zip ys).length=256:=by rw[List.length_zip];omega
 have hnl:(zg (xs.zip ys)).length=256:=by rw[zr,hz]
 have h80:(zbY xs 0).length=256:=zgJ hx Ko
 have hspl:zf (u8L (zbY xs 0)) 0 (u8L (zg (xs.zip ys)))=u8L (zg (xs.zip ys)):=by
  unfold zf
  rw[List.take_zero,List.nil_append,List.drop_of_length_le (by simp [hnl,h80]),List.append_nil]
 have htake:List.take 256 (u8L (zg (xs.zip ys)))=u8L (zg (xs.zip ys)):=List.take_of_length_le (by rw[List.length_map,hnl];omega)
 refine FnT.sep ?_
 refine FnT.body tok [0,1,2,3,4,5] Tryz.func49 rfl Kk Kk (by show _≤10;simp) fun hsep=>?_
 rw[Tryz.results49]
 have hE:=hsep
 try simp only[zzs] at hE
 repeat(obtain⟨hx',hE⟩:=hE)
 repeat' first
  |with_reducible first|refine Nx.go ?_ |refine Bk.go (fun _=>?_) fun _=>?_ |refine Nb fun nb hnb hnb1 hnb2=>?_
  |simp -dsimp -implicitDefEqProofs (disch:=first|exact Kd|fail) only[go_sem,↓reduceIte,seval, -List.reduceReplicate,List.toList_toArray,List.length_map,hx,hy,zfJ xs,hspl,h80,hnl,htake]
 rename_i b1 h10 h11 h12 b2 h20 h21 h22
 obtain⟨b4,e4⟩: ∃x,x=nb:=⟨_,rfl⟩
 subst e4
 refine FnT.pre zsC (Upd.go (H':=(b2, .cells (u8L ys) [] 22):: (b1, .cells (u8L xs) [] 22):: (b4, .cells (u8L (zbY xs 0)) [] 22)::H) Ks (Upd.trans (Upd.shareRow Ka fun G3 hle3 hs3 hr3=>Upd.shareRow hs3.1.1 fun G4 hle4 hs4 hr4=>?_)))
 refine zzx hx hy rfl hz hr4 (hr3.mono hle4) ?_
 have hE:=hs4
 try simp only[zzs] at hE
 repeat(obtain⟨hx',hE⟩:=hE)
 repeat' first
  |with_reducible first|refine Nx.go ?_ |refine Bk.go (fun _=>?_) fun _=>?_ |refine Nb fun nb hnb hnb1 hnb2=>?_
  |simp -dsimp -implicitDefEqProofs (disch:=first|exact Kd|fail) only[go_sem,↓reduceIte,seval, -List.reduceReplicate,List.toList_toArray,List.length_map,hx,hy,zfJ xs,hspl,h80,hnl,htake]
 unfold zv
 refine Upd.leave (H':=H) Ks ?_
 exact fun _ hs=>hR G4 (hle3.trans hle4) hs
end Go.Proofs.YtomdbjfdbkejoaaGreatDoor
namespace Go.Proofs.YtomdbjfdbkejoaaGreatDoor
open Go Go.V Go.Proofs
def zW (C D:List Value) (vl pu vw:Value):List Value:=C++(D++[vl,pu,vw])
section cmpz
variable {C D:List Value} (hC:C.length=260) (hD:D.length=260) {vl pu vw:Value}
include hC hD
theorem zjf:(zW C D vl pu vw).length=523:=by unfold zW;simp [hC,hD]
theorem zwW {i:Nat} (hi:i<260):(zW C D vl pu vw)[i]? =C[i]? :=by unfold zW;rw[List.getElem?_append_left Ko]
theorem zzy {i:Nat} (hi:i<260):(zW C D vl pu vw)[260+i]? =D[i]? :=by
 unfold zW
 rw[List.getElem?_append_right Ko,hC,Nat.add_sub_cancel_left,List.getElem?_append_left Ko]
theorem zwX {i:Nat} (hi:i<3):(zW C D vl pu vw)[520+i]? =[vl,pu,vw][i]? :=by
 unfold zW
 rw[List.getElem?_append_right Ko,List.getElem?_append_right Ko,hC,hD,show 520+i - 260 - 260=i by omega]
theorem zAU:(zW C D vl pu vw)[520]? =some vl:=zwX hC hD (i:=0) Ko
theorem zAV:(zW C D vl pu vw)[521]? =some pu:=zwX hC hD (i:=1) Ko
theorem zzz:(zW C D vl pu vw)[522]? =some vw:=zwX hC hD (i:=2) Ko
theorem zAA:List.take 260 (zW C D vl pu vw)=C:=by unfold zW;rw[List.take_append_of_le_length Ko,List.take_of_length_le Ko]
theorem zAB:List.take 260 (List.drop 260 (zW C D vl pu vw))=D:=by
 unfold zW
 rw[List.drop_append_of_le_length Ko,List.drop_of_length_le Ko,List.nil_append,List.take_append_of_le_length Ko,List.take_of_length_le Ko]
theorem zo8 {i:Nat} (hi:i<3) (x:Value):zf (zW C D vl pu vw) (520+i) [x]=C++(D++zf [vl,pu,vw] i [x]):=by
 unfold zf zW
 rw[List.take_append,List.take_of_length_le Ko,hC,List.take_append,List.take_of_length_le Ko,hD,show 520+i - 260 - 260=i by omega,List.drop_append,List.drop_of_length_le (by simp;omega),hC,List.drop_append,List.drop_of_length_le (by simp;omega),hD,show 520+i+[x].length - 260 - 260=i+[x].length by omega]
 simp
theorem zAC (x:Value):zf (zW C D vl pu vw) 520 [x]=zW C D x pu vw:=zo8 hC hD (i:=0) Ko x
theorem zAD (x:Value):zf (zW C D vl pu vw) 521 [x]=zW C D vl x vw:=zo8 hC hD (i:=1) Ko x
theorem zxe (x:Value):zf (zW C D vl pu vw) 522 [x]=zW C D vl pu x:=zo8 hC hD (i:=2) Ko x
end cmpz
theorem zkQ {n:Nat} {m:Nat→Nat} {s t:Nat} (hs:s<n) (ht:t<n):zbR n m (s:Nat) (t:Nat)=if m s=m t then(m,false) else(zaK m s t,true):=by
 unfold zbR
 simp only[Int.toNat_natCast]
 by_cases h:m s=m t
 ·rw[if_neg (fun g=>g.2.2.2.2 h),if_pos h]
 ·rw[if_pos ⟨by omega,by omega,by omega,by omega,h⟩,if_neg h]
theorem zuS {a:DfaT} {C D:List Value} {G:za} {an al ay:Option Addr} {cn cl cs:Nat} {rs:List Value} (O:OpenD G a C an al ay cn cl cs rs) (hD:D.length=260) {n:Nat} {m:Nat→Nat} {hb:zb} {pu:Value} (hT:zgw hb pu n m) {s t:Nat} (hs:s<n) (ht:a.label.length+t<n) {ws:List (Nat×Nat)} {vl vw:Value} {kw:zb} (hO:WtO vw ws kw) (hw:ws.length≤30000000) {bc:Nat} {H:zb} {R:Value→za→zb→Prop}
  (hR: ∀hb' vw' kw',zgw hb' pu n (zbR n m (s:Nat) (a.label.length+t:Nat)).1→WtO vw' (if m s=m (a.label.length+t) then ws else ws++[(s,t)]) kw'→R (.tuple #[]) G ((bc, .cells (zW C D vl pu vw') [] 71):: (kw'++(hb'++H)))):
  FnT Tryz.prog 51 [.pointer (some ⟨bc,0,none⟩), .int .i64 (s:Nat), .int .i64 (t:Nat)] G ((bc, .cells (zW C D vl pu vw) [] 71):: (kw++(hb++H))) R:=by
 have hCl:=O.len
 have hCx:=O.l
 obtain⟨hn,_⟩:=id hT
 have hz:=zjf hCl hD (vl:=vl) (pu:=pu) (vw:=vw)
 have ha:=zwW hCl hD (vl:=vl) (pu:=pu) (vw:=vw) (i:=258) Ko
 have hu:=zAV hCl hD (vl:=vl) (pu:=pu) (vw:=vw)
 have hw2:=zzz hCl hD (vl:=vl) (pu:=pu) (vw:=vw)
 have hp:=zxe hCl hD (vl:=vl) (pu:=pu) (vw:=vw)
 rw[hCx] at ha
 have hst:=zkQ (m:=m) hs ht
 have hr1: ∀x:Value,List.replicate 1 x=[x]:=fun _=>rfl
 refine FnT.body tok [0,1,2,19] Tryz.func51 rfl Kk Kk (by show _≤32;simp) fun hsep=>?_
 rw[Tryz.results51]
 have hE:=hsep
 try simp only[zzs] at hE
 repeat(obtain⟨hx',hE⟩:=hE)
 repeat' first
  |with_reducible first|refine Nx.go ?_ |refine Bk.go (fun _=>?_) fun _=>?_ |refine Nb fun nb hnb hnb1 hnb2=>?_ |refine Nr fun nb nsp ncap hnb hncap hnb1 hnb2=>?_
  |simp -dsimp -implicitDefEqProofs (disch:=first|exact Kd|fail) only[go_sem,↓reduceIte,seval, -List.reduceReplicate,hz,ha,hu,hw2]
  |with_reducible refine Tri.drawH tok mixed [0,1,2,19] 0 [3,9] (.op 0 .plain (.op 1 .plain (.op 2 .plain (.op 3 .held (.op 4 .plain (.op 5 .plain (.op 6 .plain (.op 7 .plain (.op 8 .plain (.op 9 .held (.op 10 .plain (.op 11 .plain (.op 12 .plain (.op 13 .keeps .nil)))))))))))))) Kk [0] ?_
 have hj:((a.label.length:Nat):Int)+((t:Nat):Int)=((a.label.length+t:Nat):Int):=by omega
 rw[hj]
 refine FnT.upd (FnT.leave (H':=hb++((bc, .cells (zW C D vl pu vw) [] 71):: (kw++H))) (zyx _ _ hT fun hb' hT'=>?_) Ks)
 refine Upd.go (H':=(bc, .cells (zW C D vl pu vw) [] 71):: (kw++(hb'++H))) Ks (Upd.sepI fun hsj=>Upd.now ?_)
 have hR:=fun vw' kw'=>hR hb' vw' kw' hT'
 rw[hst]
 by_cases hm:m s=m (a.label.length+t)
 ·rw[if_pos hm]
  rw[if_pos hm] at hR
  repeat' first
   |with_reducible first|refine Nx.go ?_ |refine Bk.go (fun _=>?_) fun _=>?_ |refine Nb fun nb hnb hnb1 hnb2=>?_ |refine Nr fun nb nsp ncap hnb hncap hnb1 hnb2=>?_
   |with_reducible refine Tri.drawH tok mixed [0,1,2,19] 0 [3,9] (.op 0 .plain (.op 1 .plain (.op 2 .plain (.op 3 .held (.op 4 .plain (.op 5 .plain (.op 6 .plain (.op 7 .plain (.op 8 .plain (.op 9 .held (.op 10 .plain (.op 11 .plain (.op 12 .plain (.op 13 .keeps .nil)))))))))))))) Kk [0] ?_
   |simp -dsimp -implicitDefEqProofs (disch:=first|exact Kd|fail) only[go_sem,↓reduceIte,seval, -List.reduceReplicate,hz,ha,hu,hw2]
  exact Upd.now (hR vw kw hO)
 ·rw[if_neg hm] at hR
  rw[if_neg hm]
  rcases hO with ⟨aa,rfl,rfl,rfl⟩| ⟨bw,cap,sp,rfl,rfl,hc⟩| ⟨bw,sp,rfl,rfl⟩
  ·have hE:=hsj
   try simp only[zzs] at hE
   repeat(obtain⟨hx',hE⟩:=hE)
   repeat' first
    |with_reducible first|refine Nx.go ?_ |refine Bk.go (fun _=>?_) fun _=>?_ |refine Nb fun nb hnb hnb1 hnb2=>?_ |refine Nr fun nb nsp ncap hnb hncap hnb1 hnb2=>?_
    |with_reducible refine Tri.drawH tok mixed [0,1,2,19] 0 [3,9] (.op 0 .plain (.op 1 .plain (.op 2 .plain (.op 3 .held (.op 4 .plain (.op 5 .plain (.op 6 .plain (.op 7 .plain (.op 8 .plain (.op 9 .held (.op 10 .plain (.op 11 .plain (.op 12 .plain (.op 13 .keeps .nil)))))))))))))) Kk [0] ?_
    |simp -dsimp -implicitDefEqProofs (disch:=first|exact Kd|fail) only[go_sem,↓reduceIte,seval, -List.reduceReplicate,hz,ha,hu,hw2,hp,hr1]
   unfold zv
   refine Upd.leave (H':=(bc, .cells (zW C D vl pu (.slice (some ⟨nb,0,none⟩) 1 ncap)) [] 71):: ([(nb, .cells [.int .i64 (s:Nat), .int .i64 (t:Nat)] nsp 77)]++(hb'++H))) Ks ?_
   exact hR _ _ (.inr (.inl ⟨nb,ncap,nsp,rfl,rfl,by simp at hncap⊢;omega⟩))
  ·have hl:=zcZ ws
   have ho:=zgR ws
   have hE:=hsj
   try simp only[zzs] at hE
   repeat(obtain⟨hx',hE⟩:=hE)
   repeat' first
    |with_reducible first|refine Nx.go ?_ |refine Bk.go (fun _=>?_) fun _=>?_ |refine Nb fun nb hnb hnb1 hnb2=>?_ |refine Nr fun nb nsp ncap hnb hncap hnb1 hnb2=>?_
    |with_reducible refine Tri.drawH tok mixed [0,1,2,19] 0 [3,9] (.op 0 .plain (.op 1 .plain (.op 2 .plain (.op 3 .held (.op 4 .plain (.op 5 .plain (.op 6 .plain (.op 7 .plain (.op 8 .plain (.op 9 .held (.op 10 .plain (.op 11 .plain (.op 12 .plain (.op 13 .keeps .nil)))))))))))))) Kk [0] ?_
    |simp -dsimp -implicitDefEqProofs (disch:=first|exact Kd|fail) only[go_sem,↓reduceIte,seval, -List.reduceReplicate,hz,ha,hu,hw2,hp,hr1,hl,ho]
   ·unfold zv
    refine Upd.leave (H':=(bc, .cells (zW C D vl pu (.slice (some ⟨nb,0,none⟩) (ws.length+1) ncap)) [] 71):: ([(nb, .cells (ws.flatMap zbQ++[.int .i64 (s:Nat), .int .i64 (t:Nat)]) nsp 77)]++(hb'++H))) Ks ?_
    exact hR _ _ (.inr (.inl ⟨nb,ncap,nsp,by simp,by rw[zc7],by simp only[List.length_append,List.length_singleton];omega⟩))
  ·have hl:=zcZ ws
   have ho:=zgR ws
   have hE:=hsj
   try simp only[zzs] at hE
   repeat(obtain⟨hx',hE⟩:=hE)
   repeat' first
    |with_reducible refine Br.yes ?_
    |with_reducible refine Br.no ?_
    |with_reducible refine Br.dec (fun _=>?_) (fun _=>?_)
    |with_reducible refine Br.beqB (fun _=>?_) (fun _=>?_)
    |with_reducible refine Br.beqb (fun _=>?_) (fun _=>?_)
    |with_reducible refine Br.mk (fun _=>?_) (fun _=>?_)
    |with_reducible refine zas.mk (fun _ _=>?_) (fun _=>?_)
    |with_reducible refine zd8.zero ?_
    | ((with_reducible refine zdm.mk fun nb hnb=>?_);have hnb1:=hnb.1.1;have hnb2:=hnb.1.2;try simp only[zbl,zbS,zea,zbc,zb1,zdu,and_true] at hnb2)
    | ((with_reducible refine zbV.mk fun nb nsp ncap hnb hncap=>?_);have hnb1:=hnb.1.1;have hnb2:=hnb.1.2;try simp only[zbl,zbS,zea,zbc,zb1,zdu,and_true] at hnb2)
    |with_reducible refine Tri.drawH tok mixed [0,1,2,19] 0 [3,9] (.op 0 .plain (.op 1 .plain (.op 2 .plain (.op 3 .held (.op 4 .plain (.op 5 .plain (.op 6 .plain (.op 7 .plain (.op 8 .plain (.op 9 .held (.op 10 .plain (.op 11 .plain (.op 12 .plain (.op 13 .keeps .nil)))))))))))))) Kk [0] ?_
    |simp -dsimp -implicitDefEqProofs (disch:=first|exact Kd|fail) only[go_sem,↓reduceIte,seval, -List.reduceReplicate,hz,ha,hu,hw2,hp,hr1,hl,ho]
    |with_reducible refine zd8.tight ?_
   unfold zv
   refine Upd.leave (H':=(bc, .cells (zW C D vl pu (.slice (some ⟨nb,0,none⟩) (ws.length+1) ncap)) [] 71):: ([(nb, .cells (ws.flatMap zbQ++[.int .i64 (s:Nat), .int .i64 (t:Nat)]) nsp 77)]++(hb'++H))) Ks ?_
   exact hR _ _ (.inr (.inl ⟨nb,ncap,nsp,by simp,by rw[zc7],by simp only[List.length_append,List.length_singleton];omega⟩))
theorem zo9 {d:DfaT} (hsm:zx d) (hok:zc d) {G:za} {H:zb} {R:Value→za→zb→Prop} {v:Value} (hv:IsD G d v) {s:Nat} (hs:s<d.label.length)
  (hR:R (str (zaT d (atL d.label (s:Nat)))) G H):FnT Tryz.prog 84 [v, .int .i64 (s:Nat)] G H R:=by
 obtain⟨C,an,al,ay,cn,cl,cs,rs,rfl,O⟩:=hv.opened
 have hCl:=O.len
 have hCa:=O.all
 have hCx:=O.l
 have hCy:=O.s
 have h3:=hok.2.2.1
 have h7:=hok.2.2.2.2.2.2 s Ko hs
 have hsml:=hsm.2.2.2.1
 have hadl:Adr al:=O.rl.adr (by rw[List.length_map];omega)
 have hat:atL d.label (s:Nat)=d.label[s]:=by
  rw[zU (by rw[Int.toNat_natCast];exact hs)]
  simp only[Int.toNat_natCast]
 rw[hat] at hR
 obtain⟨k,hk⟩:=Int.eq_ofNat_of_zero_le h7.2.1
 have hb:=h7.2.2.1
 rw[hk] at hR hb
 have hrl:=Row.obj O.rl (i:=s) (by rw[List.length_map];exact hs)
 rw[List.getElem_map,hk] at hrl
 by_cases hk0:k=0
 ·subst hk0
  have hnn:zaT d ((0 :Nat):Int)=[]:=by unfold zaT;rw[if_neg Ko]
  rw[hnn] at hR
  refine FnT.body tok [0,1,2,4,5,12] Tryz.func84 rfl Kk Kk (by show _≤19;simp) fun hsep=>?_
  rw[Tryz.results84]
  have hE:=hsep
  try simp only[zzs] at hE
  repeat(obtain⟨hx',hE⟩:=hE)
  repeat' first
   |with_reducible first|refine Nx.go ?_ |refine Bk.go (fun _=>?_) fun _=>?_ |refine Nb fun nb hnb hnb1 hnb2=>?_
   |simp -dsimp -implicitDefEqProofs (disch:=first|exact Kd|fail) only[go_sem,↓reduceIte,seval, -List.reduceReplicate,List.toList_toArray,hCl,hCa,hCx,hCy,hrl]
  all_goals try(exfalso;omega)
  all_goals refine Upd.finL ?_ hR ?_
  any_goals first|exact Ks|skip
  all_goals rfl
 ·obtain⟨j,rfl⟩: ∃j,k=j+1:=⟨k - 1,by omega⟩
  have hj:j<d.names.length:=by omega
  have had:Adr ay:=O.ry.adr (by rw[List.length_map];omega)
  have hnn:zaT d ((j+1 :Nat):Int)=d.names[j]:=by
   unfold zaT
   rw[if_pos Ko,show(((j+1 :Nat):Int) - 1).toNat=j by omega,List.getD_eq_getElem?_getD,List.getElem?_eq_getElem hj,Option.getD_some]
  rw[hnn] at hR
  have hsub:((j+1 :Nat):Int) - 1=(j:Nat):=by omega
  refine FnT.body tok [0,1,2,4,5,12] Tryz.func84 rfl Kk Kk (by show _≤19;simp) fun hsep=>?_
  rw[Tryz.results84]
  have hE:=hsep
  try simp only[zzs] at hE
  repeat(obtain⟨hx',hE⟩:=hE)
  repeat' first
   |with_reducible first|refine Nx.go ?_ |refine Bk.go (fun _=>?_) fun _=>?_ |refine Nb fun nb hnb hnb1 hnb2=>?_
   |simp -dsimp -implicitDefEqProofs (disch:=first|exact Kd|fail) only[go_sem,↓reduceIte,seval, -List.reduceReplicate,List.toList_toArray,hCl,hCa,hCx,hCy,hrl,hsub,Row.obj O.ry,List.getElem_map]
  all_goals try(exfalso;omega)
  all_goals refine Upd.finL ?_ hR ?_
  any_goals first|exact Ks|skip
  all_goals rfl
theorem zwY {a b:DfaT} (ha:zc a) (hb:zc b) (hsa:zx a) (hsb:zx b) {C D:List Value} {G:za} {an al ay:Option Addr} {cn cl cs:Nat} {rs:List Value} (O:OpenD G a C an al ay cn cl cs rs) {bn bl bz:Option Addr} {dn dl ds:Nat} {rd:List Value} (P:OpenD G b D bn bl bz dn dl ds rd) {s t:Nat} (hs:s<a.label.length) (ht:t<b.label.length) {vl pu vw:Value} {bc:Nat} {H:zb} {R:Value→za→zb→Prop}
  (hR:R (.tuple #[str (zaT a (atL a.label (s:Nat))),str (zaT b (atL b.label (t:Nat)))]) G ((bc, .cells (zW C D vl pu vw) [] 71)::H)):
  FnT Tryz.prog 52 [.pointer (some ⟨bc,0,none⟩), .agg #[.int .i64 (s:Nat), .int .i64 (t:Nat)]] G ((bc, .cells (zW C D vl pu vw) [] 71)::H) R:=by
 have hCl:=O.len
 have hDl:=P.len
 have hz:=zjf hCl hDl (vl:=vl) (pu:=pu) (vw:=vw)
 have hta:=zAA hCl hDl (vl:=vl) (pu:=pu) (vw:=vw)
 have htb:=zAB hCl hDl (vl:=vl) (pu:=pu) (vw:=vw)
 refine FnT.body tok [0,1,3,4,5,6] Tryz.func52 rfl Kk Kk (by show _≤23;simp) fun hsep=>?_
 rw[Tryz.results52]
 have hE:=hsep
 try simp only[zzs] at hE
 repeat(obtain⟨hx',hE⟩:=hE)
 repeat' first
  |with_reducible first|refine Nx.go ?_ |refine Bk.go (fun _=>?_) fun _=>?_ |refine Nb fun nb hnb hnb1 hnb2=>?_
  |simp -dsimp -implicitDefEqProofs (disch:=first|exact Kd|fail) only[go_sem,↓reduceIte,seval, -List.reduceReplicate,List.toList_toArray,hz,hta,htb]
  |with_reducible refine Tri.drawH tok mixed [0,1,3,4,5,6] 2 [4,6,12,14] (.op 0 .plain (.op 1 .plain (.op 2 .plain (.op 3 .plain (.op 4 .held (.op 5 .plain (.op 6 .held (.op 8 .plain (.op 9 .plain (.op 10 .plain (.op 11 .plain (.op 12 .held (.op 13 .plain (.op 14 .held (.op 7 .keeps (.op 15 .keeps (.op 16 .plain (.op 17 .plain .nil)))))))))))))))))) Kk [0,3] ?_
  |with_reducible refine zo9 hsa ha O.is hs ?_
  |with_reducible refine zo9 hsb hb P.is ht ?_
 all_goals refine Upd.finL ?_ hR ?_
 any_goals first|exact Ks|skip
 all_goals rfl
end Go.Proofs.YtomdbjfdbkejoaaGreatDoor
namespace Go.Proofs.YtomdbjfdbkejoaaGreatDoor
open Go Go.V Go.Proofs
theorem zyB:List.replicate 256 (Value.int .u8 0)++[Value.int .i64 0,Value.slice none 0 0,Value.slice none 0 0,Value.slice none 0 0]++List.replicate 256 (Value.int .u8 0)++[Value.int .i64 0,Value.slice none 0 0,Value.slice none 0 0,Value.slice none 0 0,Value.slice none 0 0,Value.pointer none,Value.slice none 0 0]=zW zI zI (.slice none 0 0) (.pointer none) (.slice none 0 0):=by
 unfold zW zI
 simp only[List.append_assoc,List.cons_append,List.nil_append]
theorem zzA {C D:List Value} (hC:C.length=260) (hD:D.length=260) (l u w:Value):zf (zf (zW zI zI l u w) 0 C) 260 D=zW C D l u w:=by
 have hz:zI.length=260:=zn
 unfold zf zW
 rw[List.take_zero,List.nil_append,Nat.zero_add,hC,List.drop_append_of_le_length Ko,List.drop_of_length_le Ko,List.nil_append,List.take_append_of_le_length Ko,List.take_of_length_le Ko,hD,List.drop_append,List.drop_of_length_le Ko,List.nil_append,hC,List.drop_append_of_le_length Ko,List.drop_of_length_le Ko,List.nil_append,List.append_assoc]
theorem zyC {C:List Value} (hC:C.length=260) (l u w:Value):(zf (zW zI zI l u w) 0 C).length=523:=by
 have hz:zI.length=260:=zn
 unfold zf zW
 simp only[List.take_zero,List.nil_append,List.length_append,List.length_drop,hC,hz,List.length_cons,List.length_nil]
set_option maxRecDepth 8000 in
theorem zzB {a b:DfaT} (hsa:zx a) (hsb:zx b) (ha:zc a) (hb:zc b) {G:za} {H:zb} {R:Value→za→zb→Prop} (hg:zcy G) {C D:List Value} {an al ay:Option Addr} {cn cl cs:Nat} {rs:List Value} (O:OpenD G a C an al ay cn cl cs rs) {bn bl bz:Option Addr} {dn dl ds:Nat} {rd:List Value} (P:OpenD G b D bn bl bz dn dl ds rd)
  (hR: ∀G' bc vl low hb pu,PLe G G'→Sep G' (zm ((bc, .cells (zW C D vl pu (.slice none 0 0)) [] 71):: (hb++H)))→zkP a b low→low.length≤256→Sl G' (Value.int .u8) vl low→zgw hb pu (a.label.length+b.label.length) id→R (.pointer (some ⟨bc,0,none⟩)) G' ((bc, .cells (zW C D vl pu (.slice none 0 0)) [] 71):: (hb++H))):
  FnT Tryz.prog 24 [.agg C.toArray, .agg D.toArray] G H R:=by
 have hCl:=O.len
 have hDl:=P.len
 have hCa:=O.all
 have hDa:=P.all
 have hCo:=O.of
 have hDo:=P.of
 have hCx:=O.l
 have hDx:=P.l
 have hone1:=zcW O.is
 have hone2:=zcW P.is
 have fa:=O.ofl
 have fb:=P.ofl
 have h1:=ha.2.1
 have h2:=hb.2.1
 have hla:(u8L a.of).length=256:=by rw[List.length_map,fa]
 have hlb:(u8L b.of).length=256:=by rw[List.length_map,fb]
 have heq:eqT T 9 22 (zbO a.of) (zbO b.of)=some (decide (a.of=b.of)):=zhS (d:=7) (t:=22) (e:=5) (n:=256) (k:= .u8) rfl rfl rfl fa fb
 refine FnT.sep ?_
 refine FnT.body tok [0,1,2,3,4,5,6,16] Tryz.func24 rfl Kk Kk (by show _≤51;simp) fun hsep=>?_
 rw[Tryz.results24]
 have hE:=hsep
 try simp only[zzs] at hE
 repeat(obtain⟨hx',hE⟩:=hE)
 have z1:=zjf zn zn (vl:= .slice none 0 0) (pu:= .pointer none) (vw:= .slice none 0 0)
 have z2:=zzA hCl hDl (.slice none 0 0) (.pointer none) (.slice none 0 0)
 have z3:=zyC hCl (.slice none 0 0) (.pointer none) (.slice none 0 0)
 have z4: ∀l u w,(zW C D l u w).length=523:=fun l u w=>zjf hCl hDl
 have zl: ∀l u w x,zf (zW C D l u w) 520 [x]=zW C D x u w:=fun l u w x=>zAC hCl hDl x
 have zu: ∀l u w x,zf (zW C D l u w) 521 [x]=zW C D l x w:=fun l u w x=>zAD hCl hDl x
 have hzz:(zI.take 256).length=256:=by rw[List.length_take,zn];rfl
 repeat' first
  |with_reducible first|refine Nx.go ?_ |refine Bk.go (fun _=>?_) fun _=>?_ |refine Nb fun nb hnb hnb1 hnb2=>?_ |refine Nr fun nb nsp ncap hnb hncap hnb1 hnb2=>?_
  |simp -dsimp -implicitDefEqProofs (disch:=first|exact Kd|fail) only[go_sem,↓reduceIte,seval, -List.reduceReplicate,List.toList_toArray,hCl,hDl,hCa,hDa,hCo,hDo,hla,hlb,heq,zyB,z1,z2,z3,z4]
 all_goals
  rename_i b1 h10 h11 h12 b2 h20 h21 h22 he
  obtain⟨bc,ec⟩: ∃x,x=nb:=⟨_,rfl⟩
  subst ec
 ·refine zja fa hg fun G2 vl hle2 hs2 hsl=>?_
  have hlow:=zyy fa he
  have hsl':=hsl
  obtain⟨av,cv,rfl,hrv,hcv⟩:=hsl
  have hE:=hs2
  try simp only[zzs] at hE
  repeat(obtain⟨hx',hE⟩:=hE)
  repeat' first
   |with_reducible first|refine Nx.go ?_ |refine Bk.go (fun _=>?_) fun _=>?_ |refine Nb fun nb hnb hnb1 hnb2=>?_ |refine Nr fun nb nsp ncap hnb hncap hnb1 hnb2=>?_
   |simp -dsimp -implicitDefEqProofs (disch:=first|exact Kd|fail) only[go_sem,↓reduceIte,seval, -List.reduceReplicate,List.toList_toArray,hCl,hDl,hCa,hDa,hCx,hDx,z4,zl]
  have hnn:((a.label.length:Nat):Int)+((b.label.length:Nat):Int)=((a.label.length+b.label.length:Nat):Int):=by omega
  rw[hnn]
  refine FnT.upd (zuQ _ Ko (fun hb bu h0 hm hs3 hT=>?_) (fun h=>absurd h Ko))
  rw[Int.toNat_natCast] at hT
  refine Upd.go (H':=(bc, .cells (zW C D (.slice av (zag a.of).length cv) (.pointer none) (.slice none 0 0)) [] 71):: (b2, .cells D [] 27):: (b1, .cells C [] 27):: (hb++H)) Ks (Upd.sepI fun hs4=>Upd.now ?_)
  have hE:=hs4
  try simp only[zzs] at hE
  repeat(obtain⟨hx',hE⟩:=hE)
  repeat' first
   |with_reducible first|refine Nx.go ?_ |refine Bk.go (fun _=>?_) fun _=>?_ |refine Nb fun nb hnb hnb1 hnb2=>?_ |refine Nr fun nb nsp ncap hnb hncap hnb1 hnb2=>?_
   |simp -dsimp -implicitDefEqProofs (disch:=first|exact Kd|fail) only[go_sem,↓reduceIte,seval, -List.reduceReplicate,List.toList_toArray,hCl,hDl,z4,zl,zu]
  unfold zv
  refine Upd.leave (H':=(bc, .cells (zW C D (.slice av (zag a.of).length cv) (.pointer (some ⟨bu,0,none⟩)) (.slice none 0 0)) [] 71):: (hb++H)) Ks ?_
  exact fun _ hs=>hR G2 bc _ _ hb _ hle2 hs hlow (by rw[zdc];exact Nat.le_trans (zai _) Ko) hsl' hT
 ·refine zyA fa fb fun G1 hle1 hs1=>?_
  obtain⟨of,hof⟩: ∃l,l=zg (a.of.zip b.of):=⟨_,rfl⟩
  have hofl:of.length=256:=by rw[hof,zr,List.length_zip];omega
  have hlow:zkP a b (zag of):=by rw[hof];exact zyz fa fb
  have hou:(u8L of).length=256:=by rw[List.length_map,hofl]
  have hot:List.take 256 (u8L of)=u8L of:=List.take_of_length_le Ko
  have hoo:(u8L of).all zaL=true:=by rw[List.all_map];exact List.all_eq_true.2 fun _ _=>rfl
  have hoz:zf (List.replicate 256 (Value.int .u8 0)) 0 (u8L of)=u8L of:=by
   unfold zf
   rw[List.take_zero,List.nil_append,List.drop_of_length_le (by rw[List.length_replicate,hou];exact Nat.le_refl _),List.append_nil]
  rw[←hof]
  have hE:=hs1
  try simp only[zzs] at hE
  repeat(obtain⟨hx',hE⟩:=hE)
  repeat' first
   |with_reducible first|refine Nx.go ?_ |refine Bk.go (fun _=>?_) fun _=>?_ |refine Nb fun nb hnb hnb1 hnb2=>?_ |refine Nr fun nb nsp ncap hnb hncap hnb1 hnb2=>?_
   |simp -dsimp -implicitDefEqProofs (disch:=first|exact Kd|fail) only[go_sem,↓reduceIte,seval, -List.reduceReplicate,List.toList_toArray,hCl,hDl,hou,hot,hoo,hoz,List.length_replicate]
  obtain⟨b6,e6⟩: ∃x,x=nb:=⟨_,rfl⟩
  subst e6
  refine zja hofl (hg.mono hle1) fun G2 vl hle2 hs2 hsl=>?_
  have hsl':=hsl
  obtain⟨av,cv,rfl,hrv,hcv⟩:=hsl
  have hE:=hs2
  try simp only[zzs] at hE
  repeat(obtain⟨hx',hE⟩:=hE)
  repeat' first
   |with_reducible first|refine Nx.go ?_ |refine Bk.go (fun _=>?_) fun _=>?_ |refine Nb fun nb hnb hnb1 hnb2=>?_ |refine Nr fun nb nsp ncap hnb hncap hnb1 hnb2=>?_
   |simp -dsimp -implicitDefEqProofs (disch:=first|exact Kd|fail) only[go_sem,↓reduceIte,seval, -List.reduceReplicate,List.toList_toArray,hCl,hDl,hCa,hDa,hCx,hDx,z4,zl]
  have hnn:((a.label.length:Nat):Int)+((b.label.length:Nat):Int)=((a.label.length+b.label.length:Nat):Int):=by omega
  rw[hnn]
  refine FnT.upd (zuQ _ Ko (fun hb bu h0 hm hs3 hT=>?_) (fun h=>absurd h Ko))
  rw[Int.toNat_natCast] at hT
  refine Upd.go (H':=(bc, .cells (zW C D (.slice av (zag of).length cv) (.pointer none) (.slice none 0 0)) [] 71):: (b2, .cells D [] 27):: (b1, .cells C [] 27):: (hb++H)) Ks (Upd.sepI fun hs4=>Upd.now ?_)
  have hE:=hs4
  try simp only[zzs] at hE
  repeat(obtain⟨hx',hE⟩:=hE)
  repeat' first
   |with_reducible first|refine Nx.go ?_ |refine Bk.go (fun _=>?_) fun _=>?_ |refine Nb fun nb hnb hnb1 hnb2=>?_ |refine Nr fun nb nsp ncap hnb hncap hnb1 hnb2=>?_
   |simp -dsimp -implicitDefEqProofs (disch:=first|exact Kd|fail) only[go_sem,↓reduceIte,seval, -List.reduceReplicate,List.toList_toArray,hCl,hDl,z4,zl,zu]
  unfold zv
  refine Upd.leave (H':=(bc, .cells (zW C D (.slice av (zag of).length cv) (.pointer (some ⟨bu,0,none⟩)) (.slice none 0 0)) [] 71):: (hb++H)) Ks ?_
  exact fun _ hs=>hR G2 bc _ _ hb _ (hle1.trans hle2) hs hlow (by rw[zdc];exact Nat.le_trans (zai _) Ko) hsl' hT
end Go.Proofs.YtomdbjfdbkejoaaGreatDoor
namespace Go.Proofs.YtomdbjfdbkejoaaGreatDoor
open Go Go.V Go.Proofs
theorem zwZ {hb:zb} {pu:Value} {n:Nat} {m:Nat→Nat} (hT:zgw hb pu n m) {x y:Nat} (hx:x<n) (hy:y<n) (hne:m x≠m y):zde n (zaK m x y)+1=zde n m:=by
 obtain⟨_,bu,bt,cap,up,least,rank,B,many,sp,_,_,hu⟩:=hT
 exact zo6 hu hx hy hne
theorem zzC (n:Nat) (m:Nat→Nat):zde n m≤n:=by
 unfold zde
 have:=List.countP_le_length (p:=fun i=>m i==i) (l:=List.range n)
 rwa [List.length_range] at this
theorem zsD {n:Nat} {m:Nat→Nat} {s t:Nat} (hs:s<n) (ht:t<n) (h:m s=m t):(zbR n m (s:Nat) (t:Nat)).1=m:=by rw[zkQ hs ht,if_pos h]
theorem znc {n:Nat} {m:Nat→Nat} {s t:Nat} (hs:s<n) (ht:t<n) (h:m s≠m t):(zbR n m (s:Nat) (t:Nat)).1=zaK m s t:=by rw[zkQ hs ht,if_neg h]
theorem zuT {a b:DfaT} {m:Nat→Nat} {X:Nat×Nat→Prop} {ws:List (Nat×Nat)} {s t x y n:Nat} {hb:zb} {pu:Value} (I:CInv a b m X (fun p=>p∈ws∨p=(s,t))) (hm:m 0=m a.label.length) (hT:zgw hb pu n m) (hx:x<n) (hy:a.label.length+y<n) (hw: ∃w,zaj a w=(x:Nat)∧zaj b w=(y:Nat)):
  CInv a b (zbR n m (x:Nat) (a.label.length+y:Nat)).1 X (fun p=>p∈(if m x=m (a.label.length+y) then ws else ws++[(x,y)])∨p=(s,t))∧(zbR n m (x:Nat) (a.label.length+y:Nat)).1 0=(zbR n m (x:Nat) (a.label.length+y:Nat)).1 a.label.length∧(if m x=m (a.label.length+y) then ws else ws++[(x,y)]).length+2 * zde n (zbR n m (x:Nat) (a.label.length+y:Nat)).1≤ws.length+2 * zde n m∧(∀i j,m i=m j→(zbR n m (x:Nat) (a.label.length+y:Nat)).1 i=(zbR n m (x:Nat) (a.label.length+y:Nat)).1 j)∧(zbR n m (x:Nat) (a.label.length+y:Nat)).1 x=(zbR n m (x:Nat) (a.label.length+y:Nat)).1 (a.label.length+y):=by
 by_cases h:m x=m (a.label.length+y)
 ·rw[zsD hx hy h,if_pos h]
  exact⟨I,hm,Nat.le_refl _,fun _ _ e=>e,h⟩
 ·rw[znc hx hy h,if_neg h]
  have hc:=zwZ hT hx hy h
  refine⟨(I.push hw).mono fun q=>?_,zin _ _ hm,by rw[List.length_append,List.length_singleton];omega,fun _ _ e=>zin _ _ e,zlM _ _ _⟩
  rw[List.mem_append,List.mem_singleton]
  constructor
  ·rintro((h|h)|h)
   ·exact .inl (.inl h)
   ·exact .inr h
   ·exact .inl (.inr h)
  ·rintro((h|h)|h)
   ·exact .inl (.inl h)
   ·exact .inr h
   ·exact .inl (.inr h)
abbrev znF:DM:= .op 37 .keeps (.nil)
abbrev zw0:DM:=(.op 34 .keeps (.op 35 .plain (.op 36 .held (znF))))
abbrev zsE:DM:=(.op 23 .keeps (.op 26 .plain (.op 27 .held (.op 35 .plain (.op 36 .held (znF))))))
abbrev zsF:DM:=(.op 16 .keeps (.op 17 .plain (.op 18 .held (znF))))
abbrev zsG:DM:=(.op 5 .keeps (.op 8 .plain (.op 9 .held (.op 17 .plain (.op 18 .held (znF))))))
abbrev zzD:DM:=(.both (.op 23 .keeps (.op 26 .plain (.op 27 .held (zw0)))) (.op 34 .keeps (zsE)))
abbrev zzE:DM:=(.both (.op 16 .keeps (.op 17 .plain (.op 18 .held (zw0)))) (.op 34 .keeps (.op 35 .plain (.op 36 .held (zsF)))))
abbrev zzF:DM:=(.both (.op 16 .keeps (.op 17 .plain (.op 18 .held (zsE)))) (.op 23 .keeps (.op 26 .plain (.op 27 .held (.op 35 .plain (.op 36 .held (zsF)))))))
abbrev zzG:DM:=(.both (.op 5 .keeps (.op 8 .plain (.op 9 .held (.op 17 .plain (.op 18 .held (zw0)))))) (.op 34 .keeps (.op 35 .plain (.op 36 .held (zsG)))))
abbrev zxf:DM:=(.both (.op 5 .keeps (.op 8 .plain (.op 9 .held (.op 17 .plain (.op 18 .held (zsE)))))) (.op 23 .keeps (.op 26 .plain (.op 27 .held (.op 35 .plain (.op 36 .held (zsG)))))))
abbrev zxg:DM:=(.both (.op 5 .keeps (.op 8 .plain (.op 9 .held (zsF)))) (.op 16 .keeps (zsG)))
abbrev zAW:DM:=(.both (.op 16 .keeps (.op 17 .plain (.op 18 .held (zzD)))) (.both (.op 23 .keeps (.op 26 .plain (.op 27 .held (zzE)))) (.op 34 .keeps (zzF))))
abbrev zAX:DM:=(.both (.op 5 .keeps (.op 8 .plain (.op 9 .held (.op 17 .plain (.op 18 .held (zzD)))))) (.both (.op 23 .keeps (.op 26 .plain (.op 27 .held (zzG)))) (.op 34 .keeps (zxf))))
abbrev zAY:DM:=(.both (.op 5 .keeps (.op 8 .plain (.op 9 .held (zzE)))) (.both (.op 16 .keeps (zzG)) (.op 34 .keeps (.op 35 .plain (.op 36 .held (zxg))))))
abbrev zAZ:DM:=(.both (.op 5 .keeps (.op 8 .plain (.op 9 .held (zzF)))) (.both (.op 16 .keeps (zxf)) (.op 23 .keeps (.op 26 .plain (.op 27 .held (.op 35 .plain (.op 36 .held (zxg))))))))
abbrev zA0:DM:=(.both (.op 5 .keeps (.op 8 .plain (.op 9 .held (zAW)))) (.both (.op 16 .keeps (zAX)) (.both (.op 23 .keeps (.op 26 .plain (.op 27 .held (zAY)))) (.op 34 .keeps (zAZ)))))
abbrev cjT:DM:= .op 0 .plain (.op 1 .plain (.op 2 .plain (.op 3 .plain (.op 4 .plain (.op 6 .plain (.op 7 .held (.op 10 .plain (.op 11 .plain (.op 12 .plain (.op 13 .plain (.op 14 .plain (.op 15 .plain (.op 19 .plain (.op 20 .plain (.op 21 .plain (.op 22 .plain (.op 24 .plain (.op 25 .held (.op 28 .plain (.op 29 .plain (.op 30 .plain (.op 31 .plain (.op 32 .plain (.op 33 .plain (zA0)))))))))))))))))))))))))
set_option maxRecDepth 8000 in
theorem zw1 {a b:DfaT} (hsa:zx a) (hsb:zx b) (ha:zc a) (hb:zc b) {G:za} {H:zb} {R:Value→za→zb→Prop} {C D:List Value} {an al ay:Option Addr} {cn cl cs:Nat} {rs:List Value} (O:OpenD G a C an al ay cn cl cs rs) {bn bl bz:Option Addr} {dn dl ds:Nat} {rd:List Value} (P:OpenD G b D bn bl bz dn dl ds rd) {vl:Value} {low:List Int} (hlow:zkP a b low) (hll:low.length≤256) (hsl:Sl G (Value.int .u8) vl low) {hb0:zb} {pu:Value} (hT0:zgw hb0 pu (a.label.length+b.label.length) id) {bc:Nat}
  (hR:R (.bool (zaF (∀w,zaD a w=zaD b w))) G H):
  FnT Tryz.prog 25 [.pointer (some ⟨bc,0,none⟩), .int .i64 0, .int .i64 0] G ((bc, .cells (zW C D vl pu (.slice none 0 0)) [] 71):: (hb0++H)) R:=by
 have hCl:=O.len
 have hDl:=P.len
 have h1:=ha.1
 have h2:=hb.1
 have h3:=ha.2.1
 have h4:=hb.2.1
 have z4: ∀l u w,(zW C D l u w).length=523:=fun l u w=>zjf hCl hDl
 have zw: ∀l u w,(zW C D l u w)[522]? =some w:=fun l u w=>zzz hCl hDl
 have zl: ∀l u w,(zW C D l u w)[520]? =some l:=fun l u w=>zAU hCl hDl
 have zp: ∀l u w x,zf (zW C D l u w) 522 [x]=zW C D l u x:=fun l u w x=>zxe hCl hDl x
 obtain⟨av,cv,rfl,hrv,hcv⟩:=hsl
 have zan: ∀l u w,(zW C D l u w)[257]? =some (.slice an a.next.length cn):=fun l u w=>(zwW hCl hDl Ko).trans O.n
 have zbn: ∀l u w,(zW C D l u w)[517]? =some (.slice bn b.next.length dn):=fun l u w=>(zzy hCl hDl (i:=257) Ko).trans P.n
 have hr2:List.replicate 2 (Value.int .i64 0)=[Value.int .i64 0,Value.int .i64 0]:=rfl
 obtain⟨n,hn⟩: ∃n,n=a.label.length+b.label.length:=⟨_,rfl⟩
 rw[←hn] at hT0
 refine FnT.body tok [0,1,2,6,7,8,9,10,12,22,54,58,59,60,61] Tryz.func25 rfl Kk Kk (by show _≤103;simp) fun hsep=>?_
 rw[Tryz.results25]
 have hE:=hsep
 try simp only[zzs] at hE
 repeat(obtain⟨hx',hE⟩:=hE)
 repeat' first
  |with_reducible first|refine Nx.go ?_ |refine Bk.go (fun _=>?_) fun _=>?_ |refine Nb fun nb hnb hnb1 hnb2=>?_
  |simp -dsimp -implicitDefEqProofs (disch:=first|exact Kd|fail) only[go_sem,↓reduceIte,seval, -List.reduceReplicate]
 refine zuS (kw:=[]) O hDl hT0 (s:=0) (t:=0) Ko Ko (ws:=[]) (.inl ⟨none,rfl,rfl,rfl⟩) (by simp) fun hb1 vw1 kw1 hT1 hO1=>?_
 rw[znc Ko Ko (by simp;omega)] at hT1
 rw[if_neg (by simp;omega)] at hO1
 have I1:=(CInv.zero a b).push (s:=0) (t:=0) ⟨[],rfl,rfl⟩
 repeat' first
  |with_reducible first|refine Nx.go ?_ |refine Bk.go (fun _=>?_) fun _=>?_ |refine Nb fun nb hnb hnb1 hnb2=>?_
  |simp -dsimp -implicitDefEqProofs (disch:=first|exact Kd|fail) only[go_sem,↓reduceIte,seval, -List.reduceReplicate]
 refine Tri.loopU tok [0,1,2,6,7,8,9,10,12,22,54,58,59,60,61] Kk [0,6] (fun q G' fr H'=> ∃ (ws:List (Nat×Nat)) (m:Nat→Nat) (hb:zb) (vw:Value) (kw:zb) (X:Nat×Nat→Prop),q=ws.length+2 * zde n m∧q≤300000∧CInv a b m X (fun p=>p∈ws)∧m 0=m a.label.length∧zgw hb pu n m∧WtO vw ws kw∧G'=G∧H'=(bc, .cells (zW C D (.slice av low.length cv) pu vw) [] 71):: (kw++(hb++H))∧fr=[(0, .pointer (some ⟨bc,0,none⟩)),(6, .bool false)]) (1+2 * zde n (zaK id 0 (a.label.length+0))) ?_ ?_
 ·refine Upd.now ⟨[(0,0)],_,hb1,vw1,kw1,_,rfl,?_,I1.mono fun q=>by simp,zlM _ _ _,hT1,hO1,rfl,rfl,rfl⟩
  have:=zzC n (zaK id 0 (a.label.length+0))
  omega
 ·rintro q G1 fr H1 hle1 hs1 ⟨ws,m,hb2,vw,kw,X,hq,hq3,I,hm0,hT,hO,rfl,rfl,rfl⟩
  have hcc:ws=[]∨ ∃l p,ws=l++[p]:=by
   rcases List.eq_nil_or_concat ws with h| ⟨l,p,h⟩
   ·exact .inl h
   ·exact .inr ⟨l,p,by rw[h,List.concat_eq_append]⟩
  rcases hcc with rfl| ⟨ws,p,rfl⟩
  ·obtain⟨av,cv,rfl⟩: ∃av cv,vw= .slice av 0 cv:=by
    rcases hO with ⟨aa,rfl,_,_⟩| ⟨bw,cap,sp,rfl,_,_⟩| ⟨bw,sp,rfl,_⟩
    ·exact⟨_,_,rfl⟩
    ·exact⟨_,_,rfl⟩
    ·exact⟨_,_,rfl⟩
   have hall:=I.all ha hb O.ofl P.ofl (fun q=>List.not_mem_nil) hm0
   rw[zK hall] at hR
   have hE:=hs1
   try simp only[zzs] at hE
   repeat(obtain⟨hx',hE⟩:=hE)
   repeat' first
    |with_reducible first|refine Nx.go ?_ |refine Bk.go (fun _=>?_) fun _=>?_ |refine Nb fun nb hnb hnb1 hnb2=>?_
    |simp -dsimp -implicitDefEqProofs (disch:=first|exact Kd|fail) only[go_sem,↓reduceIte,seval, -List.reduceReplicate,z4,zw]
   unfold zv
   exact Upd.leave (H':=H) Ks hR
  ·obtain⟨s,t⟩:=p
   have hl:=zcZ (ws++[(s,t)])
   have hwl:(ws++[(s,t)]).length=ws.length+1:=by simp
   rw[hwl] at hl hq
   have key: ∃bw cap sp,vw= .slice (some ⟨bw,0,none⟩) (ws.length+1) cap∧kw=[(bw, .cells ((ws++[(s,t)]).flatMap zbQ) sp 77)]∧ws.length+1≤cap:=by
    rcases hO with ⟨aa,_,h,_⟩| ⟨bw,cap,sp,rfl,rfl,hc⟩| ⟨bw,sp,rfl,rfl⟩
    ·simp at h
    ·exact⟨bw,cap,sp,by rw[hwl],rfl,by rw[hwl] at hc;omega⟩
    ·exact⟨bw,_,sp,by rw[hwl],rfl,Nat.le_refl _⟩
   obtain⟨bw,cap,sp,rfl,rfl,hcap⟩:=key
   have hla:=zlu ws s t sp
   have e1:((ws.length+1 :Nat):Int) - 1=((ws.length:Nat):Int):=by omega
   have hmem:(s,t)∈ws++[(s,t)]:=by simp
   obtain⟨u,hu1,hu2⟩:=I.wrd (s,t) (.inr hmem)
   have hsu:=za6 ha O.ofl u
   have htu:=za6 hb P.ofl u
   have hs:s<a.label.length:=by omega
   have ht:t<b.label.length:=by omega
   have hE:=hs1
   try simp only[zzs] at hE
   repeat(obtain⟨hx',hE⟩:=hE)
   repeat' first
    |with_reducible first|refine Nx.go ?_ |refine Bk.go (fun _=>?_) fun _=>?_ |refine Nb fun nb hnb hnb1 hnb2=>?_
    |simp -dsimp -implicitDefEqProofs (disch:=first|exact Kd|fail) only[go_sem,↓reduceIte,seval, -List.reduceReplicate,z4,zw,zp,hl,hla,e1,hr2,Nat.sub_zero,Option.isSome_some,true_and]
   obtain⟨b8,e8⟩: ∃x,x=nb:=⟨_,rfl⟩
   subst e8
   refine FnT.leave (H':=(bc, .cells (zW C D (.slice av low.length cv) pu (.slice (some ⟨bw,0,none⟩) ws.length ws.length)) [] 71):: (b8, .cells [.int .i64 (s:Nat), .int .i64 (t:Nat)] [] 77):: (bw, .cells ((ws++[(s,t)]).flatMap zbQ) sp 77):: (hb2++H)) (zwY ha hb hsa hsb O P hs ht ?_) Ks
   repeat' first
    |with_reducible first|refine Nx.go ?_ |refine Bk.go (fun _=>?_) fun _=>?_ |refine Nb fun nb hnb hnb1 hnb2=>?_
    |simp -dsimp -implicitDefEqProofs (disch:=first|exact Kd|fail) only[go_sem,↓reduceIte,seval, -List.reduceReplicate,z4,zw,zl]
   ·rename_i hnm
    refine Tri.loopU tok [0,1,2,6,7,8,9,10,12,22,54,58,59,60,61] Kk [0,6,8,58,59,60] (fun q2 G' fr H'=> ∃ (i:Nat) (ws2:List (Nat×Nat)) (m2:Nat→Nat) (hb3:zb) (vw2:Value) (kw2:zb),i+q2=low.length∧CInv a b m2 X (fun p=>p∈ws2∨p=(s,t))∧m2 0=m2 a.label.length∧zgw hb3 pu n m2∧WtO vw2 ws2 kw2∧ws2.length+2 * zde n m2<q∧(∀j (hj:j<low.length),j<i→ ∀k:Nat,low[j]=(k:Int)→m2 (toD a (s:Nat) k).toNat=m2 (a.label.length+(toD b (t:Nat) k).toNat))∧G'=G1∧H'=(b8, .cells [.int .i64 (s:Nat), .int .i64 (t:Nat)] [] 77):: (bc, .cells (zW C D (.slice av low.length cv) pu vw2) [] 71):: (kw2++(hb3++H))∧fr=[(0, .pointer (some ⟨bc,0,none⟩)),(6, .bool false),(8, .pointer (some ⟨b8,0,none⟩)),(58, .slice av low.length cv),(59, .int .i64 low.length),(60, .int .i64 (i:Nat))]) (low.length) ?_ ?_
    ·refine Upd.refind bw (ws.flatMap zbQ) ([.int .i64 (s:Nat), .int .i64 (t:Nat)]++sp) (xs:=(ws++[(s,t)]).flatMap zbQ) (sp:=sp) (e:=77) ?_ (by rw[zc7,List.append_assoc]) ?_
     ·simp -dsimp -implicitDefEqProofs (disch:=first|exact Kd|fail) only[go_sem,↓reduceIte,seval]
     ·simp -dsimp -implicitDefEqProofs (disch:=first|exact Kd|fail) only[go_sem,↓reduceIte,seval]
      refine Upd.leave (H':=(b8, .cells [.int .i64 (s:Nat), .int .i64 (t:Nat)] [] 77):: (bc, .cells (zW C D (.slice av low.length cv) pu (.slice (some ⟨bw,0,none⟩) ws.length ws.length)) [] 71):: ([(bw, .cells (ws.flatMap zbQ) ([.int .i64 (s:Nat), .int .i64 (t:Nat)]++sp) 77)]++(hb2++H))) Ks ⟨0,ws,m,hb2,_,_,by omega,I.mono fun p=>by simp,hm0,hT, .inr (.inr ⟨bw,_,rfl,rfl⟩),by omega,fun j hj h0=>absurd h0 (Nat.not_lt_zero _),rfl,rfl,rfl⟩
    ·rintro q2 G2 fr H2 hle2 hs2 ⟨i,ws2,m2,hb3,vw2,kw2,hiq,I2,hm2,hT2,hO2,hq2,hst,rfl,rfl,rfl⟩
     by_cases hil:i<low.length
     ·have had:Adr av:=hrv.adr (by rw[List.length_map];omega)
      obtain⟨hk0,hk1⟩:=hlow.1 _ (List.getElem_mem hil)
      obtain⟨k,hk⟩:=Int.eq_ofNat_of_zero_le hk0
      rw[hk] at hk1
      have hkk:k<256:=by omega
      have hbk:(UInt8.ofNat k).toNat=k:=by rw[UInt8.toNat_ofNat'];omega
      have hrl:=Row.obj hrv (i:=i) (by rw[List.length_map];exact hil)
      rw[List.getElem_map,hk] at hrl
      obtain⟨y,z,rb,cc,htn,htv,hyk,hyb,hCc,e1',e2',e3',hz1,hval,hz2,hz3,hadn,hadb⟩:=zoq ha O (t:=s) hs hkk
      obtain⟨y',z',rb',cc',htn',htv',hyk',hyb',hCc',f1,f2,f3,hz1',hval',hz2',hz3',hadn',hadb'⟩:=zoq hb P (t:=t) ht hkk
      obtain⟨x1,hx1⟩:=Int.eq_ofNat_of_zero_le hz2
      obtain⟨x2,hx2⟩:=Int.eq_ofNat_of_zero_le hz2'
      rw[hx1] at hz1 hval hz3
      rw[hx2] at hz1' hval' hz3'
      have zak: ∀l u w,(zW C D l u w)[k]? =some (.int .u8 y):=fun l u w=>(zwW hCl hDl Ko).trans hCc
      have zbk: ∀l u w,(zW C D l u w)[260+k]? =some (.int .u8 y'):=fun l u w=>(zzy hCl hDl Ko).trans hCc'
      have hw4: ∃w,zaj a w=(x1:Nat)∧zaj b w=(x2:Nat):=by
       refine⟨u++[UInt8.ofNat k],?_,?_⟩
       ·rw[zdD,hu1]
        show toD a (s:Nat) (UInt8.ofNat k).toNat=_
        rw[hbk]
        exact hval
       ·rw[zdD,hu2]
        show toD b (t:Nat) (UInt8.ofNat k).toNat=_
        rw[hbk]
        exact hval'
      obtain⟨I4,hm4,hq4,hmo,hnew⟩:=zuT I2 hm2 hT2 (x:=x1) (y:=x2) Ko Ko hw4
      have hst4: ∀j (hj:j<low.length),j<i+1→ ∀k':Nat,low[j]=(k':Int)→(zbR n m2 (x1:Nat) (a.label.length+x2:Nat)).1 (toD a (s:Nat) k').toNat=(zbR n m2 (x1:Nat) (a.label.length+x2:Nat)).1 (a.label.length+(toD b (t:Nat) k').toNat):=fun j hj h0 k' hk'=>by
       by_cases hji:j<i
       ·exact hmo _ _ (hst j hj hji k' hk')
       ·obtain rfl:j=i:=by omega
        have ekk:k'=k:=by rw[hk] at hk';omega
        rw[ekk,hval,hval',Int.toNat_natCast,Int.toNat_natCast]
        exact hnew
      have hE:=hs2
      try simp only[zzs] at hE
      repeat(obtain⟨hx',hE⟩:=hE)
      repeat' first
       |with_reducible first|refine Nx.go ?_ |refine Bk.go (fun _=>?_) fun _=>?_ |refine Nb fun nb hnb hnb1 hnb2=>?_
       |simp -dsimp -implicitDefEqProofs (disch:=first|exact Kd|fail) only[go_sem,↓reduceIte,seval, -List.reduceReplicate,z4,zan,zbn,zak,zbk,hrl,Row.obj O.rn,e1',Row.obj e2',Row.obj P.rn,f1,Row.obj f2,List.getElem_map,hz1,hz1']
       |with_reducible refine Tri.drawS tok mixed [0,1,2,6,7,8,9,10,12,22,54,58,59,60,61] 12 [7,9,18,25,27,36] cjT Kk [(b8, .cells [.int .i64 (s:Nat), .int .i64 (t:Nat)] [] 77)] Ks ?_
       |with_reducible refine And.intro ?_ ?_
      all_goals
       refine FnT.upd (FnT.leave (H':=(bc, .cells (zW C D (.slice av low.length cv) pu vw2) [] 71):: (kw2++(hb3++((b8, .cells [.int .i64 (s:Nat), .int .i64 (t:Nat)] [] 77)::H)))) (zuS O hDl hT2 (s:=x1) (t:=x2) Ko Ko hO2 Ko fun hb4 vw4 kw4 hT4 hO4=>?_) Ks)
       refine Upd.go (H':=(b8, .cells [.int .i64 (s:Nat), .int .i64 (t:Nat)] [] 77):: (bc, .cells (zW C D (.slice av low.length cv) pu vw4) [] 71):: (kw4++(hb4++H))) Ks (Upd.now ?_)
       repeat' first
        |with_reducible first|refine Nx.go ?_ |refine Bk.go (fun _=>?_) fun _=>?_ |refine Nb fun nb hnb hnb1 hnb2=>?_
        |simp -dsimp -implicitDefEqProofs (disch:=first|exact Kd|fail) only[go_sem,↓reduceIte,seval, -List.reduceReplicate]
       exact Upd.now ⟨q2 - 1,by omega,i+1,_,_,hb4,vw4,kw4,by omega,I4,hm4,hT4,hO4,by omega,hst4,rfl,rfl,rfl⟩
     ·obtain rfl:i=low.length:=by omega
      have hE:=hs2
      try simp only[zzs] at hE
      repeat(obtain⟨hx',hE⟩:=hE)
      repeat' first
       |with_reducible first|refine Nx.go ?_ |refine Bk.go (fun _=>?_) fun _=>?_ |refine Nb fun nb hnb hnb1 hnb2=>?_
       |simp -dsimp -implicitDefEqProofs (disch:=first|exact Kd|fail) only[go_sem,↓reduceIte,seval, -List.reduceReplicate]
      all_goals try(exfalso;omega)
      have hsteps:=hlow.step (m:=m2) (s:=s) (t:=t) fun k hk=>by
       obtain⟨j,hj,e⟩:=List.getElem_of_mem hk
       exact hst j hj hj k e
      have I3:=I2.done (W':=fun p=>p∈ws2) (p:=(s,t)) (.inr rfl) (fun q=>Iff.rfl) hnm hsteps
      exact Upd.leave (H':=(bc, .cells (zW C D (.slice av low.length cv) pu vw2) [] 71):: (kw2++(hb3++H))) Ks ⟨_,hq2,ws2,m2,hb3,vw2,kw2,_,rfl,by omega,I3,hm2,hT2,hO2,rfl,rfl,rfl⟩
   ·rename_i hnm
    rw[zA (I.not hmem hnm)] at hR
    unfold zv
    exact Upd.leave (H':=H) Ks hR
end Go.Proofs.YtomdbjfdbkejoaaGreatDoor
namespace Go.Proofs.YtomdbjfdbkejoaaGreatDoor
open Go Go.V Go.Proofs
abbrev ze4:=DfaT→DfaT×Int
structure StepV (G:za) (f:Value) (act:ze4):Prop where
 shape: ∃k a c,f= .func (.func k) a c
 small: ∀d,d.of.length=256→zx d→zx (act d).1
 run: ∀ {G1:za} {H:zb} {R:Value→za→zb→Prop} {d:DfaT} {v:Value},PLe G G1→zx d→IsD G1 d v→(∀G' v',PLe G1 G'→Sep G' (zm H)→IsD G' (act d).1 v'→R (.tuple #[v', .int .i64 (act d).2]) G' H)→zjs Tryz.prog f [v] G1 H R
theorem StepV.mono {G G':za} {f:Value} {act:ze4} (h:StepV G f act) (hle:PLe G G'):StepV G' f act:=⟨h.shape,h.small,fun h1=>h.run (hle.trans h1)⟩
def zcO (a b:ze4):ze4:=fun d=>if (a d).2=0 then b (a d).1 else(zao,(a d).2)
theorem zel {a b:ze4} {d:DfaT} (h:(a d).2=0):zcO a b d=b (a d).1:=by unfold zcO;rw[if_pos h]
theorem zdG {a b:ze4} {d:DfaT} (h: ¬(a d).2=0):zcO a b d=(zao,(a d).2):=by unfold zcO;rw[if_neg h]
theorem zyD {G:za} {s t:Value} {a b:ze4} {b2 b3:Nat} (hs:StepV G s a) (ht:StepV G t b) (h2:Row G (some ⟨b2,0,none⟩) [s]) (h3:Row G (some ⟨b3,0,none⟩) [t]) (ha: ∀d,d.of.length=256→(a d).1.of.length=256):
  StepV G (.func (.func 91) #[] #[.pointer (some ⟨b2,0,none⟩), .pointer (some ⟨b3,0,none⟩)]) (zcO a b):=by
 refine⟨⟨_,_,_,rfl⟩,fun d hd hsm=>?_,fun{G1 H R d v} hle hsm hv hR=>?_⟩
 ·by_cases h:(a d).2=0
  ·rw[zel h];exact ht.small _ (ha d hd) (hs.small d hd hsm)
  ·rw[zdG h];exact zcL
 ·obtain⟨k1,a1,c1,rfl⟩:=hs.shape
  obtain⟨k2,a2,c2,rfl⟩:=ht.shape
  show FnT Tryz.prog 91 [v, .pointer (some ⟨b2,0,none⟩), .pointer (some ⟨b3,0,none⟩)] G1 H R
  obtain⟨C,an,al,ay,cn,cl,cs,rs,rfl,O⟩:=hv.opened
  have hCl:=O.len
  have hCa:=O.all
  have e2: ∀ {G2:za},PLe G1 G2→ ∀ (H:zb) (k:Value→Prop),zez G2 H b2 (G2 b2) 0 k=k (.func (.func k1) a1 c1):=fun hl H k=>Row.obj0 (h2.mono (hle.trans hl)) (by simp) H k
  have e3: ∀ {G2:za},PLe G1 G2→ ∀ (H:zb) (k:Value→Prop),zez G2 H b3 (G2 b3) 0 k=k (.func (.func k2) a2 c2):=fun hl H k=>Row.obj0 (h3.mono (hle.trans hl)) (by simp) H k
  have e21:=e2 (PLe.refl _)
  refine FnT.sep ?_
  refine FnT.body tok [0,1,2,3,4,5,6,7,15] Tryz.func91 rfl Kk Kk (by show _≤23;simp) fun hsep=>?_
  rw[Tryz.results91]
  have hE:=hsep
  try simp only[zzs] at hE
  repeat(obtain⟨hx',hE⟩:=hE)
  repeat' first
   |with_reducible first|refine Nx.go ?_ |refine Bk.go (fun _=>?_) fun _=>?_ |refine Nb fun nb hnb hnb1 hnb2=>?_ |refine Nr fun nb nsp ncap hnb hncap hnb1 hnb2=>?_
   |simp -dsimp -implicitDefEqProofs (disch:=first|exact Kd|fail) only[go_sem,↓reduceIte,seval, -List.reduceReplicate,List.toList_toArray,hCl,hCa,e21]
  obtain⟨b5,e50⟩: ∃x,x=nb:=⟨_,rfl⟩
  subst e50
  refine hs.run hle hsm O.is fun G2 v2 hle2 hs2 hI2=>?_
  obtain⟨C2,an2,al2,ay2,cn2,cl2,cs2,rs2,rfl,O2⟩:=hI2.opened
  have hC2l:=O2.len
  have hone2:=zcW O2.is
  have hput2:=zdP hC2l
  have htk2:List.take 260 C2=C2:=List.take_of_length_le Ko
  have e32:=e3 hle2
  have hE:=hs2
  try simp only[zzs] at hE
  repeat(obtain⟨hx',hE⟩:=hE)
  by_cases h:(a d).2=0
  ·rw[zel h] at hR
   rw[h]
   repeat' first
    |with_reducible first|refine Nx.go ?_ |refine Bk.go (fun _=>?_) fun _=>?_ |refine Nb fun nb hnb hnb1 hnb2=>?_ |refine Nr fun nb nsp ncap hnb hncap hnb1 hnb2=>?_
    |simp -dsimp -implicitDefEqProofs (disch:=first|exact Kd|fail) only[go_sem,↓reduceIte,seval, -List.reduceReplicate,List.toList_toArray,hCl,hCa,hC2l,hone2,hput2,htk2,zn,e32]
   obtain⟨b6,e60⟩: ∃x,x=nb:=⟨_,rfl⟩
   subst e60
   refine ht.run (hle.trans hle2) (hs.small d O.ofl hsm) O2.is fun G3 v3 hle3 hs3 hI3=>?_
   obtain⟨C3,an3,al3,ay3,cn3,cl3,cs3,rs3,rfl,O3⟩:=hI3.opened
   have hC3l:=O3.len
   have hone3:=zcW O3.is
   have hput3:=zdP hC3l
   have htk3:List.take 260 C3=C3:=List.take_of_length_le Ko
   have hE:=hs3
   try simp only[zzs] at hE
   repeat(obtain⟨hx',hE⟩:=hE)
   repeat' first
    |with_reducible first|refine Nx.go ?_ |refine Bk.go (fun _=>?_) fun _=>?_ |refine Nb fun nb hnb hnb1 hnb2=>?_ |refine Nr fun nb nsp ncap hnb hncap hnb1 hnb2=>?_
    |simp -dsimp -implicitDefEqProofs (disch:=first|exact Kd|fail) only[go_sem,↓reduceIte,seval, -List.reduceReplicate,List.toList_toArray,hC3l,hone3,hput3,htk3,zn]
   unfold zv
   refine Upd.leave (H':=H) Ks ?_
   exact fun _ hs=>hR G3 _ (hle2.trans hle3) hs O3.is
  ·rw[zdG h] at hR
   repeat' first
    |with_reducible first|refine Nx.go ?_ |refine Bk.go (fun _=>?_) fun _=>?_ |refine Nb fun nb hnb hnb1 hnb2=>?_ |refine Nr fun nb nsp ncap hnb hncap hnb1 hnb2=>?_
    |simp -dsimp -implicitDefEqProofs (disch:=first|exact Kd|fail) only[go_sem,↓reduceIte,seval, -List.reduceReplicate,List.toList_toArray,hCl,hCa,hC2l,hone2,hput2,htk2,zn,zad,zaf,zaw]
   all_goals try(exfalso;exact h Ka)
   unfold zv
   refine Upd.leave (H':=H) Ks ?_
   exact fun _ hs=>hR G2 _ hle2 hs (za2 _)
theorem zzH {G:za} {H:zb} {R:Value→za→zb→Prop} {s t:Value} {a b:ze4} (hs:StepV G s a) (ht:StepV G t b) (ha: ∀d,d.of.length=256→(a d).1.of.length=256)
  (hR: ∀G' f,PLe G G'→Sep G' (zm H)→StepV G' f (zcO a b)→R f G' H):FnT Tryz.prog 61 [s,t] G H R:=by
 obtain⟨k1,a1,c1,rfl⟩:=hs.shape
 obtain⟨k2,a2,c2,rfl⟩:=ht.shape
 refine FnT.sep ?_
 refine FnT.body tok [0,1,2,3,4] Tryz.func61 rfl Kk Kk (by show _≤6;simp) fun hsep=>?_
 rw[Tryz.results61]
 have hE:=hsep
 try simp only[zzs] at hE
 repeat(obtain⟨hx',hE⟩:=hE)
 repeat' first
  |with_reducible first|refine Nx.go ?_ |refine Bk.go (fun _=>?_) fun _=>?_ |refine Nb fun nb hnb hnb1 hnb2=>?_
  |simp -dsimp -implicitDefEqProofs (disch:=first|exact Kd|fail) only[go_sem,↓reduceIte,seval]
 rename_i b2 h20 h21 h22
 obtain⟨b3,e3⟩: ∃x,x=nb:=⟨_,rfl⟩
 subst e3
 unfold zv
 refine Upd.go (H':=(b3, .cells [.func (.func k2) a2 c2] [] 65):: (b2, .cells [.func (.func k1) a1 c1] [] 65)::H) Ks ?_
 refine Upd.trans (Upd.shareRow Ka fun G5 hle5 hs9 hr5=>?_)
 refine Upd.shareRow hs9.1.1 fun G6 hle6 hs10 hr6=>?_
 exact fun _ _=>hR G6 _ (hle5.trans hle6) hs10 (zyD (hs.mono (hle5.trans hle6)) (ht.mono (hle5.trans hle6)) hr6 (hr5.mono hle6) ha)
def chA (ac:Nat→ze4):Nat→ze4
 |0=>ac 0
 |i+1=>zcO (chA ac i) (ac (i+1))
theorem zuU {ac:Nat→ze4} (h: ∀i d,d.of.length=256→(ac i d).1.of.length=256): ∀ (i:Nat) (d:DfaT),d.of.length=256→(chA ac i d).1.of.length=256
 |0,d,hd=>h 0 d hd
 |i+1,d,hd=>by
  have ih:=zuU h i d hd
  show(zcO (chA ac i) (ac (i+1)) d).1.of.length=256
  by_cases e:(chA ac i d).2=0
  ·rw[zel e];exact h _ _ ih
  ·rw[zdG e];exact List.length_replicate
theorem zyE {G:za} {H:zb} {R:Value→za→zb→Prop} {f0 f1 f2 f3 f4:Value} {b:Nat} {ac:Nat→ze4} (h0:StepV G f0 (ac 0)) (h1:StepV G f1 (ac 1)) (h2:StepV G f2 (ac 2)) (h3:StepV G f3 (ac 3)) (h4:StepV G f4 (ac 4)) (ha: ∀i d,d.of.length=256→(ac i d).1.of.length=256)
  (hR: ∀G' f,PLe G G'→Sep G' (zm ((b, .cells [f0,f1,f2,f3,f4] [] 65)::H))→StepV G' f (chA ac 4)→R f G' ((b, .cells [f0,f1,f2,f3,f4] [] 65)::H)):
  FnT Tryz.prog 39 [.slice (some ⟨b,0,none⟩) 5 5] G ((b, .cells [f0,f1,f2,f3,f4] [] 65)::H) R:=by
 refine FnT.sep ?_
 refine FnT.body tok [0,2,3,4,6,11,12,13,14] Tryz.func39 rfl Kk Kk (by show _≤23;simp) fun hsep=>?_
 rw[Tryz.results39]
 have hE:=hsep
 try simp only[zzs] at hE
 repeat(obtain⟨hx',hE⟩:=hE)
 repeat' first
  |with_reducible first|refine Nx.go ?_ |refine Bk.go (fun _=>?_) fun _=>?_ |refine Nb fun nb hnb hnb1 hnb2=>?_
  |simp -dsimp -implicitDefEqProofs (disch:=first|exact Kd|fail) only[go_sem,↓reduceIte,seval]
 refine Tri.loopU tok [0,2,3,4,6,11,12,13,14] Kk [3,4,11,12,13] (fun q G' fr H'=> ∃ (i:Nat) (al:Value),i+q=4∧PLe G G'∧StepV G' al (chA ac i)∧H'=(b, .cells [f0,f1,f2,f3,f4] [] 65)::H∧fr=[(3, .func (.func 61) #[] #[]),(4,al),(11, .slice (some ⟨b,1,none⟩) 4 4),(12, .int .i64 4),(13, .int .i64 (i:Nat))]) (4) ?_ ?_
 ·exact Upd.now ⟨0,f0,by omega,PLe.refl _,h0,rfl,rfl⟩
 ·rintro q G1 fr H1 hle1 hs1 ⟨i,al,hiq,hle,hal,rfl,rfl⟩
  have hE:=hs1
  try simp only[zzs] at hE
  repeat(obtain⟨hx',hE⟩:=hE)
  by_cases hi:i<4
  ·have nxt: ∃f,StepV G1 f (ac (i+1))∧[f0,f1,f2,f3,f4][1+i]? =some f:=by
    match i,hi with
    |0,_=>exact⟨f1,h1.mono hle,rfl⟩
    |1,_=>exact⟨f2,h2.mono hle,rfl⟩
    |2,_=>exact⟨f3,h3.mono hle,rfl⟩
    |3,_=>exact⟨f4,h4.mono hle,rfl⟩
   obtain⟨f,hf,hg⟩:=nxt
   repeat' first
    |with_reducible first|refine Nx.go ?_ |refine Bk.go (fun _=>?_) fun _=>?_ |refine Nb fun nb hnb hnb1 hnb2=>?_
    |simp -dsimp -implicitDefEqProofs (disch:=first|exact Kd|fail) only[go_sem,↓reduceIte,seval,hg]
   all_goals try(exfalso;omega)
   refine zzH hal hf (zuU ha i) fun G2 g hle2 hs2 hstep=>?_
   have hE:=hs2
   try simp only[zzs] at hE
   repeat(obtain⟨hx',hE⟩:=hE)
   repeat' first
    |with_reducible first|refine Nx.go ?_ |refine Bk.go (fun _=>?_) fun _=>?_ |refine Nb fun nb hnb hnb1 hnb2=>?_
    |simp -dsimp -implicitDefEqProofs (disch:=first|exact Kd|fail) only[go_sem,↓reduceIte,seval]
   exact Upd.now ⟨q - 1,by omega,i+1,g,by omega,hle.trans hle2,hstep,rfl,rfl⟩
  ·obtain rfl:i=4:=by omega
   repeat' first
    |with_reducible first|refine Nx.go ?_ |refine Bk.go (fun _=>?_) fun _=>?_ |refine Nb fun nb hnb hnb1 hnb2=>?_
    |simp -dsimp -implicitDefEqProofs (disch:=first|exact Kd|fail) only[go_sem,↓reduceIte,seval]
   all_goals try(exfalso;omega)
   unfold zv
   exact Upd.now fun hle' hs'=>hR G1 _ hle hs' hal
noncomputable def acD:Nat→ze4
 |1=>zeJ
 |2=>zau
 |3=>zdg
 |_=>zd3
noncomputable def zjg (d:DfaT):DfaT×Int:=chA acD 4 d
theorem zuV {d:DfaT} (hok:zc d) (hof:d.of.length=256):zjg d=(za8 d,0):=by
 have hT:=zav hok
 have hN:=zcz hT
 have hS:=(zes hN).1
 have hS0:=(zes hN).2.1
 have e0:chA acD 0 d=(zL d,0):=zgp hok
 have e1:chA acD 1 d=(zfS (zL d),0):=by
  show zcO (chA acD 0) zeJ d=_
  rw[zel (by rw[e0]),e0]
  exact zii hT
 have e2:chA acD 2 d=((zau (zfS (zL d))).1,0):=by
  show zcO (chA acD 1) zau d=_
  rw[zel (by rw[e1]),e1,←hS0]
 have e3:chA acD 3 d=(zO (zau (zfS (zL d))).1,0):=by
  show zcO (chA acD 2) zdg d=_
  rw[zel (by rw[e2]),e2]
  exact zgY hS
 show zcO (chA acD 3) zd3 d=_
 rw[zel (by rw[e3]),e3]
 exact zgp (zcM hS (by rw[(ze3 hN).1];exact hof))
theorem zsH {d:DfaT} (h: ¬zc d):zjg d=(zao,6):=by
 have e0:chA acD 0 d=(zao,6):=zgS h
 have e1:chA acD 1 d=(zao,6):=by show zcO (chA acD 0) zeJ d=_;rw[zdG (by rw[e0];decide),e0]
 have e2:chA acD 2 d=(zao,6):=by show zcO (chA acD 1) zau d=_;rw[zdG (by rw[e1];decide),e1]
 have e3:chA acD 3 d=(zao,6):=by show zcO (chA acD 2) zdg d=_;rw[zdG (by rw[e2];decide),e2]
 show zcO (chA acD 3) zd3 d=_
 rw[zdG (by rw[e3];decide),e3]
theorem zw2 (d:DfaT) (h:d.of.length=256):(zeJ d).1.of.length=256:=by
 by_cases hok:zc d
 ·rw[zii hok];exact h
 ·unfold zeJ;rw[zlG hok];exact List.length_replicate
theorem zpa (d:DfaT) (h:d.of.length=256):(zd3 d).1.of.length=256:=by
 by_cases hok:zc d
 ·rw[zgp hok];exact h
 ·rw[zgS hok];exact List.length_replicate
theorem zuW (d:DfaT) (h:d.of.length=256):(zau d).1.of.length=256:=by
 by_cases hok:zc d
 ·rw[(ze3 hok).1];exact h
 ·rw[zib hok];exact List.length_replicate
theorem zuX (d:DfaT) (h:d.of.length=256):(zdg d).1.of.length=256:=by
 by_cases hok:zc d
 ·rw[zgY hok];exact zet h
 ·rw[zik hok];exact List.length_replicate
theorem zzI: ∀ (i:Nat) (d:DfaT),d.of.length=256→(acD i d).1.of.length=256
 |0,d,h=>zpa d h
 |1,d,h=>zw2 d h
 |2,d,h=>zuW d h
 |3,d,h=>zuX d h
 |_+4,d,h=>zpa d h
theorem zqh (d:DfaT) (hsm:zx d):zx (zd3 d).1:=by
 by_cases hok:zc d
 ·rw[zgp hok];exact zeI hsm hok
 ·rw[zgS hok];exact zcL
theorem zzJ {d:DfaT} (hsm:zx d) {m:List Int} (h:zbv d m):zx (ofD d m):=by
 obtain⟨h1,h2,h3,h4,h5⟩:=hsm
 obtain⟨hok,hml,_⟩:=id h
 have hl:=zgr d m
 have ht:=zai m
 have hr:=zkC h
 have h6:=hok.2.1
 have h7:=hr.2.2.1
 refine⟨by omega,fun r hr=>?_,by omega,h4,h5⟩
 obtain⟨s,hs,rfl⟩:=List.mem_map.1 (show r∈(zy m).map (fun s=>zee d m s.toNat) from hr)
 unfold zee
 rw[List.length_map,List.getD_eq_getElem?_getD]
 cases hg:d.next[s.toNat]? with
 |none=>exact Nat.zero_le _
 |some r=>exact h2 _ (List.mem_of_getElem? hg)
theorem zjh (d:DfaT) (hsm:zx d):zx (zau d).1:=by
 by_cases hok:zc d
 ·rw[zdC hok];exact zzJ (zeI hsm hok) (zdQ (zav hok))
 ·rw[zib hok];exact zcL
theorem zpb (d:DfaT) (h:d.of.length=256) (hsm:zx d):zx (zdg d).1:=by
 by_cases hok:zc d
 ·rw[zgY hok];exact zjc h hsm
 ·rw[zik hok];exact zcL
theorem zpc {d:DfaT} (hok:zc d) (hof:d.of.length=256) (hsm:zx d):zx (za8 d):=by
 have hT:=zav hok
 have hN:=zcz hT
 have hS:=(zes hN).1
 have hSf:(zau (zfS (zL d))).1.of.length=256:=by rw[(ze3 hN).1];exact hof
 have h1:=zj2 (zeI hsm hok)
 rw[zii hT] at h1
 exact zeI (zjc hSf (zjh _ h1)) (zcM hS hSf)
theorem zpd {d:DfaT} (hok:zc d) (hof:d.of.length=256):zc (za8 d):=by
 have hN:=zcz (zav hok)
 have hSf:(zau (zfS (zL d))).1.of.length=256:=by rw[(ze3 hN).1];exact hof
 exact zav (zcM (zes hN).1 hSf)
theorem zxh (G:za):StepV G (.func (.func 40) #[] #[]) zd3:=⟨⟨_,_,_,rfl⟩,fun d _ h=>zqh d h,fun _ hsm hv hR=>zur hsm hv hR⟩
theorem zAE (G:za):StepV G (.func (.func 41) #[] #[]) zeJ:=⟨⟨_,_,_,rfl⟩,fun d _ h=>zj2 h,fun _ hsm hv hR=>zyn hsm hv hR⟩
theorem zzK (G:za):StepV G (.func (.func 42) #[] #[]) zau:=⟨⟨_,_,_,rfl⟩,fun d _ h=>zjh d h,fun _ hsm hv hR=>zyh hsm hv hR⟩
theorem zzL {G:za} (hg:zcy G):StepV G (.func (.func 43) #[] #[]) zdg:=⟨⟨_,_,_,rfl⟩,zpb,fun hle hsm hv hR=>zys hsm (hg.mono hle) hv hR⟩
theorem zyF {d:DfaT} (hsm:zx d) {G:za} {H:zb} {R:Value→za→zb→Prop} {v:Value} (hg:zcy G) (hv:IsD G d v)
  (hR: ∀G' v',PLe G G'→Sep G' (zm H)→IsD G' (zjg d).1 v'→R (.tuple #[v', .int .i64 (zjg d).2]) G' H):FnT Tryz.prog 22 [v] G H R:=by
 obtain⟨C,an,al,ay,cn,cl,cs,rs,rfl,O⟩:=hv.opened
 have hCl:=O.len
 have hCa:=O.all
 refine FnT.sep ?_
 refine FnT.body tok [0,1,2,3] Tryz.func22 rfl Kk Kk (by show _≤10;simp) fun hsep=>?_
 rw[Tryz.results22]
 have hE:=hsep
 try simp only[zzs] at hE
 repeat(obtain⟨hx',hE⟩:=hE)
 have hr5: ∀v:Value,List.replicate 5 v=[v,v,v,v,v]:=fun _=>rfl
 repeat' first
  |with_reducible first|refine Nx.go ?_ |refine Bk.go (fun _=>?_) fun _=>?_ |refine Nb fun nb hnb hnb1 hnb2=>?_ |refine Nr fun nb nsp ncap hnb hncap hnb1 hnb2=>?_
  |simp -dsimp -implicitDefEqProofs (disch:=first|exact Kd|fail) only[go_sem,↓reduceIte,seval, -List.reduceReplicate,List.toList_toArray,hCl,hCa,hr5]
  |with_reducible refine Tri.drawH tok mixed [0,1,2,3] 1 [2] (.op 2 .held (.op 0 .keeps (.op 1 .keeps (.op 3 .plain (.op 4 .plain (.op 5 .plain (.op 6 .plain (.op 7 .plain .nil)))))))) Kk [1] ?_
 rename_i b1 h10 h11 h12 b2 h20 h21 h22
 obtain⟨b4,e40⟩: ∃x,x=nb:=⟨_,rfl⟩
 subst e40
 refine zyE (zxh G) (zAE G) (zzK G) (zzL hg) (zxh G) zzI fun G2 f hle2 hs2 hf=>?_
 have O2:=O.mono hle2
 obtain⟨kf,af,cf,rfl⟩:=hf.shape
 have hE:=hs2
 try simp only[zzs] at hE
 repeat(obtain⟨hx',hE⟩:=hE)
 repeat' first
  |with_reducible first|refine Nx.go ?_ |refine Bk.go (fun _=>?_) fun _=>?_ |refine Nb fun nb hnb hnb1 hnb2=>?_ |refine Nr fun nb nsp ncap hnb hncap hnb1 hnb2=>?_
  |with_reducible refine Tri.drawH tok mixed [0,1,2,3] 1 [2] (.op 2 .held (.op 0 .keeps (.op 1 .keeps (.op 3 .plain (.op 4 .plain (.op 5 .plain (.op 6 .plain (.op 7 .plain .nil)))))))) Kk [1] ?_
  |simp -dsimp -implicitDefEqProofs (disch:=first|exact Kd|fail) only[go_sem,↓reduceIte,seval, -List.reduceReplicate,List.toList_toArray,hCl,hCa]
 refine hf.run (PLe.refl _) hsm O2.is fun G3 v3 hle3 hs3 hI3=>?_
 have hI3:IsD G3 (zjg d).1 v3:=hI3
 obtain⟨C3,an3,al3,ay3,cn3,cl3,cs3,rs3,rfl,O3⟩:=hI3.opened
 have hC3l:=O3.len
 have hone3:=zcW O3.is
 have hput3:=zdP hC3l
 have htk3:List.take 260 C3=C3:=List.take_of_length_le Ko
 have hE:=hs3
 try simp only[zzs] at hE
 repeat(obtain⟨hx',hE⟩:=hE)
 repeat' first
  |with_reducible first|refine Nx.go ?_ |refine Bk.go (fun _=>?_) fun _=>?_ |refine Nb fun nb hnb hnb1 hnb2=>?_ |refine Nr fun nb nsp ncap hnb hncap hnb1 hnb2=>?_
  |with_reducible refine Tri.drawH tok mixed [0,1,2,3] 1 [2] (.op 2 .held (.op 0 .keeps (.op 1 .keeps (.op 3 .plain (.op 4 .plain (.op 5 .plain (.op 6 .plain (.op 7 .plain .nil)))))))) Kk [1] ?_
  |simp -dsimp -implicitDefEqProofs (disch:=first|exact Kd|fail) only[go_sem,↓reduceIte,seval, -List.reduceReplicate,List.toList_toArray,hCl,hCa,hC3l,hone3,hput3,htk3,zn]
 unfold zv
 refine Upd.leave (H':=H) Ks ?_
 exact fun _ hs=>hR G3 _ (hle2.trans hle3) hs O3.is
end Go.Proofs.YtomdbjfdbkejoaaGreatDoor
namespace Go.Proofs.YtomdbjfdbkejoaaGreatDoor
open Go Go.V Go.Proofs
noncomputable def zji (d:DfaT):List UInt8×Int:=haveI:=Classical.propDecidable;if zc d then(zaJ (za8 d),0) else([],6)
theorem zmn {d:DfaT} (h:zc d):zji d=(zaJ (za8 d),0):=by unfold zji;rw[if_pos h]
theorem zw3 {d:DfaT} (h: ¬zc d):zji d=([],6):=by unfold zji;rw[if_neg h]
theorem zxi {d:DfaT} (hsm:zx d) {G:za} {H:zb} {R:Value→za→zb→Prop} {v:Value} (hg:zcy G) (hv:IsD G d v)
  (hR: ∀G',PLe G G'→Sep G' (zm H)→R (.tuple #[str (zji d).1, .int .i64 (zji d).2]) G' H):FnT Tryz.prog 12 [v] G H R:=by
 obtain⟨C,an,al,ay,cn,cl,cs,rs,rfl,O⟩:=hv.opened
 have hCl:=O.len
 have hCa:=O.all
 refine FnT.sep ?_
 refine FnT.body tok [0,1,2,3,4,5,12] Tryz.func12 rfl Kk Kk (by show _≤17;simp) fun hsep=>?_
 rw[Tryz.results12]
 have hE:=hsep
 try simp only[zzs] at hE
 repeat(obtain⟨hx',hE⟩:=hE)
 repeat' first
  |with_reducible first|refine Nx.go ?_ |refine Bk.go (fun _=>?_) fun _=>?_ |refine Nb fun nb hnb hnb1 hnb2=>?_ |refine Nr fun nb nsp ncap hnb hncap hnb1 hnb2=>?_
  |simp -dsimp -implicitDefEqProofs (disch:=first|exact Kd|fail) only[go_sem,↓reduceIte,seval, -List.reduceReplicate,List.toList_toArray,hCl,hCa]
 obtain⟨b1,e10⟩: ∃x,x=nb:=⟨_,rfl⟩
 subst e10
 refine zyF hsm hg O.is fun G2 v2 hle2 hs2 hI2=>?_
 by_cases hok:zc d
 ·rw[zuV hok O.ofl] at hI2⊢
  rw[zmn hok] at hR
  have hI2:IsD G2 (za8 d) v2:=hI2
  obtain⟨C2,an2,al2,ay2,cn2,cl2,cs2,rs2,rfl,O2⟩:=hI2.opened
  have hC2l:=O2.len
  have hone2:=zcW O2.is
  have hput2:=zdP hC2l
  have htk2:List.take 260 C2=C2:=List.take_of_length_le Ko
  have hE:=hs2
  try simp only[zzs] at hE
  repeat(obtain⟨hx',hE⟩:=hE)
  repeat' first
   |with_reducible first|refine Nx.go ?_ |refine Bk.go (fun _=>?_) fun _=>?_ |refine Nb fun nb hnb hnb1 hnb2=>?_ |refine Nr fun nb nsp ncap hnb hncap hnb1 hnb2=>?_
   |simp -dsimp -implicitDefEqProofs (disch:=first|exact Kd|fail) only[go_sem,↓reduceIte,seval, -List.reduceReplicate,List.toList_toArray,hCl,hCa,hC2l,hone2,hput2,htk2,zn]
  obtain⟨b4,e40⟩: ∃x,x=nb:=⟨_,rfl⟩
  subst e40
  have hcr:=zpd hok O.ofl
  refine zr9 (zpc hok O.ofl hsm) hcr O2.is fun v' kb' hbuf hs3=>?_
  have hlen:=zow hcr O2.ofl
  rcases hbuf with ⟨aa,rfl,h0,_,rfl⟩| ⟨bb,cap,sp,rfl,rfl,hb1,hb2⟩
  ·have:=(zeq (za8 d)).1;omega
  ·have hE:=hs3
   try simp only[zzs] at hE
   repeat(obtain⟨hx',hE⟩:=hE)
   repeat' first
    |with_reducible first|refine Nx.go ?_ |refine Bk.go (fun _=>?_) fun _=>?_ |refine Nb fun nb hnb hnb1 hnb2=>?_ |refine Nr fun nb nsp ncap hnb hncap hnb1 hnb2=>?_
    |simp -dsimp -implicitDefEqProofs (disch:=first|exact Kd|fail) only[go_sem,↓reduceIte,seval, -List.reduceReplicate,List.toList_toArray,hC2l,htk2]
   unfold zv
   refine Upd.leave (H':=H) Ks ?_
   exact fun _ hs=>hR G2 hle2 hs
 ·rw[zsH hok] at hI2⊢
  rw[zw3 hok] at hR
  have hI2:IsD G2 zao v2:=hI2
  obtain⟨C2,an2,al2,ay2,cn2,cl2,cs2,rs2,rfl,O2⟩:=hI2.opened
  have hC2l:=O2.len
  have hone2:=zcW O2.is
  have hput2:=zdP hC2l
  have hE:=hs2
  try simp only[zzs] at hE
  repeat(obtain⟨hx',hE⟩:=hE)
  repeat' first
   |with_reducible first|refine Nx.go ?_ |refine Bk.go (fun _=>?_) fun _=>?_ |refine Nb fun nb hnb hnb1 hnb2=>?_ |refine Nr fun nb nsp ncap hnb hncap hnb1 hnb2=>?_
   |simp -dsimp -implicitDefEqProofs (disch:=first|exact Kd|fail) only[go_sem,↓reduceIte,seval, -List.reduceReplicate,List.toList_toArray,hCl,hCa,hC2l,hone2,hput2,zn]
  all_goals refine Upd.finL ?_ (fun _ hs=>hR G2 hle2 hs) ?_
  any_goals first|exact Ks|skip
  rfl
end Go.Proofs.YtomdbjfdbkejoaaGreatDoor
namespace Go.Proofs.YtomdbjfdbkejoaaGreatDoor
open Go Go.V Go.Proofs
theorem zuY {d:DfaT} (hok:zc d) (hof:d.of.length=256):Fit d:=⟨hok,hof,fun x hx=>by
 obtain⟨i,hi,rfl⟩:=List.getElem_of_mem hx
 have h1:=zbs hok (List.getElem_mem hi)
 have h2:=hok.2.2.2.2.1
 have h3:=zai d.of
 omega⟩
theorem zyG {a b:DfaT} (ha:zc a) (hb:zc b) (fa:a.of.length=256) (fb:b.of.length=256):zaJ (za8 a)=zaJ (za8 b)↔ ∀w,zaD a w=zaD b w:=by
 rw[←zuO ha hb fa fb]
 have ca:(zdr a).of.length=256:=by rw[(zdS ha).1];exact fa
 have cb:(zdr b).of.length=256:=by rw[(zdS hb).1];exact fb
 have ga:(za8 a).of.length=256:=by rw[zeL];exact zet ca
 have gb:(za8 b).of.length=256:=by rw[zeL];exact zet cb
 exact⟨fun e=>zqF (zuY (zj6 ha fa) ga) (zuY (zj6 hb fb) gb) e,fun e=>by rw[e]⟩
theorem zAF {a b:DfaT} (hsa:zx a) (hsb:zx b) (ha:zc a) (hb:zc b) {G:za} {H:zb} {R:Value→za→zb→Prop} (hg:zcy G) {v w:Value} (hv:IsD G a v) (hw:IsD G b w)
  (hR: ∀G',PLe G G'→Sep G' (zm H)→R (.tuple #[.bool (zaF (∀w,zaD a w=zaD b w)), .int .i64 0]) G' H):FnT Tryz.prog 14 [v,w] G H R:=by
 obtain⟨C,an,al,ay,cn,cl,cs,rs,rfl,O⟩:=hv.opened
 obtain⟨D,bn,bl,bz,dn,dl,ds,rd,rfl,P⟩:=hw.opened
 have hCl:=O.len
 have hDl:=P.len
 have hCa:=O.all
 have hDa:=P.all
 have hba:=zK ha
 have hbb:=zK hb
 refine FnT.sep ?_
 refine FnT.body tok [0,1,2,3,4,5,13] Tryz.func14 rfl Kk Kk (by show _≤18;simp) fun hsep=>?_
 rw[Tryz.results14]
 have hE:=hsep
 try simp only[zzs] at hE
 repeat(obtain⟨hx',hE⟩:=hE)
 repeat' first
  |with_reducible first|refine Nx.go ?_ |refine Bk.go (fun _=>?_) fun _=>?_ |refine Nb fun nb hnb hnb1 hnb2=>?_
  |simp -dsimp -implicitDefEqProofs (disch:=first|exact Kd|fail) only[go_sem,↓reduceIte,seval, -List.reduceReplicate,List.toList_toArray,hCl,hDl,hCa,hDa,hba,hbb]
  |with_reducible refine zaE hsa O.is ?_
  |with_reducible refine zaE hsb P.is ?_
 rename_i b2 h20 h21 h22
 obtain⟨b3,e3⟩: ∃x,x=nb:=⟨_,rfl⟩
 subst e3
 refine zzB hsa hsb ha hb hg O P fun G2 bc vl low hb2 pu hle2 hs2 hlow hll hsl hT=>?_
 have hE:=hs2
 try simp only[zzs] at hE
 repeat(obtain⟨hx',hE⟩:=hE)
 repeat' first
  |with_reducible first|refine Nx.go ?_ |refine Bk.go (fun _=>?_) fun _=>?_ |refine Nb fun nb hnb hnb1 hnb2=>?_
  |simp -dsimp -implicitDefEqProofs (disch:=first|exact Kd|fail) only[go_sem,↓reduceIte,seval, -List.reduceReplicate]
 refine FnT.leave (H':=(bc, .cells (zW C D vl pu (.slice none 0 0)) [] 71):: (hb2++H)) (zw1 hsa hsb ha hb (O.mono hle2) (P.mono hle2) hlow hll hsl hT ?_) Ks
 repeat' first
  |with_reducible first|refine Nx.go ?_ |refine Bk.go (fun _=>?_) fun _=>?_ |refine Nb fun nb hnb hnb1 hnb2=>?_
  |simp -dsimp -implicitDefEqProofs (disch:=first|exact Kd|fail) only[go_sem,↓reduceIte,seval, -List.reduceReplicate]
 unfold zv
 refine Upd.sepI fun hs=>Upd.now fun _ hs=>hR G2 hle2 hs
end Go.Proofs.YtomdbjfdbkejoaaGreatDoor
namespace Go.Proofs.YtomdbjfdbkejoaaGreatDoor
open Go Go.V Go.Proofs
theorem zj7 {d:DfaT} {n:Int} (h:zf1 d n=true):zc d∧(d.label.length:Int)≤n:=by
 unfold zf1 at h
 rw[Bool.and_eq_true] at h
 refine⟨?_,of_decide_eq_true h.2⟩
 exact Classical.byContradiction fun g=>by rw[zA g] at h;cases h.1
set_option maxRecDepth 8000 in
theorem zsI {a b:DfaT} (hsa:zx a) (hsb:zx b) {G:za} {H:zb} {R:Value→za→zb→Prop} {v w:Value} (hg:zcy G) (hv:IsD G a v) (hw:IsD G b w)
  (hR: ∀G',PLe G G'→R (.bool true) G' H):FnT Tryz.prog 4 [v,w] G H R:=by
 obtain⟨C,an,al,ay,cn,cl,cs,rs,rfl,O⟩:=hv.opened
 obtain⟨D,bn,bl,bz,dn,dl,ds,rd,rfl,P⟩:=hw.opened
 have hCl:=O.len
 have hDl:=P.len
 have hCa:=O.all
 have hDa:=P.all
 cases ha:zf1 a 100 with
 |false=>
  refine FnT.body tok [0,1,2,3,4,5,6,7,8,9,10,18] Tryz.func4 rfl Kk Kk (by show _≤52;simp) fun hsep=>?_
  rw[Tryz.results4]
  have hE:=hsep
  try simp only[zzs] at hE
  repeat(obtain⟨hx',hE⟩:=hE)
  repeat' first
   |with_reducible first|refine Nx.go ?_ |refine Bk.go (fun _=>?_) fun _=>?_ |refine Nb fun nb hnb hnb1 hnb2=>?_
   |simp -dsimp -implicitDefEqProofs (disch:=first|exact Kd|fail) only[go_sem,↓reduceIte,seval, -List.reduceReplicate,List.toList_toArray,hCl,hDl,hCa,hDa]
  refine zfn hsa O.is fun G1 hle1 hs1=>?_
  rw[ha]
  have hE:=hs1
  try simp only[zzs] at hE
  repeat(obtain⟨hx',hE⟩:=hE)
  repeat' first
   |with_reducible first|refine Nx.go ?_ |refine Bk.go (fun _=>?_) fun _=>?_ |refine Nb fun nb hnb hnb1 hnb2=>?_
   |simp -dsimp -implicitDefEqProofs (disch:=first|exact Kd|fail) only[go_sem,↓reduceIte,seval, -List.reduceReplicate,List.toList_toArray,hCl,hDl,hCa,hDa]
   | ((with_reducible refine zme fun G7 hle7 hs7=>?_);(have hE:=hs7;try simp only[zzs] at hE;repeat(obtain⟨hx',hE⟩:=hE)))
  all_goals refine Upd.finL ?_ (hR G7 (hle1.trans hle7)) ?_
  any_goals first|exact Ks|skip
  all_goals rfl
 |true=>
  cases hb:zf1 b 100 with
  |false=>
   refine FnT.body tok [0,1,2,3,4,5,6,7,8,9,10,18] Tryz.func4 rfl Kk Kk (by show _≤52;simp) fun hsep=>?_
   rw[Tryz.results4]
   have hE:=hsep
   try simp only[zzs] at hE
   repeat(obtain⟨hx',hE⟩:=hE)
   repeat' first
    |with_reducible first|refine Nx.go ?_ |refine Bk.go (fun _=>?_) fun _=>?_ |refine Nb fun nb hnb hnb1 hnb2=>?_
    |simp -dsimp -implicitDefEqProofs (disch:=first|exact Kd|fail) only[go_sem,↓reduceIte,seval, -List.reduceReplicate,List.toList_toArray,hCl,hDl,hCa,hDa]
   refine zfn hsa O.is fun G1 hle1 hs1=>?_
   rw[ha]
   have hE:=hs1
   try simp only[zzs] at hE
   repeat(obtain⟨hx',hE⟩:=hE)
   repeat' first
    |with_reducible first|refine Nx.go ?_ |refine Bk.go (fun _=>?_) fun _=>?_ |refine Nb fun nb hnb hnb1 hnb2=>?_
    |simp -dsimp -implicitDefEqProofs (disch:=first|exact Kd|fail) only[go_sem,↓reduceIte,seval, -List.reduceReplicate,List.toList_toArray,hCl,hDl,hCa,hDa]
   refine zfn hsb (P.is.mono hle1) fun G2 hle2 hs2=>?_
   rw[hb]
   have hE:=hs2
   try simp only[zzs] at hE
   repeat(obtain⟨hx',hE⟩:=hE)
   repeat' first
    |with_reducible first|refine Nx.go ?_ |refine Bk.go (fun _=>?_) fun _=>?_ |refine Nb fun nb hnb hnb1 hnb2=>?_
    |simp -dsimp -implicitDefEqProofs (disch:=first|exact Kd|fail) only[go_sem,↓reduceIte,seval, -List.reduceReplicate,List.toList_toArray,hCl,hDl,hCa,hDa]
    | ((with_reducible refine zme fun G7 hle7 hs7=>?_);(have hE:=hs7;try simp only[zzs] at hE;repeat(obtain⟨hx',hE⟩:=hE)))
   all_goals refine Upd.finL ?_ (hR G7 (hle1.trans (hle2.trans hle7))) ?_
   any_goals first|exact Ks|skip
   all_goals rfl
  |true=>
   obtain⟨oka,na⟩:=zj7 ha
   obtain⟨okb,nb0⟩:=zj7 hb
   have hkey:=zyG oka okb O.ofl P.ofl
   obtain⟨x,hx⟩: ∃x,x=zaJ (za8 a):=⟨_,rfl⟩
   obtain⟨y,hy⟩: ∃y,y=zaJ (za8 b):=⟨_,rfl⟩
   have kx:zji a=(x,0):=by rw[zmn oka,hx]
   have ky:zji b=(y,0):=by rw[zmn okb,hy]
   rw[←hx,←hy] at hkey
   have hee:zaF (∀w,zaD a w=zaD b w)=decide (x=y):=by
    by_cases e:x=y
    ·rw[zK (hkey.1 e),decide_eq_true e]
    ·rw[zA fun h=>e (hkey.2 h),decide_eq_false e]
   refine FnT.body tok [0,1,2,3,4,5,6,7,8,9,10,18] Tryz.func4 rfl Kk Kk (by show _≤52;simp) fun hsep=>?_
   rw[Tryz.results4]
   have hE:=hsep
   try simp only[zzs] at hE
   repeat(obtain⟨hx',hE⟩:=hE)
   repeat' first
    |with_reducible first|refine Nx.go ?_ |refine Bk.go (fun _=>?_) fun _=>?_ |refine Nb fun nb hnb hnb1 hnb2=>?_
    |simp -dsimp -implicitDefEqProofs (disch:=first|exact Kd|fail) only[go_sem,↓reduceIte,seval, -List.reduceReplicate,List.toList_toArray,hCl,hDl,hCa,hDa]
   refine zfn hsa O.is fun G1 hle1 hs1=>?_
   rw[ha]
   have hE:=hs1
   try simp only[zzs] at hE
   repeat(obtain⟨hx',hE⟩:=hE)
   repeat' first
    |with_reducible first|refine Nx.go ?_ |refine Bk.go (fun _=>?_) fun _=>?_ |refine Nb fun nb hnb hnb1 hnb2=>?_
    |simp -dsimp -implicitDefEqProofs (disch:=first|exact Kd|fail) only[go_sem,↓reduceIte,seval, -List.reduceReplicate,List.toList_toArray,hCl,hDl,hCa,hDa]
   refine zfn hsb (P.is.mono hle1) fun G2 hle2 hs2=>?_
   rw[hb]
   have hE:=hs2
   try simp only[zzs] at hE
   repeat(obtain⟨hx',hE⟩:=hE)
   have k2:=hle1.trans hle2
   repeat' first
    |with_reducible first|refine Nx.go ?_ |refine Bk.go (fun _=>?_) fun _=>?_ |refine Nb fun nb hnb hnb1 hnb2=>?_
    |simp -dsimp -implicitDefEqProofs (disch:=first|exact Kd|fail) only[go_sem,↓reduceIte,seval, -List.reduceReplicate,List.toList_toArray,hCl,hDl,hCa,hDa]
   refine zxi hsa (hg.mono k2) (O.is.mono k2) fun G3 hle3 hs3=>?_
   rw[kx]
   have hE:=hs3
   try simp only[zzs] at hE
   repeat(obtain⟨hx',hE⟩:=hE)
   have k3:=k2.trans hle3
   repeat' first
    |with_reducible first|refine Nx.go ?_ |refine Bk.go (fun _=>?_) fun _=>?_ |refine Nb fun nb hnb hnb1 hnb2=>?_
    |simp -dsimp -implicitDefEqProofs (disch:=first|exact Kd|fail) only[go_sem,↓reduceIte,seval, -List.reduceReplicate,List.toList_toArray,hCl,hDl,hCa,hDa]
   refine zxi hsb (hg.mono k3) (P.is.mono k3) fun G4 hle4 hs4=>?_
   rw[ky]
   have hE:=hs4
   try simp only[zzs] at hE
   repeat(obtain⟨hx',hE⟩:=hE)
   have k4:=k3.trans hle4
   repeat' first
    |with_reducible first|refine Nx.go ?_ |refine Bk.go (fun _=>?_) fun _=>?_ |refine Nb fun nb hnb hnb1 hnb2=>?_
    |simp -dsimp -implicitDefEqProofs (disch:=first|exact Kd|fail) only[go_sem,↓reduceIte,seval, -List.reduceReplicate,List.toList_toArray,hCl,hDl,hCa,hDa]
   refine zAF hsa hsb oka okb (hg.mono k4) (O.is.mono k4) (P.is.mono k4) fun G5 hle5 hs5=>?_
   rw[hee]
   have hE:=hs5
   try simp only[zzs] at hE
   repeat(obtain⟨hx',hE⟩:=hE)
   have hxx:(x==y)=decide (x=y):=by
    by_cases e:x=y
    ·subst e;simp
    ·rw[decide_eq_false e];simpa using e
   repeat' first
    |with_reducible first|refine Nx.go ?_ |refine Bk.go (fun _=>?_) fun _=>?_ |refine Nb fun nb hnb hnb1 hnb2=>?_
    |simp -dsimp -implicitDefEqProofs (disch:=first|exact Kd|fail) only[go_sem,↓reduceIte,seval, -List.reduceReplicate,List.toList_toArray,hCl,hDl,hCa,hDa]
    | ((with_reducible refine zme fun G7 hle7 hs7=>?_);(have hE:=hs7;try simp only[zzs] at hE;repeat(obtain⟨hx',hE⟩:=hE)))
   ·all_goals refine Upd.finL ?_ (hR G7 (k4.trans (hle5.trans hle7))) ?_
    any_goals first|exact Ks|skip
    all_goals rfl
   ·exact absurd hxx Ka
end Go.Proofs.YtomdbjfdbkejoaaGreatDoor
namespace Go.Proofs.YtomdbjfdbkejoaaGreatDoor.lawPackKeys
open Go Go.V Go.Proofs Go.ChangeShapes Go.WideShapes Go.RowKit
theorem own:ownKnob Tryz.prog.godebug=none:=by kernel_rfl
theorem zzM:Tryz.prog.globalNamed "math/bits.deBruijn64tab" =some 0:=by kernel_rfl
theorem zw4:(Tryz.prog.globals[0]?).map (·.type)=some 185:=by kernel_rfl
theorem zzN:Tryz.prog.cellsOf 185=64:=by kernel_rfl
theorem zzO:Tryz.prog.cellsOf 5=1:=by kernel_rfl
def zzP:List Int:=[0,1,56,2,57,49,28,3,61,58,42,50,38,29,17,4,62,47,59,36,45,43,51,22,53,39,33,30,24,18,12,5,63,55,48,27,60,41,37,16,46,35,44,21,52,32,23,11,54,26,40,15,34,20,31,10,25,14,19,9,13,8,7,6]
theorem zAG {W:World} (h:laidMetH Tryz.prog Rows.packKeysUptoRow.laid W):Lib.TabIs Tryz.prog W "math/bits.deBruijn64tab" .u8 zzP:=
 Lib.tabIs_of_head (rest:=[]) zzM zw4 Tryz.underlying185 Tryz.underlying5 zzO zzN h
theorem zzQ {W:World} (h:laidMetH Tryz.prog Rows.packKeysUptoRow.laid W):zbX (fun b=>W.heap[b]?) 0 0 (zzP.map (Value.int .u8)):=
 zbP.rowAt (W:=W) (fun j hj=>by
  rw[List.length_map] at hj
  have:=(zAG h).cell zzM j hj
  rw[Nat.zero_add,List.getElem_map,this]
  simp [List.getD,hj]) (by decide)
mutual
theorem bulk {H:Type}: ∀d:DataW H,zaA d≤Rows.uptoBulk d
 | .lit l=>by cases l <;> simp [zaA,Rows.uptoBulk]
 | .nil=>by simp [zaA,Rows.uptoBulk]
 | .ptr d=>by have:=bulk d;simp only[zaA,Rows.uptoBulk];omega
 | .slice elems spare=>by have:=bulks elems;have:=bulks spare;simp only[zaA,Rows.uptoBulk];omega
 | .agg parts=>by have:=bulks parts;simp only[zaA,Rows.uptoBulk];omega
 | .iface _ d=>by have:=bulk d;simp only[zaA,Rows.uptoBulk];omega
 | .map entries=>by simp [zaA]
 | .held _=>by simp [zaA,Rows.uptoBulk]
theorem bulks {H:Type}: ∀l:List (DataW H),bulkVs l≤Rows.uptoBulkAll l
 | []=>by simp [bulkVs]
 |d::l=>by have:=bulk d;have:=bulks l;simp only[bulkVs,Rows.uptoBulkAll];omega
end
set_option maxRecDepth 100000 in
theorem contract (H:Type) (enc:TypeId×Value→H) (W:World) (base:Nat) (args:Array Value) (ds gs:List (DataW H)) (before:List MemPlace)
  (hval: ∀ (j:Nat) t v,Tryz.f4.params[j]? =some t→args[j]? =some v→Value.okWide Tryz.prog W .any base t v)
  (hW:DataW.Whole enc Tryz.prog Tryz.f4.params.toList Rows.packKeysSpec.vars false W args.toList ds gs before) (hk:Rows.uptoSmall H (ds++gs)=true) (hL:laidMetH Tryz.prog Rows.packKeysUptoRow.laid W):
  Calls Tryz.prog 4 args W fun e W'=> ∃v,e= .returned v∧Rows.packKeysSpec.post enc Tryz.prog Tryz.f4 false true false false W args v W':=by
 refine zAJ (tb:=4) seatok ⟨_,_,Tryz.func4,rfl,by kernel_rfl⟩ rfl Kk Tryz.underlying4 (fun t ht=>?_) (fun ds hd=>?_) hW ?_
 ·have:=List.all_eq_true.1 (show(Tryz.f4.params.toList.all fun t=>decide (t<Tryz.prog.types.size))=true by kernel_rfl) t ht
  simpa using this
 ·rw[Tryz.params4] at hd
  rcases ds with _| ⟨e0,_| ⟨e1,_| ⟨e9,ds⟩⟩⟩ <;> first|rfl| (simp at hd)
 obtain⟨p,q,hA,hV,rfl,hfz,hnd⟩:=hW
 rw[Tryz.params4] at hA hval
 obtain⟨v0,vs0,d0,ds0,p0,q0,hargs0,rfl,rfl,h0,r_0⟩:=trodAll_cons hA
 obtain⟨v1,vs1,d1,ds1,p1,q1,hargs1,rfl,rfl,h1,r_1⟩:=trodAll_cons r_0
 obtain⟨rfl,rfl,rfl⟩:=trodAll_nil r_1
 obtain rfl:args= #[v0,v1]:=by cases args;simp_all
 obtain⟨rfl,rfl⟩:=trodVars_none hV
 have hb:bulkVs [d0,d1]≤1048576:=Nat.le_trans (bulks _) (of_decide_eq_true hk)
 simp only[bulkVs] at hb
 have htab:=zzQ hL
 obtain⟨a0,s0,w0⟩:=ztA (hval 0 27 v0 rfl rfl) h0
 obtain⟨a1,s1,w1⟩:=ztA (hval 1 27 v1 rfl rfl) h1
 exact zsI (w0 Ko) (w1 Ko) htab s0 s1 fun _ _=>rfl
noncomputable def zjj (os:Os):World:=
 {World.holding Tryz.prog os ⟨#[], #[],[]⟩ with heap:=(World.holding Tryz.prog os ⟨#[], #[],[]⟩).heap.modify 0 fun
   | .cells _ t frozen=> .cells #[.int .u8 0, .int .u8 1, .int .u8 56, .int .u8 2, .int .u8 57, .int .u8 49, .int .u8 28, .int .u8 3, .int .u8 61, .int .u8 58, .int .u8 42, .int .u8 50, .int .u8 38, .int .u8 29, .int .u8 17, .int .u8 4, .int .u8 62, .int .u8 47, .int .u8 59, .int .u8 36, .int .u8 45, .int .u8 43, .int .u8 51, .int .u8 22, .int .u8 53, .int .u8 39, .int .u8 33, .int .u8 30, .int .u8 24, .int .u8 18, .int .u8 12, .int .u8 5, .int .u8 63, .int .u8 55, .int .u8 48, .int .u8 27, .int .u8 60, .int .u8 41, .int .u8 37, .int .u8 16, .int .u8 46, .int .u8 35, .int .u8 44, .int .u8 21, .int .u8 52, .int .u8 32, .int .u8 23, .int .u8 11, .int .u8 54, .int .u8 26, .int .u8 40, .int .u8 15, .int .u8 34, .int .u8 20, .int .u8 31, .int .u8 10, .int .u8 25, .int .u8 14, .int .u8 19, .int .u8 9, .int .u8 13, .int .u8 8, .int .u8 7, .int .u8 6] t frozen
   |o=>o}
theorem zw5 (os:Os):laidMet Tryz.prog Rows.packKeysUptoRow.laid ((zjj os).forCall (fun _ _=>0) ⟨#[], #[.agg (List.replicate 256 (Value.int .u8 0)++[Value.int .i64 0,Value.slice none 0 0,Value.slice none 0 0,Value.slice none 0 0]).toArray, .agg (List.replicate 256 (Value.int .u8 0)++[Value.int .i64 0,Value.slice none 0 0,Value.slice none 0 0,Value.slice none 0 0]).toArray],[]⟩).memory:=
 laidMet_of_run' 8 Kk Kk
theorem reads (os:Os) {H:Type} (enc:TypeId×Value→H): ∃places,DataW.whole enc Tryz.prog ((zjj os).forCall (fun _ _=>0) ⟨#[], #[.agg (List.replicate 256 (Value.int .u8 0)++[Value.int .i64 0,Value.slice none 0 0,Value.slice none 0 0,Value.slice none 0 0]).toArray, .agg (List.replicate 256 (Value.int .u8 0)++[Value.int .i64 0,Value.slice none 0 0,Value.slice none 0 0,Value.slice none 0 0]).toArray],[]⟩).memory Tryz.f4.params.toList Rows.packKeysSpec.vars false (#[.agg (List.replicate 256 (Value.int .u8 0)++[Value.int .i64 0,Value.slice none 0 0,Value.slice none 0 0,Value.slice none 0 0]).toArray, .agg (List.replicate 256 (Value.int .u8 0)++[Value.int .i64 0,Value.slice none 0 0,Value.slice none 0 0,Value.slice none 0 0]).toArray]:Array Value).toList 8=some ([.agg [.agg (List.replicate 256 (.lit (.int .u8 0))), .lit (.int .i64 0), .nil, .nil, .nil], .agg [.agg (List.replicate 256 (.lit (.int .u8 0))), .lit (.int .i64 0), .nil, .nil, .nil]],[],places):=
 ⟨[],by kernel_rfl⟩
set_option maxRecDepth 100000 in
theorem zzR (os:Os) (started:os.Started) (H:Type) (enc:TypeId×Value→H) (F:Stop.Interp):
  ReturnsInHanded {} Tryz.checked os 4 .any ((Rows.OpenSpec.upto Rows.packKeysSpec).preRow enc Tryz.prog Tryz.f4 Rows.packKeysUptoRow.domain false Rows.packKeysUptoRow.laid) (((Rows.OpenSpec.upto Rows.packKeysSpec).at F).post enc Tryz.prog Tryz.f4 false true false false):=by
 obtain⟨places,hx⟩:=reads os enc
 refine returnsInHanded_of_row (C:=Tryz.checked) (s:=Rows.OpenSpec.upto Rows.packKeysSpec) own started Kk Tryz.func4
  (witness_row_at (enc:=enc) (C:=Tryz.checked) false (zjj os) #[.agg (List.replicate 256 (Value.int .u8 0)++[Value.int .i64 0,Value.slice none 0 0,Value.slice none 0 0,Value.slice none 0 0]).toArray, .agg (List.replicate 256 (Value.int .u8 0)++[Value.int .i64 0,Value.slice none 0 0,Value.slice none 0 0,Value.slice none 0 0]).toArray] rfl Kk Kk Kk
   (OpenSpec.preRow_of_cond 8 hx Kk (fun k hk=>by cases hk;kernel_rfl) Kk (zw5 os))) ?_
 intro W base args ds gs before hval hW _ hcond _ hL _ _
 exact contract H enc W base args ds gs before hval hW (hcond _ rfl) hL
theorem zA1:Rows.PackKeysUptoSaid:=
 OpenClaim.holds_of_cond 4 Tryz.f4 rfl rfl rfl rfl rfl rfl rfl ⟨rfl,rfl,rfl,rfl,rfl⟩ rfl rfl rfl rfl rfl Kk Tryz.func4 Kk
  (of_decide_eq_true Kk) (by unfold Func.isWrapper;first| (rw[if_pos (by decide+kernel)];kernel_rfl)| (rw[if_neg (by decide+kernel)];exact⟨rfl,rfl⟩))
  (fun os started H enc _ F=>by rw[OpenClaim.pre_eq_preRow];exact zzR os started H enc F)
theorem plain (f:FuncId) (fn:Func) (hf:Tryz.pinned.checked.prog.funcNamed "doublet/doubletlaw35.PackKeys" =some f) (hfn:Tryz.pinned.checked.prog.funcs[f]? =some fn):
  false=Tryz.pinned.checked.prog.looks []∧ ∀ (j:Nat) t,fn.params[j]? =some t→Tryz.pinned.checked.prog.wantsStandIn t=false:=by
 obtain rfl:f=4:=Option.some.inj ((show Tryz.prog.funcNamed "doublet/doubletlaw35.PackKeys" =some 4 by kernel_rfl).symm.trans hf) |>.symm
 obtain rfl:fn=Tryz.f4:=(Option.some.inj (Tryz.func4.symm.trans hfn)).symm
 refine⟨by kernel_rfl,fun j t ht=>?_⟩
 rw[Tryz.params4] at ht
 have hm:=Array.mem_of_getElem? ht
 simp only[List.mem_toArray,List.mem_cons,List.not_mem_nil,or_false] at hm
 rcases hm with rfl|rfl
 ·exact(show Tryz.prog.wantsStandIn 27=false by kernel_rfl)
 ·exact(show Tryz.prog.wantsStandIn 27=false by kernel_rfl)
theorem proved:Rows.PackKeysUptoCardSaid:=
 Claim7.holds_tied_plain_at .later [] _ _ _ _ zA1 (fun _ h=>by cases h) Kk (fun _ h=>by cases h) packKeysUpto_row_tie rfl ⟨rfl,rfl⟩ Kk rfl plain Kk
end Go.Proofs.YtomdbjfdbkejoaaGreatDoor.lawPackKeys
