/- A part of the proof, joined of several texts: the verification layer, contracts of functions, plain law. -/
import Derived.Test.YtefkpedhbijhkaaGreatDoorW8
set_option maxHeartbeats 64000000
set_option linter.unusedSimpArgs false
set_option linter.unusedVariables false
set_option linter.unusedSectionVars false
namespace Go.Proofs.YtefkpedhbijhkaaGreatDoor
open Go Go.V Go.Proofs
theorem zx9 {i:Nat} (hi:i<256):zaC .and .u8 (i:Int) 63=((i % 64 :Nat):Int):=by
 have h:=zjq (k:= .u8) (x:=(i:Int)) (y:=63) rfl Ko (by show(i:Int) <256;omega) (by decide) (by decide)
 rw[h,Int.toNat_natCast,show(63 :Int).toNat=2 ^ 6 - 1 from rfl,Nat.and_two_pow_sub_one_eq_mod]
theorem zeG (f g:Nat→Nat):zi (zD 4 f) 0 (zD 4 g)=zD 4 g:=by
 unfold zi
 rw[List.take_zero,List.nil_append,List.drop_of_length_le (by rw[zah,zah];omega),List.append_nil]
def zdN (i:Nat):Nat→Nat:=upd (fun _=>0) (i / 64) (2 ^ (i % 64))
def zu1 (f g:Nat→Nat):Nat→Nat:=fun k=>f k|||g k
theorem zpw (i k:Nat):zdN i k<18446744073709551616:=by
 have:=zkx (show i % 64<64 by omega)
 simp only[zdN,upd]
 split
 ·exact this
 ·decide
theorem zu2 (i x:Nat):mem (zdN i) x=decide (x=i):=by
 have:=zpq (fun _=>0) i x
 rw[zjB,Bool.false_or,Nat.zero_or] at this
 exact this
theorem zu3 (f g:Nat→Nat) (x:Nat):mem (zu1 f g) x=(mem f x||mem g x):=by
 unfold mem zu1;rw[Nat.testBit_or]
theorem zya {i:Nat} (hi:i<256) {b:Nat} {e:TypeId} {G:za} {H:zb} {R:Value→za→zb→Prop} (hg:G b=none) (hf:zq H b=some (.cells [.int .u8 (i:Nat)] [] e))
  (hR:R (.agg (zD 4 (zdN i)).toArray) G H):FnT Tryz.prog 110 [.slice (some ⟨b,0,none⟩) 1 1] G H R:=by
 have hq:i / 64<4:=by omega
 have hjj:i % 64<64:=by omega
 have hor:zaC .or .u64 ((0 :Nat):Int) ((2 ^ (i % 64):Nat):Int)=((2 ^ (i % 64):Nat):Int):=by
  have:=zlj (w:=0) (by decide) (zkx hjj)
  rw[Nat.zero_or] at this;exact this
 have hput:zi (zD 4 (fun _=>0)) (i / 64) [.int .u64 ((2 ^ (i % 64):Nat):Int)]=zD 4 (zdN i):=zhh hq _
 have hl4:=zah 4 (fun _=>0)
 have hl5:=zah 4 (zdN i)
 have h63:=zx9 hi
 refine FnT.sep ?_
 refine FnT.body tok [0,2,3,5,6,7,8,9] Tryz.func110 rfl Kk Kk (by show _≤23;simp) fun hsep=>?_
 rw[Tryz.results110]
 have hE:=hsep
 try simp only[zzs] at hE
 repeat(obtain⟨hx',hE⟩:=hE)
 repeat' first
  |with_reducible first|refine Nx.go ?_ |refine Bk.go (fun _=>?_) fun _=>?_ |refine Nb fun nb hnb hnb1 hnb2=>?_
  |simp -dsimp -implicitDefEqProofs (disch:=first|exact Kd|fail) only[go_sem,↓reduceIte,Nat.reduceEqDiff,Nat.reduceAdd,Nat.reduceSub,Nat.reduceMul,Nat.reduceBEq,Nat.reduceLT,Nat.reduceLeDiff,Nat.reduceMod,Nat.reducePow,List.reduceReplicate,UInt8.reduceOfNat,Int.reducePow,Int.reduceDiv,Int.reduceMod,Nat.reduceDiv,Int.reduceNeg,Int.reduceAdd,Int.reduceSub,Int.reduceMul,Int.reduceLE,Int.reduceLT,Int.reduceEq,Int.reduceToNat,reduceCtorEq, -List.reduceReplicate,hf]
 rename_i b1 hb1 hb11 hb12
 have hn1:=zL.neFind hb12 hf
 have hn2:=zL.neFind hnb2.2 hf
 rw[zvI]
 refine Tri.loopU tok [0,2,3,5,6,7,8,9] Kk [2,3,6,7,8] (fun q G' fr H'=> ∃ (j:Nat),j+q=1∧G'=G∧H'=(nb, .cells (zD 4 (if j=0 then fun _=>0 else zdN i)) [] 97):: (b1, .cells (zD 4 (fun _=>0)) [] 97)::H∧fr=[(2, .pointer (some ⟨b1,0,none⟩)),(3, .pointer (some ⟨nb,0,none⟩)),(6, .slice (some ⟨b,0,none⟩) 1 1),(7, .int .i64 1),(8, .int .i64 (j:Nat))]) (1) ?_ ?_
 ·exact Upd.now ⟨0,rfl,rfl,rfl,rfl⟩
 ·rintro q G1 fr H' hle hs1 ⟨j,hj,rfl,rfl,rfl⟩
  have hE:=hs1
  try simp only[zzs] at hE
  repeat(obtain⟨hx',hE⟩:=hE)
  by_cases h0:j=0
  ·subst h0
   repeat' first
    |with_reducible first|refine Nx.go ?_ |refine Bk.go (fun _=>?_) fun _=>?_ |refine Nb fun nb hnb hnb1 hnb2=>?_
    |simp -dsimp -implicitDefEqProofs (disch:=first|exact Kd|fail) only[go_sem,↓reduceIte,Nat.reduceEqDiff,Nat.reduceAdd,Nat.reduceSub,Nat.reduceMul,Nat.reduceBEq,Nat.reduceLT,Nat.reduceLeDiff,Nat.reduceMod,Nat.reducePow,List.reduceReplicate,UInt8.reduceOfNat,Int.reducePow,Int.reduceDiv,Int.reduceMod,Nat.reduceDiv,Int.reduceNeg,Int.reduceAdd,Int.reduceSub,Int.reduceMul,Int.reduceLE,Int.reduceLT,Int.reduceEq,Int.reduceToNat,reduceCtorEq, -List.reduceReplicate,hf,hl4,hq,zgs,zqT,zpr hjj,h63,hor,zdJ,hput,Int.toNat_natCast]
   exact Upd.now ⟨0,by omega,1,by omega,rfl,rfl,rfl⟩
  ·obtain rfl:j=1:=by omega
   repeat' first
    |with_reducible first|refine Nx.go ?_ |refine Bk.go (fun _=>?_) fun _=>?_ |refine Nb fun nb hnb hnb1 hnb2=>?_
    |simp -dsimp -implicitDefEqProofs (disch:=first|exact Kd|fail) only[go_sem,↓reduceIte,Nat.reduceEqDiff,Nat.reduceAdd,Nat.reduceSub,Nat.reduceMul,Nat.reduceBEq,Nat.reduceLT,Nat.reduceLeDiff,Nat.reduceMod,Nat.reducePow,List.reduceReplicate,UInt8.reduceOfNat,Int.reducePow,Int.reduceDiv,Int.reduceMod,Nat.reduceDiv,Int.reduceNeg,Int.reduceAdd,Int.reduceSub,Int.reduceMul,Int.reduceLE,Int.reduceLT,Int.reduceEq,Int.reduceToNat,reduceCtorEq, -List.reduceReplicate,hf,hl4,hl5,zbd,zaY,zeG,List.toList_toArray]
   all_goals refine Upd.finL ?_ (fun _ _=>hR) ?_
   any_goals first|exact Ks|skip
   rfl
def zc6 (l:List (Nat→Nat)):Nat→Nat:=fun k=>l.foldl (fun a f=>a|||f k) 0
def zen (l:List (Nat→Nat)) (j p:Nat):Nat→Nat:=fun k=>if k<p then zc6 (l.take (j+1)) k else zc6 (l.take j) k
theorem zlk {l:List (Nat→Nat)} (hl: ∀f∈l,∀k,f k<18446744073709551616) (k:Nat):zc6 l k<18446744073709551616:=by
 unfold zc6
 suffices h: ∀ (l:List (Nat→Nat)) (a:Nat),(∀f∈l,f k<18446744073709551616)→a<18446744073709551616→l.foldl (fun a f=>a|||f k) a<18446744073709551616 from h l 0 (fun f hf=>hl f hf k) (by decide)
 intro l
 induction l with
 |nil=>exact fun a _ h=>h
 |cons f l ih=>exact fun a h1 h2=>ih _ (fun g hg=>h1 g (List.mem_cons_of_mem _ hg)) (Nat.or_lt_two_pow (n:=64) h2 (h1 f (List.mem_cons_self ..)))
theorem zsX (l:List (Nat→Nat)) (f:Nat→Nat) (k:Nat):zc6 (l++[f]) k=zc6 l k|||f k:=by unfold zc6;rw[List.foldl_append];rfl
theorem zu4 {l:List (Nat→Nat)} (hlen:l.length≤1000) (hl: ∀f∈l,∀k,f k<18446744073709551616) {b:Nat} {sp:List Value} {cap:Nat} {e:TypeId} {G:za} {H:zb} {R:Value→za→zb→Prop} (hg:G b=none) (hf:zq H b=some (.cells (l.flatMap z8) sp e))
  (hR:R (.agg (zD 4 (zc6 l)).toArray) G H):FnT Tryz.prog 109 [.slice (some ⟨b,0,none⟩) l.length cap] G H R:=by
 have hfl:=zaS (enc:=z8) (m:=4) zaN l
 refine FnT.sep ?_
 refine FnT.body tok [0,2,3,5,6,7,8,9,10,11,14,15,16] Tryz.func109 rfl Kk Kk (by show _≤28;simp) fun hsep=>?_
 rw[Tryz.results109]
 have hE:=hsep
 try simp only[zzs] at hE
 repeat(obtain⟨hx',hE⟩:=hE)
 repeat' first
  |with_reducible first|refine Nx.go ?_ |refine Bk.go (fun _=>?_) fun _=>?_ |refine Nb fun nb hnb hnb1 hnb2=>?_
  |simp -dsimp -implicitDefEqProofs (disch:=first|exact Kd|fail) only[go_sem,↓reduceIte,Nat.reduceEqDiff,Nat.reduceAdd,Nat.reduceSub,Nat.reduceMul,Nat.reduceBEq,Nat.reduceLT,Nat.reduceLeDiff,Nat.reduceMod,Nat.reducePow,List.reduceReplicate,UInt8.reduceOfNat,Int.reducePow,Int.reduceDiv,Int.reduceMod,Nat.reduceDiv,Int.reduceNeg,Int.reduceAdd,Int.reduceSub,Int.reduceMul,Int.reduceLE,Int.reduceLT,Int.reduceEq,Int.reduceToNat,reduceCtorEq, -List.reduceReplicate,hf]
 rename_i b1 hb1 hb11 hb12
 have hn1:=zL.neFind hb12 hf
 revert nb
 intro b3 hb3 hb31 hb32
 have hn2:=zL.neFind hb32.2 hf
 rw[zvI]
 refine Tri.loopU tok [0,2,3,5,6,7,8,9,10,11,14,15,16] Kk [2,3,8,9,10] (fun q G' fr H'=> ∃ (j:Nat),j+q=l.length∧G'=G∧H'=(b3, .cells (zD 4 (zc6 (l.take j))) [] 97):: (b1, .cells (zD 4 (fun _=>0)) [] 97)::H∧fr=[(2, .pointer (some ⟨b1,0,none⟩)),(3, .pointer (some ⟨b3,0,none⟩)),(8, .slice (some ⟨b,0,none⟩) l.length cap),(9, .int .i64 l.length),(10, .int .i64 (j:Nat))]) (l.length) ?_ ?_
 ·exact Upd.now ⟨0,by omega,rfl,rfl,rfl⟩
 ·rintro q G1 fr H' hle hs1 ⟨j,hj,rfl,rfl,rfl⟩
  have hE:=hs1
  try simp only[zzs] at hE
  repeat(obtain⟨hx',hE⟩:=hE)
  by_cases hjl:j<l.length
  ·have hget:=zgn (enc:=z8) (m:=4) zaN l j hjl
   have hjf:=hl _ (List.getElem_mem hjl)
   have htk:=List.take_succ_eq_append_getElem hjl
   have hmul:(j+1) * 4≤l.length * 4:=Nat.mul_le_mul_right _ hjl
   have hget':List.take 4 (List.drop (j * 4) (l.flatMap z8++sp))=zD 4 l[j]:=by
    rw[List.drop_append_of_le_length Ko,List.take_append_of_le_length (by rw[List.length_drop];omega)];exact hget
   have hu1:=zlk (l:=l.take j) fun f hf2=>hl f (List.mem_of_mem_take hf2)
   have hl4:=zah 4
   repeat' first
    |with_reducible first|refine Nx.go ?_ |refine Bk.go (fun _=>?_) fun _=>?_ |refine Nb fun nb hnb hnb1 hnb2=>?_
    |simp -dsimp -implicitDefEqProofs (disch:=first|exact Kd|fail) only[go_sem,↓reduceIte,Nat.reduceEqDiff,Nat.reduceAdd,Nat.reduceSub,Nat.reduceMul,Nat.reduceBEq,Nat.reduceLT,Nat.reduceLeDiff,Nat.reduceMod,Nat.reducePow,List.reduceReplicate,UInt8.reduceOfNat,Int.reducePow,Int.reduceDiv,Int.reduceMod,Nat.reduceDiv,Int.reduceNeg,Int.reduceAdd,Int.reduceSub,Int.reduceMul,Int.reduceLE,Int.reduceLT,Int.reduceEq,Int.reduceToNat,reduceCtorEq, -List.reduceReplicate,hf,hfl,hget',hl4,zaY,zb0,zbd,List.toList_toArray]
   revert nb
   intro nc hnc hnc1 hnc2
   refine Tri.loopU tok [0,2,3,5,6,7,8,9,10,11,14,15,16] Kk [2,3,8,9,10,14,15] (fun q2 G' fr H'=> ∃ (p:Nat),p+q2=4∧G'=G1∧H'=(nc, .cells (zD 4 l[j]) [] 97):: (b3, .cells (zD 4 (zen l j p)) [] 97):: (b1, .cells (zD 4 (fun _=>0)) [] 97)::H∧fr=[(2, .pointer (some ⟨b1,0,none⟩)),(3, .pointer (some ⟨b3,0,none⟩)),(8, .slice (some ⟨b,0,none⟩) l.length cap),(9, .int .i64 l.length),(10, .int .i64 (j:Nat)),(14, .agg (zD 4 l[j]).toArray),(15, .int .i64 (p:Nat))]) (4) ?_ ?_
   ·exact Upd.now ⟨0,by omega,rfl,by rw[show zen l j 0=zc6 (l.take j) from funext fun k=>if_neg Ko],rfl⟩
   ·rintro q2 G2 fr H' hle2 hs2 ⟨p,hp,rfl,rfl,rfl⟩
    have hE:=hs2
    try simp only[zzs] at hE
    repeat(obtain⟨hx',hE⟩:=hE)
    by_cases hp4:p<4
    ·have hul: ∀k,zen l j p k<18446744073709551616:=fun k=>by
      unfold zen;split
      ·exact zlk (l:=l.take (j+1)) (fun f hf2=>hl f (List.mem_of_mem_take hf2)) k
      ·exact hu1 k
     have hor:=zlj (hul p) (hjf p)
     have hget2:(zD 4 l[j])[p]? =some (.int .u64 (l[j] p)):=by rw[List.getElem?_eq_getElem (by rw[hl4];exact hp4),zdJ]
     have hget3:(zD 4 (zen l j p))[p]? =some (.int .u64 (zen l j p p:Nat)):=by rw[List.getElem?_eq_getElem (by rw[hl4];exact hp4),zdJ]
     have hput:zi (zD 4 (zen l j p)) p [.int .u64 ((zen l j p p|||l[j] p:Nat):Int)]=zD 4 (zen l j (p+1)):=by
      rw[zhh hp4]
      congr 1
      funext k
      unfold upd
      by_cases e:k=p
      ·subst e
       rw[if_pos rfl]
       unfold zen
       rw[if_neg (Nat.lt_irrefl _),if_pos (Nat.lt_succ_self _),htk,zsX]
      ·rw[if_neg e]
       unfold zen
       by_cases h:k<p
       ·rw[if_pos h,if_pos Ko]
       ·rw[if_neg h,if_neg Ko]
     repeat' first
      |with_reducible first|refine Nx.go ?_ |refine Bk.go (fun _=>?_) fun _=>?_ |refine Nb fun nb hnb hnb1 hnb2=>?_
      |simp -dsimp -implicitDefEqProofs (disch:=first|exact Kd|fail) only[go_sem,↓reduceIte,Nat.reduceEqDiff,Nat.reduceAdd,Nat.reduceSub,Nat.reduceMul,Nat.reduceBEq,Nat.reduceLT,Nat.reduceLeDiff,Nat.reduceMod,Nat.reducePow,List.reduceReplicate,UInt8.reduceOfNat,Int.reducePow,Int.reduceDiv,Int.reduceMod,Nat.reduceDiv,Int.reduceNeg,Int.reduceAdd,Int.reduceSub,Int.reduceMul,Int.reduceLE,Int.reduceLT,Int.reduceEq,Int.reduceToNat,reduceCtorEq, -List.reduceReplicate,hf,hl4,hor,hget2,hget3,hput,zdJ,zaY,zb0,zbd,List.toList_toArray,zgR]
     exact Upd.now ⟨q2 - 1,by omega,p+1,by omega,rfl,rfl,rfl⟩
    ·obtain rfl:p=4:=by omega
     rw[show zD 4 (zen l j 4)=zD 4 (zc6 (l.take (j+1))) from List.map_congr_left fun k hk=>by rw[List.mem_range] at hk;unfold zen;rw[if_pos hk]]
     repeat' first
      |with_reducible first|refine Nx.go ?_ |refine Bk.go (fun _=>?_) fun _=>?_ |refine Nb fun nb hnb hnb1 hnb2=>?_
      |simp -dsimp -implicitDefEqProofs (disch:=first|exact Kd|fail) only[go_sem,↓reduceIte,Nat.reduceEqDiff,Nat.reduceAdd,Nat.reduceSub,Nat.reduceMul,Nat.reduceBEq,Nat.reduceLT,Nat.reduceLeDiff,Nat.reduceMod,Nat.reducePow,List.reduceReplicate,UInt8.reduceOfNat,Int.reducePow,Int.reduceDiv,Int.reduceMod,Nat.reduceDiv,Int.reduceNeg,Int.reduceAdd,Int.reduceSub,Int.reduceMul,Int.reduceLE,Int.reduceLT,Int.reduceEq,Int.reduceToNat,reduceCtorEq, -List.reduceReplicate]
     refine Upd.go (H':=(b3, .cells (zD 4 (zc6 (l.take (j+1)))) [] 97):: (b1, .cells (zD 4 (fun _=>0)) [] 97)::H) Ks (Upd.now ⟨q - 1,by omega,j+1,by omega,rfl,rfl,rfl⟩)
  ·obtain rfl:j=l.length:=by omega
   repeat' first
    |with_reducible first|refine Nx.go ?_ |refine Bk.go (fun _=>?_) fun _=>?_ |refine Nb fun nb hnb hnb1 hnb2=>?_
    |simp -dsimp -implicitDefEqProofs (disch:=first|exact Kd|fail) only[go_sem,↓reduceIte,Nat.reduceEqDiff,Nat.reduceAdd,Nat.reduceSub,Nat.reduceMul,Nat.reduceBEq,Nat.reduceLT,Nat.reduceLeDiff,Nat.reduceMod,Nat.reducePow,List.reduceReplicate,UInt8.reduceOfNat,Int.reducePow,Int.reduceDiv,Int.reduceMod,Nat.reduceDiv,Int.reduceNeg,Int.reduceAdd,Int.reduceSub,Int.reduceMul,Int.reduceLE,Int.reduceLT,Int.reduceEq,Int.reduceToNat,reduceCtorEq, -List.reduceReplicate,hf,zbd,zaY,zah,zeG,List.toList_toArray,List.take_length]
   all_goals refine Upd.finL ?_ (fun _ _=>hR) ?_
   any_goals first|exact Ks|skip
   rfl
end Go.Proofs.YtefkpedhbijhkaaGreatDoor
namespace Go.Proofs.YtefkpedhbijhkaaGreatDoor
open Go Go.V Go.Proofs
theorem zwC (w:Nat):0<w→ ∃t,w.testBit t=true∧(∀j,j<t→w.testBit j=false)∧(∀j,(w&&& (w - 1)).testBit j=(w.testBit j&&decide (j≠t)))∧ ∀N,w<2 ^ N→w&&& (2 ^ N - w)=2 ^ t:=by
 induction w using Nat.strongRecOn with
 |_ w ih=>
  intro hw
  by_cases ho:w % 2=1
  ·refine⟨0,by rw[Nat.testBit_zero];simpa using ho,fun j hj=>absurd hj (Nat.not_lt_zero _),fun j=>?_,fun N hN=>?_⟩
   ·cases j with
    |zero=>rw[Nat.testBit_and,Nat.testBit_zero,Nat.testBit_zero];simp;omega
    |succ j=>rw[Nat.testBit_and,Nat.testBit_succ,Nat.testBit_succ,show(w - 1) / 2=w / 2 by omega];simp
   ·cases N with
    |zero=>omega
    |succ M=>
     have hp:2 ^ (M+1)=2 * 2 ^ M:=by rw[Nat.pow_succ];omega
     apply Nat.eq_of_testBit_eq
     intro j
     cases j with
     |zero=>rw[Nat.testBit_and,Nat.testBit_zero,Nat.testBit_zero];simp;omega
     |succ j=>
      rw[Nat.testBit_and,Nat.testBit_succ,Nat.testBit_succ,show(2 ^ (M+1) - w) / 2=2 ^ M - (w / 2+1) by omega,Nat.testBit_two_pow_sub_succ Ko]
      have:(2 ^ 0 :Nat).testBit (j+1)=false:=by rw[Nat.testBit_succ];simp
      rw[this]
      cases (w / 2).testBit j <;> simp
  ·obtain⟨t,h1,h2,h3,h4⟩:=ih (w / 2) Ko Ko
   refine⟨t+1,by rw[Nat.testBit_succ];exact h1,fun j hj=>?_,fun j=>?_,fun N hN=>?_⟩
   ·cases j with
    |zero=>rw[Nat.testBit_zero];simpa using ho
    |succ j=>rw[Nat.testBit_succ];exact h2 j Ko
   ·cases j with
    |zero=>rw[Nat.testBit_and,Nat.testBit_zero];simp [ho]
    |succ j=>
     have:=h3 j
     rw[Nat.testBit_and] at this⊢
     rw[Nat.testBit_succ,Nat.testBit_succ,show(w - 1) / 2=w / 2 - 1 by omega,this]
     congr 1
     rw[decide_eq_decide];omega
   ·cases N with
    |zero=>omega
    |succ M=>
     have hp:2 ^ (M+1)=2 * 2 ^ M:=by rw[Nat.pow_succ];omega
     apply Nat.eq_of_testBit_eq
     intro j
     cases j with
     |zero=>
      rw[Nat.testBit_and,Nat.testBit_zero,Nat.testBit_zero]
      have:2 ^ (t+1) % 2=0:=by rw[Nat.pow_succ];omega
      simp [ho,this]
     |succ j=>
      have:=h4 M Ko
      rw[Nat.testBit_and,Nat.testBit_succ,Nat.testBit_succ,show(2 ^ (M+1) - w) / 2=2 ^ M - w / 2 by omega,←Nat.testBit_and,this,Nat.testBit_succ,show 2 ^ (t+1) / 2=2 ^ t by rw[Nat.pow_succ];omega]
def zxm:List Nat:=[0,1,56,2,57,49,28,3,61,58,42,50,38,29,17,4,62,47,59,36,45,43,51,22,53,39,33,30,24,18,12,5,63,55,48,27,60,41,37,16,46,35,44,21,52,32,23,11,54,26,40,15,34,20,31,10,25,14,19,9,13,8,7,6]
theorem zxn: ∀t:Fin 64,zxm[(2 ^ t.val * 285870213051353865 % 18446744073709551616) / 288230376151711744]? =some t.val:=by decide+kernel
theorem zxo {w t:Nat} (h:w<18446744073709551616) (ht:w.testBit t=true):t<64:=by
 rcases Nat.lt_or_ge t 64 with h1|h1
 ·exact h1
 ·rw[Nat.testBit_lt_two_pow (Nat.lt_of_lt_of_le (show w<2 ^ 64 from h) (Nat.pow_le_pow_right (by decide) h1))] at ht
  cases ht
def zrd:List Value:=zxm.map fun x=>Value.int .u8 (x:Nat)
def zb3 (G:za):Prop:=zbw G 0 0 zrd
theorem zb3.mono {G G':za} (h:zb3 G) (hle:PLe G G'):zb3 G':=by
 obtain⟨c,e,fr,h1,h2,h3⟩:=h
 exact⟨c,e,fr,hle _ _ h1,h2,h3⟩
theorem zyT (w t:Nat) (hw:w<18446744073709551616) (h0:0<w) (ht:t<64) (hb:w&&& (2 ^ 64 - w)=2 ^ t) {G:za} {H:zb} {R:Value→za→zb→Prop} (hg:zb3 G)
  (hR:R (.int .i64 t) G H):FnT Tryz.prog 136 [.int .u64 w] G H R:=by
 obtain⟨q,hq⟩: ∃q,q=2 ^ t * 285870213051353865 % 18446744073709551616 / 288230376151711744:=⟨_,rfl⟩
 have htab:=zxn ⟨t,ht⟩
 simp only[] at htab
 rw[←hq] at htab
 obtain⟨hq64,hqv⟩:=List.getElem?_eq_some_iff.1 htab
 have hq2:q<64:=hq64
 have hneg:IntKind.u64.wrap (0 - (w:Int))=((18446744073709551616 - w:Nat):Int):=by
  simp only[IntKind.wrap,IntKind.bits,IntKind.signed];simp;omega
 have hb2:w&&& (18446744073709551616 - w)=2 ^ t:=hb
 have hx:IntKind.u64.wrap (((2 ^ t:Nat):Int) * 285870213051353865) / 288230376151711744=(q:Int):=by
  rw[hq]
  generalize 2 ^ t=z
  simp only[IntKind.wrap,IntKind.bits,IntKind.signed]
  simp
 have hvl:zrd.length=64:=rfl
 have hget:zrd[q]'(by rw[hvl];exact hq2)= .int .u8 (t:Nat):=by
  unfold zrd
  rw[List.getElem_map,hqv]
 have hw0:(w:Int)≠0:=by omega
 refine FnT.body tok [0,2,4] Tryz.func136 rfl Kk Kk (by show _≤14;simp) fun hsep=>?_
 rw[Tryz.results136]
 have hE:=hsep
 try simp only[zzs] at hE
 repeat(obtain⟨hx',hE⟩:=hE)
 repeat' first
  |with_reducible first|refine Nx.go ?_ |refine Bk.go (fun _=>?_) fun _=>?_ |refine Nb fun nb hnb hnb1 hnb2=>?_ |refine Nr fun nb nsp ncap hnb hncap hnb1 hnb2=>?_
  |simp -dsimp -implicitDefEqProofs (disch:=first|exact Kd|fail) only[go_sem,↓reduceIte,seval,hneg,hb2,hx,zbw.obj0 hg,hget,hvl]
 all_goals refine Upd.finL ?_ hR ?_
 any_goals first|exact Ks|skip
 rfl
def elems (n:Nat) (ws:Nat→Nat):List Nat:=(List.range n).filter (mem ws)
theorem zkE {ws:Nat→Nat} {a:Nat}: ∀ {b:Nat},a≤b→(∀i,a≤i→i<b→mem ws i=false)→elems b ws=elems a ws
 |b,hab,h=>by
  unfold elems
  obtain⟨d,rfl⟩:=Nat.exists_eq_add_of_le hab
  clear hab
  induction d with
  |zero=>rfl
  |succ d ih=>
   rw[show a+(d+1)=(a+d)+1 by omega,List.range_succ,List.filter_append,ih fun i h1 h2=>h i h1 Ko]
   simp [h (a+d) Ko Ko]
theorem zsY {ws:Nat→Nat} {a:Nat} (h:mem ws a=true):elems (a+1) ws=elems a ws++[a]:=by
 unfold elems;rw[List.range_succ,List.filter_append];simp [h]
theorem zu5 (lr bx:Nat) {ws:Nat→Nat} (hw: ∀k,ws k<18446744073709551616) {G:za} {HC:zb} {R:Value→za→zb→Prop} (hg:zb3 G)
  (J Jx:List Nat→za→zb→Prop)
  (hY: ∀x G1 H1,PLe G G1→Sep G1 (zk ((bx,Res.cells (zD 4 ws) [] 97)::H1))→J (elems x ws) G1 H1→x<256→mem ws x=true→zbK Tryz.prog lr [.int .u8 (x:Nat)] G1 ((bx, .cells (zD 4 ws) [] 97)::H1) fun v G2 H2=> ∃H3,H2=(bx, .cells (zD 4 ws) [] 97)::H3∧((v= .bool true∧J (elems x ws++[x]) G2 H3)∨(v= .bool false∧Jx (elems x ws++[x]) G2 H3)))
  (h0:J [] G HC)
  (hR: ∀G' H',PLe G G'→Sep G' (zk ((bx,Res.cells (zD 4 ws) [] 97)::H'))→(J (elems 256 ws) G' H'∨ ∃pre,Jx pre G' H')→R (.tuple #[]) G' ((bx, .cells (zD 4 ws) [] 97)::H')):
  FnT Tryz.prog 135 [.func (.yield lr) #[] #[], .pointer (some ⟨bx,0,none⟩)] G ((bx, .cells (zD 4 ws) [] 97)::HC) R:=by
 have hl:=zah 4 ws
 refine FnT.body tok [0,1,3,4,5,6,7,11,24] Tryz.func135 rfl Kk Kk (by show _≤26;simp) fun hsep=>?_
 rw[Tryz.results135]
 have hE:=hsep
 try simp only[zzs] at hE
 repeat(obtain⟨hx',hE⟩:=hE)
 repeat' first
  |with_reducible first|refine Nx.go ?_ |refine Bk.go (fun _=>?_) fun _=>?_ |refine Nb fun nb hnb hnb1 hnb2=>?_ |refine Nr fun nb nsp ncap hnb hncap hnb1 hnb2=>?_
  |simp -dsimp -implicitDefEqProofs (disch:=first|exact Kd|fail) only[go_sem,↓reduceIte,seval,zbd,List.toList_toArray,hl]
 refine Tri.loopU tok [0,1,3,4,5,6,7,11,24] Kk [0,1,5,6] (fun q G' fr H'=> ∃ (k:Nat) (H1:zb),k+q=4∧PLe G G'∧J (elems (k * 64) ws) G' H1∧H'=(bx, .cells (zD 4 ws) [] 97)::H1∧fr=[(0, .func (.yield lr) #[] #[]),(1, .pointer (some ⟨bx,0,none⟩)),(5, .agg (zD 4 ws).toArray),(6, .int .i64 k)]) (4) ?_ ?_
 ·exact Upd.now ⟨0,HC,by omega,PLe.refl _,h0,rfl,rfl⟩
 ·rintro q G1 fr H' hle hs ⟨k,H1,hk,hle1,hJ,rfl,rfl⟩
  have hE:=hs
  try simp only[zzs] at hE
  repeat(obtain⟨hx',hE⟩:=hE)
  by_cases hkn:k<4
  ·have hwk:=hw k
   have hget2:(zD 4 ws)[k]? =some (.int .u64 (ws k)):=by rw[List.getElem?_eq_getElem (by rw[hl];exact hkn),zdJ]
   repeat' first
    |with_reducible first|refine Nx.go ?_ |refine Bk.go (fun _=>?_) fun _=>?_ |refine Nb fun nb hnb hnb1 hnb2=>?_ |refine Nr fun nb nsp ncap hnb hncap hnb1 hnb2=>?_
    |simp -dsimp -implicitDefEqProofs (disch:=first|exact Kd|fail) only[go_sem,↓reduceIte,seval,hl,hget2,zgR,List.toList_toArray]
   refine Tri.loopU tok [0,1,3,4,5,6,7,11,24] Kk [0,1,3,4,5,6] (fun q2 G' fr H'=> ∃ (p w:Nat) (H2:zb),p+q2=64∧w<18446744073709551616∧(∀j,w.testBit j=((ws k).testBit j&&decide (p≤j)))∧PLe G G'∧J (elems (k * 64+p) ws) G' H2∧H'=(bx, .cells (zD 4 ws) [] 97)::H2∧fr=[(0, .func (.yield lr) #[] #[]),(1, .pointer (some ⟨bx,0,none⟩)),(3, .int .i64 k),(4, .int .u64 w),(5, .agg (zD 4 ws).toArray),(6, .int .i64 k)]) (64) ?_ ?_
   ·exact Upd.now ⟨0,ws k,H1,by omega,hwk,fun j=>by simp,hle1,hJ,rfl,rfl⟩
   ·rintro q2 G2 fr H' hle2 hs2 ⟨p,w,H2,hp,hwl,hwb,hle3,hJ2,rfl,rfl⟩
    have hg2:=hg.mono hle3
    by_cases hw0:w=0
    ·subst hw0
     have hnone: ∀i,k * 64+p≤i→i< (k+1) * 64→mem ws i=false:=fun i h1 h2=>by
      have hb:=hwb (i - k * 64)
      rw[Nat.zero_testBit,decide_eq_true Ko,Bool.and_true] at hb
      rw[show i=k * 64+(i - k * 64) by omega,znk _ _ _ Ko]
      exact hb.symm
     have he:=zkE (b:=(k+1) * 64) Ko hnone
     rw[←he] at hJ2
     repeat' first
      |with_reducible first|refine Nx.go ?_ |refine Bk.go (fun _=>?_) fun _=>?_ |refine Nb fun nb hnb hnb1 hnb2=>?_ |refine Nr fun nb nsp ncap hnb hncap hnb1 hnb2=>?_
      |simp -dsimp -implicitDefEqProofs (disch:=first|exact Kd|fail) only[go_sem,↓reduceIte,seval]
     exact Upd.now ⟨q - 1,by omega,k+1,H2,by omega,hle3,hJ2,rfl,rfl⟩
    ·obtain⟨t,ht1,ht2,ht3,ht4⟩:=zwC w Ko
     have ht64:=zxo hwl ht1
     have hbt:=hwb t
     rw[ht1] at hbt
     simp only[Bool.true_eq,Bool.and_eq_true,decide_eq_true_eq] at hbt
     have hmem:mem ws (k * 64+t)=true:=by rw[znk _ _ _ ht64];exact hbt.1
     have hlt:k * 64+t<256:=by omega
     have hskip:elems (k * 64+t) ws=elems (k * 64+p) ws:=zkE Ko fun i h1 h2=>by
      have hb:=hwb (i - k * 64)
      rw[ht2 _ Ko,decide_eq_true Ko,Bool.and_true] at hb
      rw[show i=k * 64+(i - k * 64) by omega,znk _ _ _ Ko]
      exact hb.symm
     have hhit:=zsY hmem
     have hcast:((k:Int) * 64+t)=((k * 64+t:Nat):Int):=by simp
     have hw1:((w:Int) - 1).toNat=w - 1:=by omega
     have hws:w&&& (w - 1) <18446744073709551616:=Nat.lt_of_le_of_lt Nat.and_le_left hwl
     have hw0':(w:Int)≠0:=by omega
     repeat' first
      |with_reducible first|refine Nx.go ?_ |refine Bk.go (fun _=>?_) fun _=>?_ |refine Nb fun nb hnb hnb1 hnb2=>?_ |refine Nr fun nb nsp ncap hnb hncap hnb1 hnb2=>?_
      |simp -dsimp -implicitDefEqProofs (disch:=first|exact Kd|fail) only[go_sem,↓reduceIte,seval,hw1]
      |with_reducible refine zyT w t hwl Ko ht64 (ht4 64 hwl) hg2 ?_
     rw[hcast]
     rw[←hskip] at hJ2
     refine zbK.mono (hY (k * 64+t) G2 H2 hle3 hs2 hJ2 hlt hmem) ?_
     rintro v G3 H3' hle4 hs4 ⟨H3,rfl,⟨rfl,hJ3⟩| ⟨rfl,hJ3⟩⟩
     ·rw[←hhit] at hJ3
      repeat' first
       |with_reducible first|refine Nx.go ?_ |refine Bk.go (fun _=>?_) fun _=>?_ |refine Nb fun nb hnb hnb1 hnb2=>?_ |refine Nr fun nb nsp ncap hnb hncap hnb1 hnb2=>?_
       |simp -dsimp -implicitDefEqProofs (disch:=first|exact Kd|fail) only[go_sem,↓reduceIte,seval,hw1]
      exact Upd.now ⟨64 - (t+1),by omega,t+1,w&&& (w - 1),H3,by omega,hws,fun j=>by
       rw[ht3]
       rcases Nat.lt_trichotomy j t with h|h|h
       ·rw[ht2 j h,decide_eq_false (show ¬t+1≤j by omega)];simp
       ·subst h;rw[decide_eq_false (show ¬j+1≤j by omega)];simp
       ·rw[hwb,decide_eq_true (show p≤j by omega),decide_eq_true (show j≠t by omega),decide_eq_true (show t+1≤j by omega)];simp,hle3.trans hle4,hJ3,rfl,rfl⟩
     ·repeat' first
       |with_reducible first|refine Nx.go ?_ |refine Bk.go (fun _=>?_) fun _=>?_ |refine Nb fun nb hnb hnb1 hnb2=>?_ |refine Nr fun nb nsp ncap hnb hncap hnb1 hnb2=>?_
       |simp -dsimp -implicitDefEqProofs (disch:=first|exact Kd|fail) only[go_sem,↓reduceIte,seval]
      all_goals refine Upd.finL ?_ (hR G3 H3 (hle3.trans hle4) hs4 (.inr ⟨_,hJ3⟩)) ?_
      any_goals first|exact Ks|skip
      rfl
  ·obtain rfl:k=4:=by omega
   repeat' first
    |with_reducible first|refine Nx.go ?_ |refine Bk.go (fun _=>?_) fun _=>?_ |refine Nb fun nb hnb hnb1 hnb2=>?_ |refine Nr fun nb nsp ncap hnb hncap hnb1 hnb2=>?_
    |simp -dsimp -implicitDefEqProofs (disch:=first|exact Kd|fail) only[go_sem,↓reduceIte,seval]
   all_goals refine Upd.finL ?_ (hR G1 H1 hle1 hs (.inl hJ)) ?_
   any_goals first|exact Ks|skip
   rfl
theorem zre:V.Callee Tryz.prog 135:=⟨_,_,Tryz.func135,rfl,by kernel_rfl⟩
theorem zwD {ws:Nat→Nat} {G:za} {H:zb} {R:Value→za→zb→Prop} (hR: ∀bx,Sep G (bx::zk H)→R (.func (.func 135) #[] #[.pointer (some ⟨bx,0,none⟩)]) G ((bx, .cells (zD 4 ws) [] 97)::H)):FnT Tryz.prog 111 [.agg (zD 4 ws).toArray] G H R:=by
 have hl:=zah 4 ws
 refine FnT.body tok [0,1,2] Tryz.func111 rfl Kk Kk (by show _≤4;simp) fun hsep=>?_
 rw[Tryz.results111]
 have hE:=hsep
 try simp only[zzs] at hE
 repeat(obtain⟨hx',hE⟩:=hE)
 repeat' first
  |with_reducible first|refine Nx.go ?_ |refine Bk.go (fun _=>?_) fun _=>?_ |refine Nb fun nb hnb hnb1 hnb2=>?_
  |simp -dsimp -implicitDefEqProofs (disch:=first|exact Kd|fail) only[go_sem,↓reduceIte,seval,hl,zbd,zaY,zb0,zeG,List.toList_toArray]
 exact Upd.fin (hR nb hnb) rfl
theorem znD {ws:Nat→Nat} (hw: ∀k,ws k<18446744073709551616) {x:Nat} (hx:x<256) (hm:mem ws x=true) (hmin: ∀y,y<x→mem ws y=false) {G:za} {H:zb} {R:Value→za→zb→Prop} (hg:zb3 G)
  (hR:R (.int .i64 (x:Nat)) G H):FnT Tryz.prog 81 [.agg (zD 4 ws).toArray] G H R:=by
 have hl:=zah 4 ws
 refine FnT.body tok [0,1,2,3,5,6] Tryz.func81 rfl Kk Kk (by show _≤9;simp) fun hsep=>?_
 rw[Tryz.results81]
 have hE:=hsep
 try simp only[zzs] at hE
 repeat(obtain⟨hx',hE⟩:=hE)
 repeat' first
  |with_reducible first|refine Nx.go ?_ |refine Bk.go (fun _=>?_) fun _=>?_ |refine Nb fun nb hnb hnb1 hnb2=>?_ |refine Nr fun nb nsp ncap hnb hncap hnb1 hnb2=>?_
  |simp -dsimp -implicitDefEqProofs (disch:=first|exact Kd|fail) only[go_sem,↓reduceIte,seval,hl,zbd,zaY,zb0,zeG,List.toList_toArray]
 rename_i b1 hb1 hb11 hb12
 revert nb
 intro b2 hb2 hb21 hb22
 refine zwD fun bx hbx=>?_
 repeat' first
  |with_reducible first|refine Nx.go ?_ |refine Bk.go (fun _=>?_) fun _=>?_ |refine Nb fun nb hnb hnb1 hnb2=>?_ |refine Nr fun nb nsp ncap hnb hncap hnb1 hnb2=>?_
  |simp -dsimp -implicitDefEqProofs (disch:=first|exact Kd|fail) only[go_sem,↓reduceIte,seval]
 refine Tri.rangeF2 tok [0,1,2,3,5,6] rfl zre Kk fun lr Rr Rb hlr yl=>?_
 have hE:=hlr
 try simp only[zzs] at hE
 repeat(obtain⟨hx',hE⟩:=hE)
 refine FnT.leave (H':=(bx, .cells (zD 4 ws) [] 97):: (lr,Rr .normal):: (b2, .cells [.int .i64 0] [] 3):: (b1, .cells (zD 4 ws) [] 97)::H) ?_ Ks
 refine zu5 lr bx hw hg (fun pre G' H'=>G'=G∧pre=[]∧H'=(lr,Rr .normal):: (b2, .cells [.int .i64 0] [] 3):: (b1, .cells (zD 4 ws) [] 97)::H) (fun pre G' H'=>G'=G∧H'=(lr,Rr .ret):: (b2, .cells [.int .i64 (x:Nat)] [] 3):: (b1, .cells (zD 4 ws) [] 97)::H) ?_ ⟨rfl,rfl,rfl⟩ ?_
 ·rintro y _ _ hle1 hs1 ⟨rfl,hpre,rfl⟩ hy hm1
  have hE:=hs1
  try simp only[zzs] at hE
  repeat(obtain⟨hx',hE⟩:=hE)
  obtain rfl:y=x:=by
   rcases Nat.lt_trichotomy y x with h|h|h
   ·rw[hmin y h] at hm1;cases hm1
   ·exact h
   ·have hin:x∈elems y ws:=List.mem_filter.2 ⟨List.mem_range.2 h,hm⟩
    rw[hpre] at hin;cases hin
  refine yl rfl ?_ ?_
  ·simp -dsimp -implicitDefEqProofs (disch:=first|exact Kd|fail) only[go_sem,↓reduceIte,seval]
  ·repeat' first
    |with_reducible first|refine Nx.go ?_ |refine Bk.go (fun _=>?_) fun _=>?_ |refine Nb fun nb hnb hnb1 hnb2=>?_ |refine Nr fun nb nsp ncap hnb hncap hnb1 hnb2=>?_
    |simp -dsimp -implicitDefEqProofs (disch:=first|exact Kd|fail) only[go_sem,↓reduceIte,seval]
   exact⟨_,rfl, .inr rfl⟩
 ·rintro _ _ hle1 hs1 (⟨rfl,hpre,rfl⟩| ⟨_,rfl,rfl⟩)
  ·have hin:x∈elems 256 ws:=List.mem_filter.2 ⟨List.mem_range.2 hx,hm⟩
   rw[hpre] at hin;cases hin
  ·have hE:=hs1
   try simp only[zzs] at hE
   repeat(obtain⟨hx',hE⟩:=hE)
   refine⟨.ret,?_,?_⟩
   ·simp -dsimp -implicitDefEqProofs (disch:=first|exact Kd|fail) only[go_sem,↓reduceIte,seval]
   ·repeat' first
     |with_reducible first|refine Nx.go ?_ |refine Bk.go (fun _=>?_) fun _=>?_ |refine Nb fun nb hnb hnb1 hnb2=>?_ |refine Nr fun nb nsp ncap hnb hncap hnb1 hnb2=>?_
     |simp -dsimp -implicitDefEqProofs (disch:=first|exact Kd|fail) only[go_sem,↓reduceIte,seval]
    all_goals refine Upd.finL ?_ hR ?_
    any_goals first|exact Ks|skip
    rfl
end Go.Proofs.YtefkpedhbijhkaaGreatDoor
namespace Go.Proofs.YtefkpedhbijhkaaGreatDoor
open Go Go.V Go.Proofs
theorem zoZ (W:List (Nat→Nat)) {k:Nat} (hk:k<W.length) (ws:Nat→Nat):zi (W.flatMap z8) (k * 4) (zD 4 ws)=(W.set k ws).flatMap z8:=by
 have hd:=zfA (enc:=z8) (m:=4) zaN W (k+1)
 have hl:=zah 4 ws
 have ht: ∀ (V:List (Nat→Nat)) (i:Nat),(V.flatMap z8).take (i * 4)=(V.take i).flatMap z8:=by
  intro V
  induction V with
  |nil=>intro i;simp
  |cons v V ih=>
   intro i
   cases i with
   |zero=>simp
   |succ i=>
    rw[List.flatMap_cons,List.take_succ_cons,List.flatMap_cons,show(i+1) * 4=(z8 v).length+i * 4 by rw[zaN];omega,List.take_length_add_append,ih]
 unfold zi
 rw[ht,hl,show k * 4+4=(k+1) * 4 by omega,hd,List.set_eq_take_append_cons_drop,if_pos hk,List.flatMap_append,List.flatMap_cons]
 simp [z8]
def zd6 (l:List Int) (c:Nat) (W:List (Nat→Nat)):Prop:=
 W.length=(zl l).length∧(∀ws∈W,∀k,ws k<18446744073709551616)∧ ∀i d (hi:i<W.length),mem W[i] d=decide (d<c∧nD l d=i)
theorem zd6.all {l:List Int} (hl:l.length=256) {W:List (Nat→Nat)} (h:zd6 l 256 W):zd2 l 256 W:=by
 obtain⟨h1,h2,h3⟩:=h
 have hlt:l.take 256=l:=List.take_of_length_le Ko
 unfold zd2
 simp only[hlt]
 refine⟨h1,h2,fun i d hi hd h4=>?_⟩
 rw[h3 i d hi]
 refine decide_eq_decide.2 ?_
 rw[zlN hd h4]
 exact⟨fun h=>h.2,fun h=>⟨by omega,h⟩⟩
theorem zd6.zero (l:List Int):zd6 l 0 (List.replicate (zl l).length fun _=>0):=by
 refine⟨List.length_replicate,fun ws hws k=>?_,fun i d hi=>?_⟩
 ·rw[(List.mem_replicate.1 hws).2];exact Nat.zero_lt_succ _
 ·rw[List.getElem_replicate,zjB,decide_eq_false Ko]
theorem zd6.succ {l:List Int} (hl:l.length=256) {c:Nat} (hc:c<256) {W:List (Nat→Nat)} (h:zd6 l c W) {n:Nat} (hn:nD l c=n) (hnl:n<W.length):zd6 l (c+1) (W.set n (zc6 [W[n],zdN c])):=by
 obtain⟨h1,h2,h3⟩:=h
 have hb: ∀f∈[W[n],zdN c],∀k,f k<18446744073709551616:=fun f hf k=>by
  rcases List.mem_cons.1 hf with h|h
  ·rw[h];exact h2 _ (List.getElem_mem hnl) k
  ·rw[List.mem_singleton.1 h];exact zpw c k
 refine⟨by rw[List.length_set];exact h1,fun ws hws k=>?_,fun i d hi=>?_⟩
 ·rcases List.mem_or_eq_of_mem_set hws with h|h
  ·exact h2 _ h k
  ·rw[h];exact zlk hb k
 ·rw[List.length_set] at hi
  rw[List.getElem_set]
  by_cases e:n=i
  ·subst e
   rw[if_pos rfl]
   have hu:zc6 [W[n],zdN c]=zu1 W[n] (zdN c):=by funext k;show 0|||_|||_=_;rw[Nat.zero_or];rfl
   rw[hu,zu3,zu2,h3 n d hnl,Bool.eq_iff_iff]
   simp only[Bool.or_eq_true,decide_eq_true_eq]
   constructor
   ·rintro(⟨q1,q2⟩|q)
    ·exact⟨by omega,q2⟩
    ·subst q;exact⟨by omega,hn⟩
   ·rintro⟨q1,q2⟩
    by_cases e:d=c
    ·exact .inr e
    ·exact .inl ⟨by omega,q2⟩
  ·rw[if_neg e,h3 i d hi]
   refine decide_eq_decide.2 ⟨fun q=>⟨by omega,q.2⟩,fun q=>⟨?_,q.2⟩⟩
   rcases Nat.lt_or_ge d c with q1|q1
   ·exact q1
   ·obtain rfl:d=c:=by omega
    rw[hn] at q;omega
theorem zsZ (n:Nat):rep n [Value.int .u64 0,Value.int .u64 0,Value.int .u64 0,Value.int .u64 0]=(List.replicate n (fun _:Nat=>0)).flatMap z8:=by
 induction n with
 |zero=>rfl
 |succ n ih=>
  rw[List.replicate_succ,List.flatMap_cons,←ih]
  rfl
theorem zwE {l:List Int} (hl:l.length=256) {G:za} {H:zb} {R:Value→za→zb→Prop}
  (hR: ∀G' v' W,PLe G G'→Sep G' (zk H)→SlM G' z8 v' W→zd2 l 256 W→R v' G' H):FnT Tryz.prog 80 [zcm l] G H R:=by
 have hu8:(u8L l).length=256:=by rw[List.length_map,hl]
 have htk:List.take 256 (u8L l)=u8L l:=List.take_of_length_le Ko
 have hnl:(zf l).length=256:=by rw[zv,hl]
 have hu9:(u8L (zf l)).length=256:=by rw[List.length_map,hnl]
 have htk9:List.take 256 (u8L (zf l))=u8L (zf l):=List.take_of_length_le Ko
 have hno1: ∀l:List Int,(u8L l).all zax=true:=fun l=>by rw[List.all_map];exact List.all_eq_true.2 fun _ _=>rfl
 have hov: ∀f:Nat→Int,zi (u8F f) 0 (u8L (zf l))=u8L (zf l):=fun f=>by rw[←zhi hl,zcb]
 have htl:=zam l
 refine FnT.sep ?_
 refine FnT.body tok [0,1,2,3,4,5,6,7,15,16] Tryz.func80 rfl Kk Kk (by show _≤36;simp) fun hsep=>?_
 rw[Tryz.results80]
 have hE:=hsep
 try simp only[zzs] at hE
 repeat(obtain⟨hx',hE⟩:=hE)
 repeat' first
  |with_reducible first|refine Nx.go ?_ |refine Bk.go (fun _=>?_) fun _=>?_ |refine Nb fun nb hnb hnb1 hnb2=>?_ |refine Nr fun nb nsp ncap hnb hncap hnb1 hnb2=>?_
  |simp -dsimp -implicitDefEqProofs (disch:=first|exact Kd|fail) only[go_sem,↓reduceIte,seval, -List.reduceReplicate,List.toList_toArray,zcY,zaV,hu8,htk]
  |with_reducible refine zlf hl ?_
 rename_i b1 hb1 hb11 hb12 b3 hb3 hb31 hb32
 revert nb
 intro b5 hb5 hb51 hb52
 rw[hov,zsZ,Nat.sub_self,show rep 0 [Value.int .u64 0,Value.int .u64 0,Value.int .u64 0,Value.int .u64 0]=[] from rfl]
 refine Tri.loopU tok [0,1,2,3,4,5,6,7,15,16] Kk [2,3,5,15] (fun q G' fr H'=> ∃ (c:Nat) (W:List (Nat→Nat)),c+q=256∧G'=G∧zd6 l c W∧H'=(b5, .cells (W.flatMap z8) [] 97):: (b3, .cells (u8L (zf l)) [] 22):: (b1, .cells (u8L l) [] 22)::H∧fr=[(2, .slice none 0 0),(3, .pointer (some ⟨b3,0,none⟩)),(5, .slice (some ⟨b5,0,none⟩) (zl l).length (zl l).length),(15, .int .i64 (c:Nat))]) (256) ?_ ?_
 ·exact Upd.now ⟨0,_,by omega,rfl,zd6.zero l,rfl,rfl⟩
 ·rintro q G1 fr H' hle hs ⟨c,W,hc,rfl,hW,rfl,rfl⟩
  have hE:=hs
  try simp only[zzs] at hE
  repeat(obtain⟨hx',hE⟩:=hE)
  obtain⟨hW1,hW2,hW3⟩:=id hW
  have hfl:=zaS (enc:=z8) (m:=4) zaN W
  by_cases hcl:c<256
  ·obtain⟨q1,q2⟩:=za2 (List.getElem_mem (l:=zf l) (n:=c) Ko)
   obtain⟨n,hn⟩:=Int.eq_ofNat_of_zero_le q1
   have hnW:n<W.length:=by omega
   have hnd:nD l c=n:=by unfold nD;rw[List.getD_eq_getElem?_getD,List.getElem?_eq_getElem Ko,←hn];rfl
   have hget:=zsg (l:=zf l) (i:=c) Ko []
   rw[List.append_nil,hn] at hget
   have hget2:=zgn (enc:=z8) (m:=4) zaN W n hnW
   have hget3:List.take 4 (List.drop (n * 4) (W.flatMap z8))=zD 4 W[n]:=hget2
   have hmul:(n+1) * 4≤W.length * 4:=Nat.mul_le_mul_right _ hnW
   have hc8:IntKind.u8.wrap (c:Int)=(c:Int):=zfm hcl
   have hS:=hW.succ hl hcl hnd hnW
   have hr1: ∀v:Value,List.replicate 1 v=[v]:=fun _=>rfl
   have hr8: ∀v:Value,List.replicate 8 v=[v,v,v,v,v,v,v,v]:=fun _=>rfl
   have hl4:=zah 4
   obtain⟨Z,hZ⟩: ∃Z,Z=rep 2 [Value.int .u64 0,Value.int .u64 0,Value.int .u64 0,Value.int .u64 0]:=⟨_,rfl⟩
   have hZl:Z.length=8:=by rw[hZ];rfl
   have hspl1: ∀f,zi Z 0 (zD 4 f)=zD 4 f++Z.drop 4:=fun f=>by unfold zi;rw[List.take_zero,List.nil_append,hl4]
   have hspl2: ∀f g,zi (zD 4 f++Z.drop 4) 4 (zD 4 g)=[f,g].flatMap z8:=fun f g=>by
    unfold zi
    rw[List.take_append_of_le_length (by rw[hl4];omega),List.take_of_length_le (by rw[hl4];omega),List.drop_of_length_le (by rw[List.length_append,hl4,hl4,List.length_drop,hZl];omega)]
    simp [z8]
   have hspll: ∀f,(zD 4 f++Z.drop 4).length=8:=fun f=>by rw[List.length_append,hl4,List.length_drop,hZl]
   repeat' first
    |with_reducible first|refine Nx.go ?_ |refine Bk.go (fun _=>?_) fun _=>?_ |refine Nb fun nb hnb hnb1 hnb2=>?_ |refine Nr fun nb nsp ncap hnb hncap hnb1 hnb2=>?_
    |simp -dsimp -implicitDefEqProofs (disch:=first|exact Kd|fail) only[go_sem,↓reduceIte,seval, -List.reduceReplicate,hr1,List.toList_toArray,hu9,hget,hfl,hget3,hl4,hc8,zaY,Int.toNat_natCast]
    |with_reducible refine Tri.drawS tok mixed [0,1,2,3,4,5,6,7,15,16] 7 [5] (.op 0 .plain (.op 1 .plain (.op 2 .plain (.op 3 .plain (.op 4 .plain (.op 5 .held (.op 6 .plain (.op 7 .plain (.op 8 .keeps (.op 9 .keeps (.op 10 .plain (.op 11 .keeps (.op 12 .plain (.op 13 .plain .nil)))))))))))))) Kk [(b5, .cells (W.flatMap z8) [] 97)] Ks ?_
   refine zya (e:=5) hcl hnb1 (by simp [zq]) ?_
   repeat' first
    |with_reducible first|refine Nx.go ?_ |refine Bk.go (fun _=>?_) fun _=>?_ |refine Nb fun nb hnb hnb1 hnb2=>?_ |refine Nr fun nb nsp ncap hnb hncap hnb1 hnb2=>?_
    |simp -dsimp -implicitDefEqProofs (disch:=first|exact Kd|fail) only[go_sem,↓reduceIte,seval, -List.reduceReplicate,hr1,hr8,List.toList_toArray,hu9,hget,hfl,hget3,hl4,hc8,zaY,Int.toNat_natCast,←hZ,hZl,hspl1,hspll,hspl2]
   refine zu4 (l:=[W[n],zdN c]) (e:=97) (sp:=[]) (by simp) (fun f hf=>?_) Ka (by simp [zq]) ?_
   ·rcases List.mem_cons.1 hf with h|h
    ·rw[h];exact hW2 _ (List.getElem_mem hnW)
    ·rw[List.mem_singleton.1 h];exact zpw c
   have hfl2:=zaS (enc:=z8) (m:=4) zaN (W.set n (zc6 [W[n],zdN c]))
   have hspf:=zoZ W hnW (zc6 [W[n],zdN c])
   repeat' first
    |with_reducible first|refine Nx.go ?_ |refine Bk.go (fun _=>?_) fun _=>?_ |refine Nb fun nb hnb hnb1 hnb2=>?_ |refine Nr fun nb nsp ncap hnb hncap hnb1 hnb2=>?_
    |simp -dsimp -implicitDefEqProofs (disch:=first|exact Kd|fail) only[go_sem,↓reduceIte,seval, -List.reduceReplicate,List.toList_toArray,hfl,hl4,zaY,hspf]
   exact Upd.go (H':=(b5, .cells ((W.set n (zc6 [W[n],zdN c])).flatMap z8) [] 97):: (b3, .cells (u8L (zf l)) [] 22):: (b1, .cells (u8L l) [] 22)::H) Ks (Upd.now ⟨q - 1,by omega,c+1,_,by omega,rfl,hS,rfl,rfl⟩)
  ·obtain rfl:c=256:=by omega
   repeat' first
    |with_reducible first|refine Nx.go ?_ |refine Bk.go (fun _=>?_) fun _=>?_ |refine Nb fun nb hnb hnb1 hnb2=>?_ |refine Nr fun nb nsp ncap hnb hncap hnb1 hnb2=>?_
    |simp -dsimp -implicitDefEqProofs (disch:=first|exact Kd|fail) only[go_sem,↓reduceIte,seval, -List.reduceReplicate]
   unfold zz
   refine Upd.go (H':=(b5, .cells (W.flatMap z8) [] 97)::H) Ks (Upd.shareRow Ka fun G2 hle2 hs2 hr2=>?_)
   exact fun _ hs=>hR G2 _ W hle2 hs ⟨some ⟨b5,0,none⟩,_,by rw[hW1],hr2,by omega⟩ (hW.all hl)
end Go.Proofs.YtefkpedhbijhkaaGreatDoor
namespace Go.Proofs.YtefkpedhbijhkaaGreatDoor
open Go Go.V Go.Proofs
def zaK (l:List Int):List Int:=(zl l).map (zp l)
theorem zfi (l:List Int):(zaK l).length=(zl l).length:=by simp [zaK]
theorem zu6 {l:List Int} (hl:l.length=256) {W:List (Nat→Nat)} (hW:zd2 l 256 W) {i:Nat} (hi:i<W.length): ∃ (x:Nat) (h:i< (zaK l).length),(zaK l)[i]=(x:Nat)∧x<256∧mem W[i] x=true∧ ∀y,y<x→mem W[i] y=false:=by
 obtain⟨h1,h2,h3⟩:=hW
 have hlt:l.take 256=l:=List.take_of_length_le Ko
 simp only[hlt] at h1 h3
 have hit:i< (zl l).length:=by omega
 have hin:(zl l)[i]∈l:=(zI l).1 (List.getElem_mem hit)
 obtain⟨x,hx⟩:=zS hin
 obtain⟨hx1,hx2⟩:=zR hx
 rw[List.getElem?_eq_getElem hx1,Option.some.injEq] at hx2
 refine⟨x,by rw[zfi];exact hit,by simp only[zaK,List.getElem_map];exact zx hx,by omega,?_,fun y hy=>?_⟩
 ·rw[h3 i x hi hx1 hit];exact decide_eq_true hx2
 ·rw[h3 i y hi Ko hit]
  refine decide_eq_false fun e=>?_
  unfold place at hx
  rw[List.findIdx?_eq_some_iff_getElem] at hx
  obtain⟨h5,h6,h7⟩:=hx
  have:=h7 y hy
  simp only[e,decide_true,not_true_eq_false] at this
theorem zs0 {l:List Int} {i:Nat} (h:i<l.length):(l.take (i+1)).map (Value.int .u8)=(l.take i).map (Value.int .u8)++[Value.int .u8 l[i]]:=by
 rw[List.take_succ_eq_append_getElem h,List.map_append];rfl
theorem zs1 {l:List Int} (hl:l.length=256) {G:za} {H:zb} {R:Value→za→zb→Prop} (hg:zb3 G)
  (hR: ∀G' v',PLe G G'→Sep G' (zk H)→Sl G' (Value.int .u8) v' (zaK l)→R v' G' H):FnT Tryz.prog 50 [zcm l] G H R:=by
 have hu8:(u8L l).length=256:=by rw[List.length_map,hl]
 have htk:List.take 256 (u8L l)=u8L l:=List.take_of_length_le Ko
 have hno1: ∀l:List Int,(u8L l).all zax=true:=fun l=>by rw[List.all_map];exact List.all_eq_true.2 fun _ _=>rfl
 have hll:=zfi l
 have htl:=zam l
 refine FnT.sep ?_
 refine FnT.body tok [0,1,2,3,5,7,8,9,10] Tryz.func50 rfl Kk Kk (by show _≤21;simp) fun hsep=>?_
 rw[Tryz.results50]
 have hE:=hsep
 try simp only[zzs] at hE
 repeat(obtain⟨hx',hE⟩:=hE)
 repeat' first
  |with_reducible first|refine Nx.go ?_ |refine Bk.go (fun _=>?_) fun _=>?_ |refine Nb fun nb hnb hnb1 hnb2=>?_ |refine Nr fun nb nsp ncap hnb hncap hnb1 hnb2=>?_
  |simp -dsimp -implicitDefEqProofs (disch:=first|exact Kd|fail) only[go_sem,↓reduceIte,seval, -List.reduceReplicate,List.toList_toArray,zcY,zaV,hu8,htk]
 revert nb
 intro b1 hb1 hb11 hb12
 refine zwE hl fun G2 v2 W hle2 hs2 hsl hW=>?_
 obtain⟨a,cap,rfl,hrow,hcap⟩:=hsl
 have hWl:W.length=(zl l).length:=by
  have:=hW.1
  rwa [List.take_of_length_le Ko] at this
 have hg2:=hg.mono hle2
 have hE:=hs2
 try simp only[zzs] at hE
 repeat(obtain⟨hx',hE⟩:=hE)
 repeat' first
  |with_reducible first|refine Nx.go ?_ |refine Bk.go (fun _=>?_) fun _=>?_ |refine Nb fun nb hnb hnb1 hnb2=>?_ |refine Nr fun nb nsp ncap hnb hncap hnb1 hnb2=>?_
  |simp -dsimp -implicitDefEqProofs (disch:=first|exact Kd|fail) only[go_sem,↓reduceIte,seval, -List.reduceReplicate,List.toList_toArray]
 refine Tri.loopU tok [0,1,2,3,5,7,8,9,10] Kk [2,3,7,8,9] (fun q G' fr H'=> ∃ (i:Nat) (v:Value) (kb:zb),i+q=W.length∧G'=G2∧zH [] 5 1 v i ((zaK l).take i |>.map (Value.int .u8)) kb∧H'=(b1, .cells (u8L l) [] 22):: (kb++H)∧fr=[(2, .slice none 0 0),(3,v),(7, .slice a W.length cap),(8, .int .i64 W.length),(9, .int .i64 i)]) (W.length) ?_ ?_
 ·exact Upd.now ⟨0,_,[],by omega,rfl, .inl ⟨none,rfl,rfl,rfl,rfl⟩,rfl,rfl⟩
 ·rintro q G1 fr H' hle hs ⟨i,v,kb,hi,rfl,hv,rfl,rfl⟩
  by_cases hil:i<W.length
  ·have had:Adr a:=hrow.adr (by rw[zaS zaN];omega)
   obtain⟨x,hx1,hx2,hx3,hx4,hx5⟩:=zu6 hl hW hil
   have hsn:=zs0 hx1
   rw[hx2] at hsn
   have hx8:IntKind.u8.wrap (x:Int)=(x:Int):=zfm hx3
   have hws:=hW.2.1 _ (List.getElem_mem hil)
   have hl4:=zah 4
   have hr1: ∀v:Value,List.replicate 1 v=[v]:=fun _=>rfl
   have hob:z8=zD 4:=rfl
   have hlt:((zaK l).take i).length=i:=by rw[List.length_take];omega
   rcases hv with ⟨a0,rfl,hn,hx,rfl⟩| ⟨b2,c2,sp,rfl,rfl,hx,hc⟩
   ·have hE:=hs
    try simp only[zzs] at hE
    repeat(obtain⟨hx',hE⟩:=hE)
    repeat' first
     |with_reducible first|refine Nx.go ?_ |refine Bk.go (fun _=>?_) fun _=>?_ |refine Nb fun nb hnb hnb1 hnb2=>?_ |refine Nr fun nb nsp ncap hnb hncap hnb1 hnb2=>?_
     |simp -dsimp -implicitDefEqProofs (disch:=first|exact Kd|fail) only[go_sem,↓reduceIte,seval, -List.reduceReplicate,hr1,List.toList_toArray,Row.objsM hrow zaN (by decide) hil,hob,hl4,zaY,zb0,zbd,hx8]
     |with_reducible refine znD hws hx3 hx4 hx5 hg2 ?_
    have hce:((zaK l).take (i+1)).map (Value.int .u8)=[Value.int .u8 (x:Nat)]:=by rw[hsn,hx];rfl
    rw[←hce]
    have hlt1:((zaK l).take (i+1)).length=i+1:=by rw[List.length_take];omega
    exact Upd.go (H':=(b1, .cells (u8L l) [] 22):: ([(nb, .cells (((zaK l).take (i+1)).map (Value.int .u8)) nsp 5)]++H)) Ks (Upd.now ⟨q - 1,by omega,i+1, .slice (some ⟨nb,0,none⟩) (i+1) ncap,[_],by omega,rfl, .inr ⟨nb,ncap,nsp,rfl,rfl,by rw[List.length_map,hlt1,Nat.mul_one],by rw[hce];simp at hncap⊢;omega⟩,rfl,by obtain rfl:i=0:=hn;rfl⟩)
   ·have hE:=hs
    try simp only[zzs] at hE
    repeat(obtain⟨hx',hE⟩:=hE)
    repeat' first
     |with_reducible first|refine Nx.go ?_ |refine Bk.go (fun _=>?_) fun _=>?_ |refine Nb fun nb hnb hnb1 hnb2=>?_ |refine Nr fun nb nsp ncap hnb hncap hnb1 hnb2=>?_
     |simp -dsimp -implicitDefEqProofs (disch:=first|exact Kd|fail) only[go_sem,↓reduceIte,seval, -List.reduceReplicate,hr1,List.toList_toArray,Row.objsM hrow zaN (by decide) hil,hob,hl4,zaY,zb0,zbd,hx8,List.length_map]
     |with_reducible refine znD hws hx3 hx4 hx5 hg2 ?_
    have hlt1:((zaK l).take (i+1)).length=i+1:=by rw[List.length_take];omega
    rw[←hsn]
    exact Upd.go (H':=(b1, .cells (u8L l) [] 22):: ([(nb, .cells (((zaK l).take (i+1)).map (Value.int .u8)) nsp 5)]++H)) Ks (Upd.now ⟨q - 1,by omega,i+1, .slice (some ⟨nb,0,none⟩) (i+1) ncap,[_],by omega,rfl, .inr ⟨nb,ncap,nsp,rfl,rfl,by rw[List.length_map,hlt1,Nat.mul_one],by rw[List.length_map,hlt1];simp [hlt] at hncap⊢;omega⟩,rfl,rfl⟩)
  ·obtain rfl:i=W.length:=by omega
   have hall:(zaK l).take W.length=zaK l:=List.take_of_length_le Ko
   rw[hall] at hv
   repeat' first
    |with_reducible first|refine Nx.go ?_ |refine Bk.go (fun _=>?_) fun _=>?_ |refine Nb fun nb hnb hnb1 hnb2=>?_ |refine Nr fun nb nsp ncap hnb hncap hnb1 hnb2=>?_
    |simp -dsimp -implicitDefEqProofs (disch:=first|exact Kd|fail) only[go_sem,↓reduceIte,seval]
   unfold zz
   refine Upd.go (H':=kb++H) Ks ?_
   rcases hv with ⟨a0,rfl,hn,hx,rfl⟩| ⟨b2,c2,sp,rfl,rfl,hx,hc⟩
   ·have hl0:zaK l=[]:=List.eq_nil_of_length_eq_zero Ko
    rw[hl0] at hR
    refine Upd.now ?_
    exact fun hle hs=>hR _ _ hle2 hs ⟨a0,0,rfl,Row.nil _ _,Nat.le_refl _⟩
   ·have hE:=hs
    try simp only[zzs] at hE
    repeat(obtain⟨hx',hE⟩:=hE)
    refine Upd.shareRow Ka fun G3 hle3 hs3 hr3=>?_
    exact fun hle hs=>hR _ _ (hle2.trans hle3) hs ⟨some ⟨b2,0,none⟩,c2,by rw[hll,←hWl],hr3,by rw[List.length_map] at hx hc;omega⟩
end Go.Proofs.YtefkpedhbijhkaaGreatDoor
namespace Go.Proofs.YtefkpedhbijhkaaGreatDoor
open Go Go.V Go.Proofs
theorem hes:zdZ T 9 str:=zko (T:=T) (t:=9) rfl
theorem zxp {l:List (List UInt8)} (hlen:l.length≤2000000) {fid:FuncId} {XC:List Value} {tyX:TypeId} {b1:Nat} {G:za} {H:zb} {R:Value→za→zb→Prop}
  (hkey: ∀i (hi:i<l.length) (H1:zb) (R1:Value→za→zb→Prop),G b1=none→zq H1 b1=some (.cells XC [] tyX)→R1 (str l[i]) G H1→FnT Tryz.prog fid [.int .i64 (i:Nat), .pointer (some ⟨b1,0,none⟩)] G H1 R1)
  (hR: ∀G' v,PLe G G'→Sep G' (zk H)→Sl G' (Value.int .i64) v (zf l)→R v G' H):FnT Tryz.prog 105 [.int .i64 l.length, .func (.func fid) #[] #[.pointer (some ⟨b1,0,none⟩)]] G ((b1, .cells XC [] tyX)::H) R:=by
 refine FnT.sep ?_
 refine FnT.body tok [0,1,4,5,6,7,8,10,12,13,14,26] Tryz.func105 rfl Kk Kk (by show _≤39;simp) fun hsep=>?_
 rw[Tryz.results105]
 have hE:=hsep
 try simp only[zzs] at hE
 repeat(obtain⟨hx',hE⟩:=hE)
 repeat' first
  |with_reducible first|refine Nx.go ?_ |refine Bk.go (fun _=>?_) fun _=>?_ |refine zas.mk (fun _ _=>?_) fun _=>?_ |refine Nb fun nb hnb hnb1 hnb2=>?_ |refine Nr fun nb nsp ncap hnb hncap hnb1 hnb2=>?_
  |simp -dsimp -implicitDefEqProofs (disch:=first|exact Kd|fail) only[go_sem,↓reduceIte,seval]
 revert nb
 intro bm hbm hbm1 hbm2
 refine Tri.loopU tok [0,1,4,5,6,7,8,10,12,13,14,26] Kk [0,1,4,5,6,12,13] (fun q G' fr H'=> ∃ (i:Nat) (v:Value) (kb:zb),i+q=l.length∧G'=G∧zH [] 3 1 v i ((zf (l.take i)).map (Value.int .i64)) kb∧H'=(bm, .map ((zbh 0 (zl (l.take i))).map fun p=>(str p.1,Value.int .i64 p.2))):: (b1, .cells XC [] tyX):: (kb++H)∧fr=[(0, .int .i64 l.length),(1, .func (.func fid) #[] #[.pointer (some ⟨b1,0,none⟩)]),(4, .slice none 0 0),(5, .map (some bm)),(6,v),(12, .int .i64 l.length),(13, .int .i64 i)]) (l.length) ?_ ?_
 ·exact Upd.now ⟨0,_,[],by omega,rfl, .inl ⟨none,rfl,rfl,rfl,rfl⟩,rfl,rfl⟩
 ·rintro q G1 fr H' hle hs ⟨i,v,kb,hi,rfl,hv,rfl,rfl⟩
  have hnl:(zf (l.take i)).length=i:=by rw[zv,List.length_take];omega
  have htl:=zam (l.take i)
  rw[List.length_take] at htl
  by_cases hil:i<l.length
  ·have htk:=List.take_succ_eq_append_getElem hil
   rcases hp:place (zl (l.take i)) l[i] with _|n
   ·have hnn:=zcy hp
    have hpe:=zcV (zcv hp)
    rw[←htk] at hnn
    rcases hv with ⟨a0,rfl,hn,hx,rfl⟩| ⟨b2,c2,sp,rfl,rfl,hx,hc⟩
    ·have hE:=hs
     try simp only[zzs] at hE
     repeat(obtain⟨hx',hE⟩:=hE)
     repeat' first
      |with_reducible first|refine Nx.go ?_ |refine Bk.go (fun _=>?_) fun _=>?_ |refine zas.mk (fun _ _=>?_) fun _=>?_ |refine Nb fun nb hnb hnb1 hnb2=>?_ |refine Nr fun nb nsp ncap hnb hncap hnb1 hnb2=>?_
      |simp -dsimp -implicitDefEqProofs (disch:=first|exact Kd|fail) only[go_sem,↓reduceIte,seval,zbC hes (Value.int .i64),zbq hes,zbx,Option.map_map,zb8 hes (Value.int .i64),zcw,hp,hpe,List.length_map,zcu]
      |with_reducible refine hkey i hil _ _ Ka ?_ ?_
     have hce:(zf (l.take (i+1))).map (Value.int .i64)=[Value.int .i64 (zl (l.take i)).length]:=by rw[hnn.2,List.map_append,hx];rfl
     rw[←hnn.1,←hce]
     refine Upd.go (H':=(bm, .map ((zbh 0 (zl (l.take (i+1)))).map fun p=>(str p.1,Value.int .i64 p.2))):: (b1, .cells XC [] tyX):: ([(nb, .cells ((zf (l.take (i+1))).map (Value.int .i64)) nsp 3)]++H)) Ks (Upd.now ⟨q - 1,by omega,i+1, .slice (some ⟨nb,0,none⟩) (i+1) ncap,[_],by omega,rfl, .inr ⟨nb,ncap,nsp,rfl,rfl,by rw[hce];simp [hn],by rw[hce];simp at hncap⊢;omega⟩,rfl,by obtain rfl:i=0:=hn;rfl⟩)
    ·have hE:=hs
     try simp only[zzs] at hE
     repeat(obtain⟨hx',hE⟩:=hE)
     repeat' first
      |with_reducible first|refine Nx.go ?_ |refine Bk.go (fun _=>?_) fun _=>?_ |refine zas.mk (fun _ _=>?_) fun _=>?_ |refine Nb fun nb hnb hnb1 hnb2=>?_ |refine Nr fun nb nsp ncap hnb hncap hnb1 hnb2=>?_
      |simp -dsimp -implicitDefEqProofs (disch:=first|exact Kd|fail) only[go_sem,↓reduceIte,seval,zbC hes (Value.int .i64),zbq hes,zbx,Option.map_map,zb8 hes (Value.int .i64),zcw,hp,hpe,List.length_map,zcu]
      |with_reducible refine hkey i hil _ _ Ka ?_ ?_
     have hce:(zf (l.take (i+1))).map (Value.int .i64)=(zf (l.take i)).map (Value.int .i64)++[Value.int .i64 (zl (l.take i)).length]:=by rw[hnn.2,List.map_append];rfl
     rw[←hnn.1,←hce]
     refine Upd.go (H':=(bm, .map ((zbh 0 (zl (l.take (i+1)))).map fun p=>(str p.1,Value.int .i64 p.2))):: (b1, .cells XC [] tyX):: ([(nb, .cells ((zf (l.take (i+1))).map (Value.int .i64)) nsp 3)]++H)) Ks (Upd.now ⟨q - 1,by omega,i+1, .slice (some ⟨nb,0,none⟩) (i+1) ncap,[_],by omega,rfl, .inr ⟨nb,ncap,nsp,rfl,rfl,by rw[hce];simp [hnl],by rw[hce];simp [hnl] at hncap⊢;omega⟩,rfl,rfl⟩)
   ·have hnn:=zcW hp
    rw[←htk] at hnn
    have hn0:i≠0:=fun e=>by subst e;rw[List.take_zero,zfE,zib] at hp;cases hp
    rcases hv with ⟨a0,rfl,hn,hx,rfl⟩| ⟨b2,c2,sp,rfl,rfl,hx,hc⟩
    ·exact absurd hn hn0
    ·have hE:=hs
     try simp only[zzs] at hE
     repeat(obtain⟨hx',hE⟩:=hE)
     repeat' first
      |with_reducible first|refine Nx.go ?_ |refine Bk.go (fun _=>?_) fun _=>?_ |refine zas.mk (fun _ _=>?_) fun _=>?_ |refine Nb fun nb hnb hnb1 hnb2=>?_ |refine Nr fun nb nsp ncap hnb hncap hnb1 hnb2=>?_
      |simp -dsimp -implicitDefEqProofs (disch:=first|exact Kd|fail) only[go_sem,↓reduceIte,seval,zbC hes (Value.int .i64),zbq hes,zbx,Option.map_map,zb8 hes (Value.int .i64),zcw,hp,List.length_map,zcu]
      |with_reducible refine hkey i hil _ _ Ka ?_ ?_
     have hce:(zf (l.take (i+1))).map (Value.int .i64)=(zf (l.take i)).map (Value.int .i64)++[Value.int .i64 n]:=by rw[hnn.2,List.map_append];rfl
     rw[←hnn.1,←hce]
     refine Upd.go (H':=(bm, .map ((zbh 0 (zl (l.take (i+1)))).map fun p=>(str p.1,Value.int .i64 p.2))):: (b1, .cells XC [] tyX):: ([(nb, .cells ((zf (l.take (i+1))).map (Value.int .i64)) nsp 3)]++H)) Ks (Upd.now ⟨q - 1,by omega,i+1, .slice (some ⟨nb,0,none⟩) (i+1) ncap,[_],by omega,rfl, .inr ⟨nb,ncap,nsp,rfl,rfl,by rw[hce];simp [hnl],by rw[hce];simp [hnl] at hncap⊢;omega⟩,rfl,rfl⟩)
  ·obtain rfl:i=l.length:=by omega
   rw[List.take_length] at hv⊢
   repeat' first
    |with_reducible first|refine Nx.go ?_ |refine Bk.go (fun _=>?_) fun _=>?_ |refine zas.mk (fun _ _=>?_) fun _=>?_ |refine Nb fun nb hnb hnb1 hnb2=>?_ |refine Nr fun nb nsp ncap hnb hncap hnb1 hnb2=>?_
    |simp -dsimp -implicitDefEqProofs (disch:=first|exact Kd|fail) only[go_sem,↓reduceIte,seval]
   unfold zz
   refine Upd.go (H':=kb++H) Ks ?_
   rcases hv with ⟨a0,rfl,hn,hx,rfl⟩| ⟨b2,c2,sp,rfl,rfl,hx,hc⟩
   ·have hl0:l=[]:=List.eq_nil_of_length_eq_zero hn
    subst hl0
    refine Upd.now ?_
    exact fun hle hs=>hR _ _ (PLe.refl _) hs ⟨a0,0,rfl,Row.nil _ _,Nat.le_refl _⟩
   ·have hE:=hs
    try simp only[zzs] at hE
    repeat(obtain⟨hx',hE⟩:=hE)
    refine Upd.shareRow Ka fun G2 hle2 hs2 hr2=>?_
    exact fun hle hs=>hR _ _ hle2 hs ⟨some ⟨b2,0,none⟩,c2,by rw[zv],hr2,by rw[zv];rw[List.length_map,zv] at hx hc;omega⟩
def b3 (n:Nat):List UInt8:=[UInt8.ofNat n,UInt8.ofNat (n / 256),UInt8.ofNat (n / 65536)]
def zfO (d:DfaT) (k s:Nat):List UInt8:=(d.next.take s).flatMap fun r=>b3 (atL r k).toNat
def zu7 (d:DfaT) (k:Nat):List UInt8:=zfO d k d.next.length
theorem zlU (d:DfaT) (k:Nat) {s:Nat} (h:s<d.next.length):zfO d k (s+1)=zfO d k s++b3 (atL d.next[s] k).toNat:=by
 unfold zfO
 rw[List.take_succ_eq_append_getElem h,List.flatMap_append];simp
theorem znE (d:DfaT) (k:Nat): ∀s,s≤d.next.length→(zfO d k s).length=3 * s
 |0,_=>by simp [zfO]
 |s+1,h=>by rw[zlU d k Ko,List.length_append,znE d k s Ko];simp [b3];omega
theorem znF (n:Nat):IntKind.u8.wrap (n:Int)=((UInt8.ofNat n).toNat:Int):=by
 rw[UInt8.toNat_ofNat']
 simp only[IntKind.wrap,IntKind.bits,IntKind.signed]
 simp
theorem zyb {d:DfaT} (hsm:zt d) (hok:zd d) {C:List Value} {an al ay:Option Addr} {cn cl cs:Nat} {rs:List Value} {G:za} (O:OpenD G d C an al ay cn cl cs rs) {b1:Nat} {k:Nat} (hk:(k:Int) <d.width)
  {H:zb} {R:Value→za→zb→Prop} (hg:G b1=none) (hf:zq H b1=some (.cells C [] 27)) (hR:R (str (zu7 d k)) G H):FnT Tryz.prog 106 [.int .i64 (k:Nat), .pointer (some ⟨b1,0,none⟩)] G H R:=by
 obtain⟨hk1,hk2,hk3,hk4,hk5,hk6,hk7⟩:=id hok
 have hCl:=O.len
 have hCn:=O.n
 have hrnl:=O.rnl
 refine FnT.sep ?_
 refine FnT.body tok [0,1,3,4,6,13,14,15,16] Tryz.func106 rfl Kk Kk (by show _≤42;simp) fun hsep=>?_
 rw[Tryz.results106]
 have hE:=hsep
 try simp only[zzs] at hE
 repeat(obtain⟨hx',hE⟩:=hE)
 repeat' first
  |with_reducible first|refine Nx.go ?_ |refine Bk.go (fun _=>?_) fun _=>?_ |refine Nb fun nb hnb hnb1 hnb2=>?_ |refine Nr fun nb nsp ncap hnb hncap hnb1 hnb2=>?_
  |simp -dsimp -implicitDefEqProofs (disch:=first|exact Kd|fail) only[go_sem,↓reduceIte,seval, -List.reduceReplicate,hf,hCl,hCn,List.replicate_zero]
 have hne:=zL.neFind hnb2 hf
 repeat' first
  |with_reducible first|refine Nx.go ?_ |refine Bk.go (fun _=>?_) fun _=>?_ |refine Nb fun nb hnb hnb1 hnb2=>?_ |refine Nr fun nb nsp ncap hnb hncap hnb1 hnb2=>?_
  |simp -dsimp -implicitDefEqProofs (disch:=first|exact Kd|fail) only[go_sem,↓reduceIte,seval, -List.reduceReplicate,hf,hCl,hCn,List.replicate_zero]
 refine Tri.loopU tok [0,1,3,4,6,13,14,15,16] Kk [0,1,3,4,13,14,15] (fun q G' fr H'=> ∃ (s br c:Nat) (sp:List Value),s+q=d.next.length∧3 * s+sp.length=c∧G'=G∧H'=(br, .cells ((zfO d k s).map z7) sp 5)::H∧fr=[(0, .int .i64 (k:Nat)),(1, .pointer (some ⟨b1,0,none⟩)),(3, .string ⟨#[]⟩),(4, .slice (some ⟨br,0,none⟩) (3 * s) c),(13, .slice an d.next.length cn),(14, .int .i64 (d.next.length:Nat)),(15, .int .i64 (s:Nat))]) (d.next.length) ?_ ?_
 ·refine Upd.now ?_
  exact⟨0,nb,_,_,by omega,by rw[List.length_replicate];omega,rfl,rfl,rfl⟩
 ·rintro q G1 fr H' hle hs1 ⟨s,br,c,sp,hsq,hc,rfl,rfl,rfl⟩
  have hE:=hs1
  try simp only[zzs] at hE
  repeat(obtain⟨hx',hE⟩:=hE)
  have hcl:=znE d k s Ko
  have hml:((zfO d k s).map z7).length=3 * s:=by rw[List.length_map,hcl]
  by_cases hsn:s<d.next.length
  ·have had:Adr an:=O.rn.adr Ko
   obtain⟨b,cc,e1,e2,e3⟩:=O.rs s hsn Ko
   obtain⟨hw1,hw2,hw3,hw4⟩:=hk7 s hsn Ko
   have hrl:=hsm.2.1 _ (List.getElem_mem hsn)
   have hkr:k< (d.next[s]).length:=by omega
   have had2:Adr b:=e2.adr (by rw[List.length_map];omega)
   have hx:=hw4 _ (List.getElem_mem hkr)
   obtain⟨t,ht⟩:=Int.eq_ofNat_of_zero_le hx.1
   have hat:(atL d.next[s] k).toNat=t:=by rw[zX (by simpa using hkr)];simp only[Int.toNat_natCast,ht]
   have hsucc:=zlU d k hsn
   rw[hat] at hsucc
   have w0:=znF t
   have w1:IntKind.u8.wrap ((t:Int) / 256)=((UInt8.ofNat (t / 256)).toNat:Int):=by rw[←znF];rfl
   have w2:IntKind.u8.wrap ((t:Int) / 65536)=((UInt8.ofNat (t / 65536)).toNat:Int):=by rw[←znF];rfl
   have hm2:(zfO d k s).map z7++[.int .u8 ((UInt8.ofNat t).toNat:Int), .int .u8 ((UInt8.ofNat (t / 256)).toNat:Int), .int .u8 ((UInt8.ofNat (t / 65536)).toNat:Int)]=(zfO d k (s+1)).map z7:=by rw[hsucc,List.map_append];rfl
   have hr3: ∀x:Value,List.replicate 3 x=[x,x,x]:=fun _=>rfl
   repeat' first
    |with_reducible first|refine Nx.go ?_ |refine Bk.go (fun _=>?_) fun _=>?_ |refine Nb fun nb hnb hnb1 hnb2=>?_ |refine Nr fun nb nsp ncap hnb hncap hnb1 hnb2=>?_
    |simp -dsimp -implicitDefEqProofs (disch:=first|exact Kd|fail) only[go_sem,↓reduceIte,seval, -List.reduceReplicate,Row.obj O.rn,e1,Row.obj e2,List.getElem_map,ht,w0,w1,w2,hr3]
    |with_reducible refine Tri.drawH tok mixed [0,1,3,4,6,13,14,15,16] 5 [4,9,15] (.op 0 .plain (.op 1 .plain (.op 2 .plain (.op 3 .plain (.op 4 .held (.op 5 .plain (.op 6 .plain (.op 7 .plain (.op 8 .plain (.op 9 .held (.op 10 .plain (.op 11 .plain (.op 12 .plain (.op 13 .plain (.op 14 .plain (.op 15 .held (.op 16 .plain (.op 17 .plain (.op 18 .keeps (.op 19 .keeps (.op 20 .plain .nil))))))))))))))))))))) Kk [6] ?_
   rw[hm2]
   refine Upd.go (H':=(nb, .cells ((zfO d k (s+1)).map z7) nsp 5)::H) Ks (Upd.now ⟨q - 1,by omega,s+1,nb,ncap,nsp,by omega,by omega,rfl,rfl,rfl⟩)
  ·obtain rfl:s=d.next.length:=by omega
   repeat' first
    |with_reducible first|refine Nx.go ?_ |refine Bk.go (fun _=>?_) fun _=>?_ |refine Nb fun nb hnb hnb1 hnb2=>?_ |refine Nr fun nb nsp ncap hnb hncap hnb1 hnb2=>?_
    |simp -dsimp -implicitDefEqProofs (disch:=first|exact Kd|fail) only[go_sem,↓reduceIte,seval, -List.reduceReplicate]
   unfold zz
   refine Upd.go (H':=H) Ks (Upd.now fun hle hs=>hR)
end Go.Proofs.YtefkpedhbijhkaaGreatDoor
namespace Go.Proofs.YtefkpedhbijhkaaGreatDoor
open Go Go.V Go.Proofs
def zcF (d:DfaT):List (List UInt8):=(List.range d.width.toNat).map (zu7 d)
theorem zu8 (d:DfaT):(zcF d).length=d.width.toNat:=by simp [zcF]
theorem zwF {d:DfaT} {k:Nat} (h:k< (zcF d).length):(zcF d)[k]=zu7 d k:=by simp [zcF]
theorem zgd {d:DfaT} (hok:zd d):d.width=((zcF d).length:Nat):=by
 obtain⟨hk1,hk2,hk3,hk4,hk5,hk6,hk7⟩:=hok
 rw[zu8];omega
theorem znG {d:DfaT} (hok:zd d) (hl:d.of.length=256):(zcF d).length≤256:=by
 have:=zgd hok
 obtain⟨hk1,hk2,hk3,hk4,hk5,hk6,hk7⟩:=hok
 have:=zam d.of
 omega
def clL (d:DfaT):List Int:=d.of.map fun o=>atL (zf (zcF d)) o
theorem zcp {d:DfaT} (hl:d.of.length=256):(clL d).length=256:=by unfold clL;rw[List.length_map,hl]
theorem zxq {d:DfaT} (hok:zd d) {i:Nat} (hi:i<d.of.length): ∃ (h:(d.of[i]).toNat< (zf (zcF d)).length) (h2:i< (clL d).length),(clL d)[i]=(zf (zcF d))[(d.of[i]).toNat]∧0≤(clL d)[i]∧(clL d)[i] < (zcF d).length:=by
 obtain⟨h1,h2⟩:=zcA hok (List.getElem_mem hi)
 have hw:=zgd hok
 have h3:(d.of[i]).toNat< (zf (zcF d)).length:=by rw[zv];omega
 have h4:i< (clL d).length:=by unfold clL;rw[List.length_map];exact hi
 have e:(clL d)[i]=(zf (zcF d))[(d.of[i]).toNat]:=by simp only[clL,List.getElem_map];rw[zX h3]
 obtain⟨b1,b2⟩:=za2 (List.getElem_mem h3)
 have:=zam (zcF d)
 exact⟨h3,h4,e,by rw[e];exact b1,by rw[e];omega⟩
def clU (d:DfaT) (c k:Nat):Int:=if k<c then atL (clL d) k else 0
theorem zu9 (d:DfaT):u8F (fun _=>0)=u8F (clU d 0):=zcZ fun k _=>by unfold clU;rw[if_neg Ko]
theorem zva {d:DfaT} {c:Nat} {x:Int} (h:x=atL (clL d) c):u8F (upd (clU d c) c x)=u8F (clU d (c+1)):=zcZ fun k _=>by
 by_cases e:k=c
 ·subst e;simp only[clU,upd];rw[if_pos (show k<k+1 by omega),h];simp
 ·simp only[clU,upd]
  rw[if_neg e]
  by_cases hk:k<c
  ·rw[if_pos hk,if_pos Ko]
  ·rw[if_neg hk,if_neg Ko]
theorem zwG {d:DfaT} (hl:d.of.length=256):u8F (clU d 256)=u8L (clL d):=by
 apply List.ext_getElem (by rw[zaV,List.length_map,zcp hl])
 intro k h1 h2
 rw[zaV] at h1
 have h3:k< (clL d).length:=by rw[zcp hl];exact h1
 rw[zkz,List.getElem_map]
 unfold clU
 rw[if_pos h1,zX (by simpa using h3)]
 simp
theorem zxr {d:DfaT} (hsm:zt d) (hok:zd d) {C:List Value} {an al ay:Option Addr} {cn cl cs:Nat} {rs:List Value} {G:za} (O:OpenD G d C an al ay cn cl cs rs)
  {H:zb} {R:Value→za→zb→Prop} (hR: ∀G' v,PLe G G'→Sep G' (zk H)→Sl G' (Value.int .i64) v (zf (zcF d))→R v G' H):FnT Tryz.prog 78 [.agg C.toArray] G H R:=by
 have hCl:=O.len
 have hCw:=O.w
 have hCa:=O.all
 have hw:=zgd hok
 have hle:=znG hok O.ofl
 rw[hw] at hCw
 refine FnT.sep ?_
 refine FnT.body tok [0,1,2] Tryz.func78 rfl Kk Kk (by show _≤7;simp) fun hsep=>?_
 rw[Tryz.results78]
 have hE:=hsep
 try simp only[zzs] at hE
 repeat(obtain⟨hx',hE⟩:=hE)
 repeat' first
  |with_reducible first|refine Nx.go ?_ |refine Bk.go (fun _=>?_) fun _=>?_ |refine Nb fun nb hnb hnb1 hnb2=>?_
  |simp -dsimp -implicitDefEqProofs (disch:=first|exact Kd|fail) only[go_sem,↓reduceIte,seval, -List.reduceReplicate,List.toList_toArray,hCl,hCw,hCa]
  |with_reducible refine zxp (l:=zcF d) Ko (fun i hi H1 R1 hg hf hR1=>?_) fun G2 v2 hle2 hs2 hsl2=>?_
 ·refine zyb hsm hok O Ko hg hf ?_
  rw[←zwF hi];exact hR1
 ·unfold zz
  refine Upd.leave (H':=H) Ks ?_
  exact fun hle hs=>hR G2 v2 hle2 hs2 hsl2
theorem zs2 {d:DfaT} (hsm:zt d) {G:za} {H:zb} {R:Value→za→zb→Prop} {v:Value} (hv:IsD G d v)
  (hR: ∀G',PLe G G'→Sep G' (zk H)→R (if zaE (zd d)=true then .tuple #[zcm (zf (clL d)), .int .i64 (zl (clL d)).length] else .tuple #[zcm (List.replicate 256 0), .int .i64 0]) G' H):FnT Tryz.prog 49 [v] G H R:=by
 obtain⟨C,an,al,ay,cn,cl,cs,rs,rfl,O⟩:=hv.opened
 have hCl:=O.len
 have hCa:=O.all
 have hCo:=O.of
 refine FnT.sep ?_
 by_cases hok:zd d
 ·have hb:=zG hok
  rw[if_pos hb] at hR
  have hcl:=zcp O.ofl
  have hu8:(u8L (clL d)).length=256:=by rw[List.length_map,hcl]
  have htk:List.take 256 (u8L (clL d))=u8L (clL d):=List.take_of_length_le Ko
  refine FnT.body tok [0,1,2,3,4,5,6,7,10,15,16,17] Tryz.func49 rfl Kk Kk (by show _≤32;simp) fun hsep=>?_
  rw[Tryz.results49]
  have hE:=hsep
  try simp only[zzs] at hE
  repeat(obtain⟨hx',hE⟩:=hE)
  repeat' first
   |with_reducible first|refine Nx.go ?_ |refine Bk.go (fun _=>?_) fun _=>?_ |refine Nb fun nb hnb hnb1 hnb2=>?_ |refine Nr fun nb nsp ncap hnb hncap hnb1 hnb2=>?_
   |simp -dsimp -implicitDefEqProofs (disch:=first|exact Kd|fail) only[go_sem,↓reduceIte,seval, -List.reduceReplicate,List.toList_toArray,hCl,hCa,hCo,hb,zcY,zaV,zec,zcb,zed]
   |with_reducible refine zav hsm O.is ?_
  rename_i b1 hb1 hb11 hb12 b2 hb2 hb21 hb22
  refine zxr hsm hok O fun G2 v2 hle2 hs2 hsl2=>?_
  obtain⟨a2,c2,rfl,hr2,hc2⟩:=hsl2
  have hE:=hs2
  try simp only[zzs] at hE
  repeat(obtain⟨hx',hE⟩:=hE)
  repeat' first
   |with_reducible first|refine Nx.go ?_ |refine Bk.go (fun _=>?_) fun _=>?_ |refine Nb fun nb hnb hnb1 hnb2=>?_ |refine Nr fun nb nsp ncap hnb hncap hnb1 hnb2=>?_
   |simp -dsimp -implicitDefEqProofs (disch:=first|exact Kd|fail) only[go_sem,↓reduceIte,seval, -List.reduceReplicate,List.toList_toArray,hCl,hCa,hCo,hb,zcY,zaV,zec,zcb,zed]
  have hnl:=zv (zcF d)
  have hnu8:(u8L (zf (clL d))).length=256:=by rw[List.length_map,zv,hcl]
  have hno1:(u8L (zf (clL d))).all zax=true:=by rw[List.all_map];exact List.all_eq_true.2 fun _ _=>rfl
  have hns:zi (u8F fun _=>0) 0 (u8L (zf (clL d)))=u8L (zf (clL d)):=by rw[←zhi hcl,zcb]
  have hnt:List.take 256 (u8L (zf (clL d)))=u8L (zf (clL d)):=List.take_of_length_le Ko
  have had:Adr a2:=hr2.adr (by rw[List.length_map,hnl];have:=zgd hok;have:=zcA hok (List.getElem_mem (l:=d.of) (n:=0) (by rw[O.ofl];omega));omega)
  have hofl:=O.ofl
  have hu8o:(u8L d.of).length=256:=by rw[List.length_map,hofl]
  have hw8:=znG hok O.ofl
  refine Tri.loopU tok [0,1,2,3,4,5,6,7,10,15,16,17] Kk [1,2,3,4,5,15,16] (fun q G' fr H'=> ∃ (c:Nat),c+q=256∧G'=G2∧H'=(nb, .cells (u8F (clU d c)) [] 22):: (b2, .cells (u8F fun _=>0) [] 22):: (b1, .cells C [] 27)::H∧fr=[(1, .pointer (some ⟨b1,0,none⟩)),(2, .pointer (some ⟨b2,0,none⟩)),(3, .int .i64 0),(4, .pointer (some ⟨nb,0,none⟩)),(5, .slice a2 (zf (zcF d)).length c2),(15,zcm d.of),(16, .int .i64 (c:Nat))]) (256) ?_ ?_
  ·exact Upd.now ⟨0,by omega,rfl,by rw[zu9],rfl⟩
  ·rintro q G1 fr H' hle hs1 ⟨c,hc,rfl,rfl,rfl⟩
   have hE:=hs1
   try simp only[zzs] at hE
   repeat(obtain⟨hx',hE⟩:=hE)
   by_cases hc2:c<256
   ·obtain⟨h3,h4,e,e1,e2⟩:=zxq hok (i:=c) Ko
    obtain⟨q1,q2⟩:=O.ofb _ (List.getElem_mem (l:=d.of) (n:=c) Ko)
    have hw:IntKind.u8.wrap ((zf (zcF d))[(d.of[c]).toNat])=(clL d)[c]:=by
     rw[e];obtain⟨t,ht⟩:=Int.eq_ofNat_of_zero_le (e▸e1);rw[ht];exact zfm Ko
    have hput:zi (u8F (clU d c)) c [.int .u8 (clL d)[c]]=u8F (clU d (c+1)):=by
     rw[znl hc2];exact zva (by rw[zX (by simpa using h4)];simp)
    have hget:(u8L d.of)[c]? =some (.int .u8 d.of[c]):=by rw[List.getElem?_map,List.getElem?_eq_getElem Ko];rfl
    repeat' first
     |with_reducible first|refine Nx.go ?_ |refine Bk.go (fun _=>?_) fun _=>?_ |refine Nb fun nb hnb hnb1 hnb2=>?_ |refine Nr fun nb nsp ncap hnb hncap hnb1 hnb2=>?_
     |simp -dsimp -implicitDefEqProofs (disch:=first|exact Kd|fail) only[go_sem,↓reduceIte,seval, -List.reduceReplicate,List.toList_toArray,hCl,hCa,hCo,hb,zaV,zec,zcb,zed,hu8o,List.getElem_map,hofl,Row.obj hr2,hw,hput,hget,zgR]
    exact Upd.now ⟨q - 1,by omega,c+1,by omega,rfl,rfl,rfl⟩
   ·obtain rfl:c=256:=by omega
    rw[zwG hofl]
    repeat' first
     |with_reducible first|refine Nx.go ?_ |refine Bk.go (fun _=>?_) fun _=>?_ |refine Nb fun nb hnb hnb1 hnb2=>?_ |refine Nr fun nb nsp ncap hnb hncap hnb1 hnb2=>?_
     |simp -dsimp -implicitDefEqProofs (disch:=first|exact Kd|fail) only[go_sem,↓reduceIte,seval, -List.reduceReplicate,List.toList_toArray,hCl,hCa,hCo,hb,zaV,zec,zcb,zed,hu8,htk,hnu8,hno1,hns,hnt]
     |with_reducible refine zlf hcl ?_
    unfold zz
    refine Upd.leave (H':=H) Ks ?_
    exact fun _ hs=>hR G1 hle2 hs
 ·have hb:=zB hok
  rw[hb,if_neg (by simp)] at hR
  have h8:(List.replicate 256 (Value.int .u8 0))=u8L (List.replicate 256 0):=by rw[u8L,List.map_replicate]
  refine FnT.body tok [0,1,2,3,4,5,6,7,10,15,16,17] Tryz.func49 rfl Kk Kk (by show _≤32;simp) fun hsep=>?_
  rw[Tryz.results49]
  have hE:=hsep
  try simp only[zzs] at hE
  repeat(obtain⟨hx',hE⟩:=hE)
  repeat' first
   |with_reducible first|refine Nx.go ?_ |refine Bk.go (fun _=>?_) fun _=>?_ |refine Nb fun nb hnb hnb1 hnb2=>?_ |refine Nr fun nb nsp ncap hnb hncap hnb1 hnb2=>?_
   |simp -dsimp -implicitDefEqProofs (disch:=first|exact Kd|fail) only[go_sem,↓reduceIte,seval, -List.reduceReplicate,List.toList_toArray,hCl,hCa,hCo,hb,zcY,zaV,zec,zcb,zed]
   |with_reducible refine zav hsm O.is ?_
  unfold zz
  refine Upd.leave (H':=H) Ks ?_
  rw[←zcY,h8]
  exact fun _ hs=>hR G (PLe.refl _) hs
end Go.Proofs.YtefkpedhbijhkaaGreatDoor
namespace Go.Proofs.YtefkpedhbijhkaaGreatDoor
open Go Go.V Go.Proofs
section
variable {α β:Type} [DecidableEq α] [DecidableEq β]
theorem zs3 {l:List α} {m:List β} (h:zf l=zf m):(zl m).length≤(zl l).length:=by
 rcases Nat.lt_or_ge (zl l).length (zl m).length with hlt|hge
 ·obtain⟨c,hc,e⟩:=List.getElem_of_mem ((zI m).1 (List.getElem_mem hlt))
  have hp:=zbX (zcx m) hlt
  have hx:(zf m)[c]'(by rw[zv];exact hc)=((zl l).length:Nat):=by rw[zbM hc,e,zx hp]
  have hcl:c< (zf m).length:=by rw[zv];exact hc
  have hmem:(zf m)[c]∈zf l:=by rw[h];exact List.getElem_mem hcl
  have:=za2 hmem
  omega
 ·exact hge
theorem znH {l:List α} {m:List β} (h:zf l=zf m):(zl l).length=(zl m).length:=Nat.le_antisymm (zs3 h.symm) (zs3 h)
end
end Go.Proofs.YtefkpedhbijhkaaGreatDoor
namespace Go.Proofs.YtefkpedhbijhkaaGreatDoor
open Go Go.V Go.Proofs
theorem zvb (l:List Int) (hlen:l.length≤2000000) {G:za} {H:zb} {R:Value→za→zb→Prop} {v:Value} (hv:Sl G (Value.int .i64) v l)
  (hR: ∀G' v',PLe G G'→Sep G' (zk H)→Sl G' (Value.int .i64) v' l→R v' G' H):FnT Tryz.prog 51 [v] G H R:=by
 obtain⟨a,cap,rfl,hrow,hcap⟩:=hv
 refine FnT.sep ?_
 rcases a with _|a
 ·have h0:l=[]:=List.eq_nil_of_length_eq_zero (by
   rcases Nat.eq_zero_or_pos l.length with h|h
   ·exact h
   ·have:=hrow.adr (by rw[List.length_map];exact h)
    cases this)
  subst h0
  refine FnT.body tok [0,2,4] Tryz.func51 rfl Kk Kk (by show _≤8;simp) fun hsep=>?_
  rw[Tryz.results51]
  have hE:=hsep
  try simp only[zzs] at hE
  repeat(obtain⟨hx',hE⟩:=hE)
  repeat' first
   |with_reducible first|refine Nx.go ?_ |refine Bk.go (fun _=>?_) fun _=>?_ |refine Nb fun nb hnb hnb1 hnb2=>?_ |refine Nr fun nb nsp ncap hnb hncap hnb1 hnb2=>?_
   |simp -dsimp -implicitDefEqProofs (disch:=first|exact Kd|fail) only[go_sem,↓reduceIte,seval]
  unfold zz
  refine Upd.leave (H':=H) Ks ?_
  exact fun hle hs=>hR G _ (PLe.refl _) hs (Sl.nil _ _)
 ·refine FnT.body tok [0,2,4] Tryz.func51 rfl Kk Kk (by show _≤8;simp) fun hsep=>?_
  rw[Tryz.results51]
  have hE:=hsep
  try simp only[zzs] at hE
  repeat(obtain⟨hx',hE⟩:=hE)
  repeat' first
   |with_reducible first|refine Nx.go ?_ |refine Bk.go (fun _=>?_) fun _=>?_ |refine Nb fun nb hnb hnb1 hnb2=>?_ |refine Nr fun nb nsp ncap hnb hncap hnb1 hnb2=>?_
   |simp -dsimp -implicitDefEqProofs (disch:=first|exact Kd|fail) only[go_sem,↓reduceIte,seval,Row.rdSlAll hrow,List.length_map]
  ·rename_i h0
   have h0:l=[]:=List.eq_nil_of_length_eq_zero h0
   subst h0
   unfold zz
   refine Upd.leave (H':=H) Ks ?_
   exact fun hle hs=>hR G _ (PLe.refl _) hs ⟨_,0,rfl,Row.nil _ _,Nat.le_refl _⟩
  ·unfold zz
   refine Upd.go (H':=(nb, .cells (l.map (Value.int .i64)) nsp 3)::H) Ks (Upd.shareRow Ka fun G2 hle2 hs2 hr2=>?_)
   exact fun hle hs=>hR G2 _ hle2 hs ⟨some ⟨nb,0,none⟩,ncap,rfl,hr2,by omega⟩
theorem ziv (l:List Int):zf (zf l)=zf l:=zf7 (zv l) fun i j hi hj=>by
 rw[zv] at hi hj
 exact zfF hi hj
def zjJ (d:DfaT) (row:List Int):List Int:=(zaK (zf (clL d))).map fun b=>atL row (atL d.of b)
def zbA (d:DfaT):List (List Int):=d.next.map (zjJ d)
def zT (d:DfaT):DfaT:={of:=zf (clL d),width:=(zl (clL d)).length,next:=zbA d,label:=d.label,names:=d.names}
noncomputable def zc7 (d:DfaT):DfaT×Int:=if zaE (zd d)=true then(zT d,0) else(zal,6)
theorem zeT {d:DfaT} (h:zd d):zc7 d=(zT d,0):=by unfold zc7;rw[if_pos (zG h)]
theorem zht {d:DfaT} (h: ¬zd d):zc7 d=(zal,6):=by unfold zc7;rw[zB h,if_neg (by simp)]
theorem zlV (d:DfaT):(zaK (zf (clL d))).length=(zl (clL d)).length:=by rw[zfi,znH (ziv (clL d))]
theorem zji {d:DfaT} (hl:d.of.length=256) {k:Nat} (hk:k< (zaK (zf (clL d))).length): ∃x:Nat,(zaK (zf (clL d)))[k]=(x:Nat)∧x<256:=by
 have hin:(zl (zf (clL d)))[k]'(by rw[zfi] at hk;exact hk)∈zf (clL d):=(zI _).1 (List.getElem_mem _)
 obtain⟨x,hx⟩:=zS hin
 obtain⟨hx1,hx2⟩:=zR hx
 exact⟨x,by simp only[zaK,List.getElem_map];exact zx hx,by rw[zv,zcp hl] at hx1;exact hx1⟩
theorem zjK (d:DfaT) (row:List Int):(zjJ d row).length=(zl (clL d)).length:=by unfold zjJ;rw[List.length_map,zlV]
def zll (rows:List (List Int)) (G':za) (j:Nat) (vn:Value) (kn:zb):Prop:=
 (j=0∧vn= .slice none 0 0∧kn=[])∨ ∃bn c1 rv sp1,vn= .slice (some ⟨bn,0,none⟩) j c1∧kn=[(bn, .cells rv sp1 24)]∧rv.length=j∧j+sp1.length=c1∧
  ∀i (h:i<j) (h2:i<rv.length) (h3:i<rows.length),∃b c,rv[i]= .slice b rows[i].length c∧Row G' b (rows[i].map (Value.int .i64))∧rows[i].length≤c
theorem zll.vn {rows:List (List Int)} {G':za} {j:Nat} {vn:Value} {kn:zb} (h:zll rows G' j vn kn): ∃a c,vn= .slice a j c:=by
 rcases h with ⟨rfl,rfl,_⟩| ⟨bn,c1,rv,sp1,rfl,_⟩
 ·exact⟨none,0,rfl⟩
 ·exact⟨_,_,rfl⟩
theorem zll.mono {rows:List (List Int)} {G G':za} (hle:PLe G G') {j:Nat} {vn:Value} {kn:zb} (h:zll rows G j vn kn):zll rows G' j vn kn:=by
 rcases h with h| ⟨bn,c1,rv,sp1,h1,h2,h3,h4,h5⟩
 ·exact .inl h
 ·exact .inr ⟨bn,c1,rv,sp1,h1,h2,h3,h4,fun i a b c=>by
   obtain⟨x,y,e1,e2,e3⟩:=h5 i a b c
   exact⟨x,y,e1,e2.mono hle,e3⟩⟩
end Go.Proofs.YtefkpedhbijhkaaGreatDoor
namespace Go.Proofs.YtefkpedhbijhkaaGreatDoor
open Go Go.V Go.Proofs
theorem zgA {d:DfaT} (hok:zd d) (hl:d.of.length=256):zd (zT d):=by
 obtain⟨hk1,hk2,hk3,hk4,hk5,hk6,hk7⟩:=id hok
 have hcl:=zcp hl
 have hnl:(zbA d).length=d.next.length:=by unfold zbA;rw[List.length_map]
 refine⟨hk1,hk2,hnl.trans hk3,ziv _,by show((zl (zf (clL d))).length:Int)=_;rw[znH (ziv (clL d))];rfl,hk6,fun s h h2=>?_⟩
 have hs:s<d.next.length:=by have:s< (zbA d).length:=h;omega
 obtain⟨hw1,hw2,hw3,hw4⟩:=hk7 s hs h2
 have g2:(zT d).next[s]=zjJ d d.next[s]:=by simp only[zT,zbA,List.getElem_map]
 rw[g2]
 refine⟨by rw[zjK];rfl,hw2,hw3,fun t ht=>?_⟩
 unfold zjJ at ht
 obtain⟨b,hb,rfl⟩:=List.mem_map.1 ht
 obtain⟨i,hi,e⟩:=List.getElem_of_mem hb
 obtain⟨x,e2,hx⟩:=zji hl hi
 rw[←e,e2]
 have hxd:x<d.of.length:=by omega
 have hox:=zcA hok (List.getElem_mem hxd)
 rw[zX (x:=((x:Nat):Int)) (by simpa using hxd)]
 simp only[Int.toNat_natCast]
 have f1:(d.of[x]).toNat< (d.next[s]).length:=by omega
 rw[zX f1]
 exact hw4 _ (List.getElem_mem f1)
end Go.Proofs.YtefkpedhbijhkaaGreatDoor
namespace Go.Proofs.YtefkpedhbijhkaaGreatDoor
open Go Go.V Go.Proofs
theorem zpx {d:DfaT} (hsm:zt d) {G:za} {H:zb} {R:Value→za→zb→Prop} {v:Value} (hg:zb3 G) (hv:IsD G d v)
  (hR: ∀G' v',PLe G G'→Sep G' (zk H)→IsD G' (zc7 d).1 v'→R (.tuple #[v', .int .i64 (zc7 d).2]) G' H):FnT Tryz.prog 27 [v] G H R:=by
 obtain⟨C,an,al,ay,cn,cl,cs,rs,rfl,O⟩:=hv.opened
 obtain⟨hm1,hm2,hm3,hm4,hm5⟩:=id hsm
 have hCl:=O.len
 have hCa:=O.all
 have hCn:=O.n
 have hCx:=O.l
 have hCs:=O.s
 refine FnT.sep ?_
 by_cases hok:zd d
 ·have hb:=zG hok
  rw[zeT hok] at hR
  have hol:(zf (clL d)).length=256:=by rw[zv,zcp O.ofl]
  have hu8:(u8L (zf (clL d))).length=256:=by rw[List.length_map,hol]
  have hno1:(u8L (zf (clL d))).all zax=true:=by rw[List.all_map];exact List.all_eq_true.2 fun _ _=>rfl
  have hns:zi (List.replicate 256 (Value.int .u8 0)) 0 (u8L (zf (clL d)))=u8L (zf (clL d)):=by rw[zcY,←zhi (zcp O.ofl),zcb]
  have bu1:zi zF 0 (u8L (zf (clL d)))=u8L (zf (clL d))++[Value.int .i64 0,Value.slice none 0 0,Value.slice none 0 0,Value.slice none 0 0]:=zeg (d:=zT d) hol
  have bu2:zi (u8L (zf (clL d))++[Value.int .i64 0,Value.slice none 0 0,Value.slice none 0 0,Value.slice none 0 0]) 256 [Value.int .i64 ((zl (clL d)).length:Nat)]=zc (zT d) (.slice none 0 0) (.slice none 0 0) (.slice none 0 0):=zeh (d:=zT d) hol
  have bu3: ∀x,zi (zc (zT d) (.slice none 0 0) (.slice none 0 0) (.slice none 0 0)) 258 [x]=zc (zT d) (.slice none 0 0) x (.slice none 0 0):=fun x=>zbn (d:=zT d) hol _ _ _ _
  have bu4: ∀vl x,zi (zc (zT d) (.slice none 0 0) vl (.slice none 0 0)) 259 [x]=zc (zT d) (.slice none 0 0) vl x:=fun vl x=>zei (d:=zT d) hol _ _ _ _
  have bu5: ∀vn vl vs x,zi (zc (zT d) vn vl vs) 257 [x]=zc (zT d) x vl vs:=fun vn vl vs x=>zca (d:=zT d) hol _ _ _ _
  have hl1:(u8L (zf (clL d))++[Value.int .i64 0,Value.slice none 0 0,Value.slice none 0 0,Value.slice none 0 0]).length=260:=by rw[List.length_append,hu8];rfl
  have hl2: ∀a b c:Value,(zc (zT d) a b c).length=260:=fun a b c=>zab (d:=zT d) hol _ _ _
  have hg2: ∀a b c:Value,(zc (zT d) a b c)[257]? =some a:=fun a b c=>zdG (d:=zT d) hol _ _ _
  have hputz: ∀vn vl vs,zi zF 0 (zc (zT d) vn vl vs)=zc (zT d) vn vl vs:=fun vn vl vs=>by
   unfold zi
   rw[List.take_zero,List.nil_append,List.drop_of_length_le (by rw[zn,hl2];omega),List.append_nil]
  have hone: ∀ (a a' a'':Option Addr) (b c b' c' b'' c'':Nat),(zc (zT d) (.slice a'' b'' c'') (.slice a b c) (.slice a' b' c')).all zax=true:=fun a a' a'' b c b' c' b'' c''=>za3 rfl rfl rfl
  have htk2: ∀vn vl vs,List.take 260 (zc (zT d) vn vl vs)=zc (zT d) vn vl vs:=fun vn vl vs=>List.take_of_length_le (by rw[hl2];omega)
  have hnt:List.take 256 (u8L (zf (clL d)))=u8L (zf (clL d)):=List.take_of_length_le Ko
  refine FnT.body tok [0,1,2,3,4,5,6,7,9,10,11,12,15,34,35,36,37,42,43,44,45] Tryz.func27 rfl Kk Kk (by show _≤68;simp) fun hsep=>?_
  rw[Tryz.results27]
  have hE:=hsep
  try simp only[zzs] at hE
  repeat(obtain⟨hx',hE⟩:=hE)
  repeat' first
   |with_reducible first|refine Nx.go ?_ |refine Bk.go (fun _=>?_) fun _=>?_ |refine Nb fun nb hnb hnb1 hnb2=>?_ |refine Nr fun nb nsp ncap hnb hncap hnb1 hnb2=>?_
   |simp -dsimp -implicitDefEqProofs (disch:=first|exact Kd|fail) only[go_sem,↓reduceIte,seval, -List.reduceReplicate,List.toList_toArray,hCl,hCa,hb,zn]
   |with_reducible refine zav hsm O.is ?_
  rename_i b1 hb1 hb11 hb12
  revert nb
  intro b2 hb2 hb21 hb22
  refine zs2 hsm O.is fun G2 hle2 hs2=>?_
  rw[if_pos hb]
  have hE:=hs2
  try simp only[zzs] at hE
  repeat(obtain⟨hx',hE⟩:=hE)
  repeat' first
   |with_reducible first|refine Nx.go ?_ |refine Bk.go (fun _=>?_) fun _=>?_ |refine Nb fun nb hnb hnb1 hnb2=>?_ |refine Nr fun nb nsp ncap hnb hncap hnb1 hnb2=>?_
   |simp -dsimp -implicitDefEqProofs (disch:=first|exact Kd|fail) only[go_sem,↓reduceIte,seval, -List.reduceReplicate,List.toList_toArray,hCl,hCa,hb,List.length_replicate,hns,hu8,hno1,hnt]
  revert nb
  intro b4 hb4 hb41 hb42
  refine zs1 hol (hg.mono hle2) fun G3 v3 hle3 hs3 hsl3=>?_
  obtain⟨a3,c3,rfl,hr3,hc3⟩:=hsl3
  have hE:=hs3
  try simp only[zzs] at hE
  repeat(obtain⟨hx',hE⟩:=hE)
  have O3:=O.mono (hle2.trans hle3)
  have hlab3:=O3.label
  have hnam3:=O3.names
  repeat' first
   |with_reducible first|refine Nx.go ?_ |refine Bk.go (fun _=>?_) fun _=>?_ |refine Nb fun nb hnb hnb1 hnb2=>?_ |refine Nr fun nb nsp ncap hnb hncap hnb1 hnb2=>?_
   |simp -dsimp -implicitDefEqProofs (disch:=first|exact Kd|fail) only[go_sem,↓reduceIte,seval, -List.reduceReplicate,List.toList_toArray,hCl,hCa,hCn,hCx,hCs,hnt,hu8,bu1,bu2,bu3,bu4,hl1,hl2,hputz,hone,zn]
   |with_reducible refine Tri.drawS tok mixed [0,1,2,3,4,5,6,7,9,10,11,12,15,34,35,36,37,42,43,44,45] 5 [0,3,6] (.op 0 .held (.op 1 .plain (.op 2 .plain (.op 3 .held (.op 5 .plain (.op 6 .held (.both (.op 4 .keeps (.both (.op 7 .keeps (.op 8 .plain (.op 9 .keeps (.op 10 .plain .nil)))) (.op 9 .keeps (.op 7 .keeps (.op 8 .plain (.op 10 .plain .nil)))))) (.op 9 .keeps (.op 4 .keeps (.op 7 .keeps (.op 8 .plain (.op 10 .plain .nil)))))))))))) Kk [(b4, .cells (u8L (zf (clL d))) [] 22),(b1, .cells C [] 27)] Ks ?_
   | ((with_reducible refine zvb d.label hm3 (by first|exact hlab3|exact hlab3.mono Ka) fun G8 v8 hle8 hs8 hsl8=>?_);obtain⟨a8,c8,rfl,hr8,hc8⟩:=hsl8;(have hE:=hs8;try simp only[zzs] at hE;repeat(obtain⟨hx',hE⟩:=hE)))
   | ((with_reducible refine zfI d.names hm4 (by first|exact hnam3|exact hnam3.mono Ka) fun G9 v9 hle9 hs9 hsl9=>?_);obtain⟨a9,c9,rfl,hr9,hc9⟩:=hsl9;(have hE:=hs9;try simp only[zzs] at hE;repeat(obtain⟨hx',hE⟩:=hE)))
   | (with_reducible refine And.intro ?_ ?_)
  all_goals (first
   | (have hx9:PLe G8 G9:=hle9;have hr8:=hr8.mono hle9;have hle5:PLe G3 G9:=hle8.trans hle9;rename za=>G5)
   | (have hx9:PLe G9 G8:=hle8;have hr9:=hr9.mono hle8;have hle5:PLe G3 G8:=hle9.trans hle8;rename za=>G5))
  all_goals have O5:=O3.mono hle5
  all_goals have hr35:=hr3.mono hle5
  all_goals (revert nb;intro b7 hb7 hb71 hb72;intros)
  all_goals clear hr3 O3 hlab3 hnam3
  all_goals try clear hE
  all_goals
   refine Tri.loopU tok [0,1,2,3,4,5,6,7,9,10,11,12,15,34,35,36,37,42,43,44,45] Kk [1,2,5,6,7,34,35,36] (fun q G' fr H'=> ∃ (s:Nat) (vn:Value) (kn:zb),s+q=d.next.length∧PLe G5 G'∧zll (zbA d) G' s vn kn∧H'=(b7, .cells (zc (zT d) vn (.slice a8 d.label.length c8) (.slice a9 d.names.length c9)) [] 27):: (b4, .cells (u8L (zf (clL d))) [] 22):: (b2, .cells zF [] 27):: (b1, .cells C [] 27):: (kn++H)∧fr=[(1, .pointer (some ⟨b1,0,none⟩)),(2, .pointer (some ⟨b2,0,none⟩)),(5, .int .i64 (zl (clL d)).length),(6, .slice a3 (zaK (zf (clL d))).length c3),(7, .pointer (some ⟨b7,0,none⟩)),(34, .slice an d.next.length cn),(35, .int .i64 d.next.length),(36, .int .i64 (s:Nat))]) (d.next.length) ?_ ?_
   ·exact Upd.now ⟨0,_,[],by omega,PLe.refl _, .inl ⟨rfl,rfl,rfl⟩,rfl,rfl⟩
   ·rintro q G1 fr H' hle hs1 ⟨s,vn,kn,hsq,hle6,hX,rfl,rfl⟩
    by_cases hsn:s<d.next.length
    ·have O6:=O5.mono hle6
     have hr36:=hr35.mono hle6
     have had:Adr an:=O6.rn.adr (by have:=O.rnl;omega)
     obtain⟨b,cc,e1,e2,e3⟩:=O6.rs s hsn (by have:=O.rnl;omega)
     obtain⟨hw1,hw2,hw3,hw4⟩:=hok.2.2.2.2.2.2 s hsn (by have:=hok.2.2.1;omega)
     obtain⟨row,hrow⟩: ∃row,row=d.next[s]:=⟨_,rfl⟩
     rw[←hrow] at e1 e2 e3 hw1 hw4
     obtain⟨r,hr⟩: ∃r,r=zjJ d row:=⟨_,rfl⟩
     have hrl:r.length=(zl (clL d)).length:=by rw[hr,zjK]
     have hll:=zlV d
     have hrnl:=O.rnl
     have htl:=zam (clL d)
     have hcl:=zcp O.ofl
     have hrs:(zbA d)[s]'(by unfold zbA;rw[List.length_map];exact hsn)=r:=by simp only[zbA,List.getElem_map];rw[hr,hrow]
     have hE:=hs1
     try simp only[zzs] at hE
     repeat(obtain⟨hx',hE⟩:=hE)
     repeat' first
      |with_reducible first|refine Nx.go ?_ |refine Bk.go (fun _=>?_) fun _=>?_ |refine Nb fun nb hnb hnb1 hnb2=>?_ |refine Nr fun nb nsp ncap hnb hncap hnb1 hnb2=>?_
      |simp -dsimp -implicitDefEqProofs (disch:=first|exact Kd|fail) only[go_sem,↓reduceIte,seval, -List.reduceReplicate,Row.obj O6.rn,e1,Nat.sub_self,List.replicate_zero]
     revert nb
     intro br hbr hbr1 hbr2
     rw[show List.replicate (zl (clL d)).length (Value.int .i64 0)=(za8 r 0).map (Value.int .i64) by rw[←hrl,zff]]
     refine Tri.loopU tok [0,1,2,3,4,5,6,7,9,10,11,12,15,34,35,36,37,42,43,44,45] Kk [1,2,5,6,7,9,10,34,35,36,42,43,44] (fun q2 G' fr H'=> ∃k:Nat,k+q2=r.length∧G'=G1∧H'=(br, .cells ((za8 r k).map (Value.int .i64)) [] 3):: (b7, .cells (zc (zT d) vn (.slice a8 d.label.length c8) (.slice a9 d.names.length c9)) [] 27):: (b4, .cells (u8L (zf (clL d))) [] 22):: (b2, .cells zF [] 27):: (b1, .cells C [] 27):: (kn++H)∧fr=[(1, .pointer (some ⟨b1,0,none⟩)),(2, .pointer (some ⟨b2,0,none⟩)),(5, .int .i64 (zl (clL d)).length),(6, .slice a3 (zaK (zf (clL d))).length c3),(7, .pointer (some ⟨b7,0,none⟩)),(9, .slice b row.length cc),(10, .slice (some ⟨br,0,none⟩) (zl (clL d)).length (zl (clL d)).length),(34, .slice an d.next.length cn),(35, .int .i64 d.next.length),(36, .int .i64 (s:Nat)),(42, .slice a3 (zaK (zf (clL d))).length c3),(43, .int .i64 (zaK (zf (clL d))).length),(44, .int .i64 (k:Nat))]) (r.length) ?_ ?_
     ·exact Upd.now ⟨0,by omega,rfl,rfl,rfl⟩
     ·rintro q2 G2' fr H' hle2' hs2' ⟨k,hkq,rfl,rfl,rfl⟩
      have hpl:(za8 r k).length=r.length:=zga r Ko
      by_cases hkl:k<r.length
      ·have hE:=hs2'
       try simp only[zzs] at hE
       repeat(obtain⟨hx',hE⟩:=hE)
       obtain⟨x,hx1,hx2⟩:=zji O.ofl (d:=d) (k:=k) Ko
       have hxl:x<d.of.length:=by rw[O.ofl];exact hx2
       have had3:Adr a3:=hr36.adr (by rw[List.length_map,hll,←hrl];omega)
       have hoc:=zcA hok (List.getElem_mem (l:=d.of) (n:=x) (by rw[O.ofl];exact hx2))
       obtain⟨y,hy⟩:=Int.eq_ofNat_of_zero_le hoc.1
       have hyr:y<row.length:=by omega
       have hadb:Adr b:=e2.adr (by rw[List.length_map];omega)
       have hgetC:C[x]? =some (.int .u8 (y:Nat)):=by
        have h1:(C.take 256)[x]? =some (.int .u8 d.of[x]):=by rw[O.of,List.getElem?_map,List.getElem?_eq_getElem (by rw[O.ofl];exact hx2)];rfl
        rw[List.getElem?_take,if_pos hx2,hy] at h1
        exact h1
       have hval:row[y]=r[k]:=by
        simp only[hr,zjJ,List.getElem_map]
        have h1:atL d.of ((x:Nat):Int)=(y:Nat):=by rw[zX (by simp only[Int.toNat_natCast];rw[O.ofl];exact hx2)];simp only[Int.toNat_natCast];exact hy
        rw[hx1,h1,zX (by simpa using hyr)];simp only[Int.toNat_natCast]
       have hput:=zgb hkl
       repeat' first
        |with_reducible first|refine Nx.go ?_ |refine Bk.go (fun _=>?_) fun _=>?_ |refine Nb fun nb hnb hnb1 hnb2=>?_ |refine Nr fun nb nsp ncap hnb hncap hnb1 hnb2=>?_
        |simp -dsimp -implicitDefEqProofs (disch:=first|exact Kd|fail) only[go_sem,↓reduceIte,seval, -List.reduceReplicate,List.length_map,hCl,Row.obj hr36,Row.obj e2,List.getElem_map,hx1,hgetC,hval,hput,hpl,Int.toNat_natCast]
       exact Upd.now ⟨q2 - 1,by omega,k+1,by omega,rfl,rfl,rfl⟩
      ·obtain rfl:k=r.length:=by omega
       rw[zik r] at hs2'⊢
       rcases hX with ⟨hj0,rfl,rfl⟩| ⟨bn,c1,rv,sp1,rfl,rfl,hrv,hc1,hrws⟩
       ·have hE:=hs2'
        try simp only[zzs] at hE
        repeat(obtain⟨hx',hE⟩:=hE)
        repeat' first
         |with_reducible first|refine Nx.go ?_ |refine Bk.go (fun _=>?_) fun _=>?_ |refine Nb fun nb hnb hnb1 hnb2=>?_ |refine Nr fun nb nsp ncap hnb hncap hnb1 hnb2=>?_
         |simp -dsimp -implicitDefEqProofs (disch:=first|exact Kd|fail) only[go_sem,↓reduceIte,seval, -List.reduceReplicate,hl2,hg2,bu5,List.replicate_one]
        refine Upd.go (H':=(br, .cells (r.map (Value.int .i64)) [] 3):: (b7, .cells (zc (zT d) (.slice (some ⟨nb,0,none⟩) 1 ncap) (.slice a8 d.label.length c8) (.slice a9 d.names.length c9)) [] 27):: (b4, .cells (u8L (zf (clL d))) [] 22):: (b2, .cells zF [] 27):: (b1, .cells C [] 27):: ([(nb, .cells [.slice (some ⟨br,0,none⟩) (zl (clL d)).length (zl (clL d)).length] nsp 24)]++H)) Ks (Upd.shareRow Ka fun G6 hle7 hs7 hr7=>?_)
        refine⟨q - 1,by omega,s+1,_,_,by omega,hle6.trans hle7, .inr ⟨nb,ncap,_,nsp,by rw[hj0],rfl,by rw[hj0];rfl,by omega,fun i h h2 h3=>?_⟩,rfl,rfl⟩
        obtain rfl:i=0:=by omega
        obtain rfl:s=0:=hj0
        refine⟨some ⟨br,0,none⟩,(zl (clL d)).length,?_,?_,?_⟩
        ·rw[hrs,hrl];rfl
        ·rw[hrs];exact hr7
        ·rw[hrs,hrl];exact Nat.le_refl _
       ·have hE:=hs2'
        try simp only[zzs] at hE
        repeat(obtain⟨hx',hE⟩:=hE)
        repeat' first
         |with_reducible first|refine Nx.go ?_ |refine Bk.go (fun _=>?_) fun _=>?_ |refine Nb fun nb hnb hnb1 hnb2=>?_ |refine Nr fun nb nsp ncap hnb hncap hnb1 hnb2=>?_
         |simp -dsimp -implicitDefEqProofs (disch:=first|exact Kd|fail) only[go_sem,↓reduceIte,seval, -List.reduceReplicate,hl2,hg2,bu5,List.replicate_one]
        refine Upd.go (H':=(br, .cells (r.map (Value.int .i64)) [] 3):: (b7, .cells (zc (zT d) (.slice (some ⟨nb,0,none⟩) (s+1) ncap) (.slice a8 d.label.length c8) (.slice a9 d.names.length c9)) [] 27):: (b4, .cells (u8L (zf (clL d))) [] 22):: (b2, .cells zF [] 27):: (b1, .cells C [] 27):: ([(nb, .cells (rv++[.slice (some ⟨br,0,none⟩) (zl (clL d)).length (zl (clL d)).length]) nsp 24)]++H)) Ks (Upd.shareRow Ka fun G6 hle7 hs7 hr7=>?_)
        refine⟨q - 1,by omega,s+1,_,_,by omega,hle6.trans hle7, .inr ⟨nb,ncap,_,nsp,rfl,rfl,by rw[List.length_append,hrv];rfl,by omega,fun i h h2 h3=>?_⟩,rfl,rfl⟩
        rcases Nat.lt_or_ge i s with hij|hij
        ·obtain⟨b',c',f1,f2,f3⟩:=hrws i hij Ko h3
         exact⟨b',c',by rw[List.getElem_append_left Ko];exact f1,f2.mono hle7,f3⟩
        ·obtain rfl:i=s:=by omega
         refine⟨some ⟨br,0,none⟩,(zl (clL d)).length,?_,?_,?_⟩
         ·rw[hrs,hrl,List.getElem_append_right Ko];simp [hrv]
         ·rw[hrs];exact hr7
         ·rw[hrs,hrl];exact Nat.le_refl _
    ·obtain rfl:s=d.next.length:=by omega
     have hnl:(zbA d).length=d.next.length:=by unfold zbA;rw[List.length_map]
     have hob: ∀x∈(zT d).of,0≤x∧x≤255:=fun x hx=>by
      have h1:=za2 (l:=clL d) hx
      have h2:=zam (clL d)
      have h3:=zcp O.ofl
      omega
     have hr86:=hr8.mono hle6
     have hr96:=hr9.mono hle6
     rcases hX with ⟨hj0,rfl,rfl⟩| ⟨bn,c1,rv,sp1,rfl,rfl,hrv,hc1,hrws⟩
     ·have:=hok.1
      have:=hok.2.2.1
      omega
     ·have hE:=hs1
      try simp only[zzs] at hE
      repeat(obtain⟨hx',hE⟩:=hE)
      repeat' first
       |with_reducible first|refine Nx.go ?_ |refine Bk.go (fun _=>?_) fun _=>?_ |refine Nb fun nb hnb hnb1 hnb2=>?_ |refine Nr fun nb nsp ncap hnb hncap hnb1 hnb2=>?_
       |simp -dsimp -implicitDefEqProofs (disch:=first|exact Kd|fail) only[go_sem,↓reduceIte,seval, -List.reduceReplicate,List.toList_toArray,hl2,hputz,hone,htk2,zn]
      unfold zz
      refine Upd.go (H':=(bn, .cells rv sp1 24)::H) Ks (Upd.shareRow Ka fun G6 hle7 hs7 hr7=>?_)
      exact fun _ hs=>hR G6 _ (((hle2.trans hle3).trans hle5).trans (hle6.trans hle7)) hs ⟨hol,hob,_,_,_,rfl,⟨some ⟨bn,0,none⟩,c1,rv,by show _=Value.slice _ (zbA d).length _;rw[hnl],hr7,by show _=(zbA d).length;omega,by show(zbA d).length≤_;omega,fun i h h2=>by
       obtain⟨b',c',f1,f2,f3⟩:=hrws i (by have:i< (zbA d).length:=h;omega) h2 h
       exact⟨b',c',f1,f2.mono hle7,f3⟩⟩,⟨a8,c8,rfl,hr86.mono hle7,hc8⟩,⟨a9,c9,rfl,hr96.mono hle7,hc9⟩⟩
 ·have hb:=zB hok
  rw[zht hok] at hR
  refine FnT.body tok [0,1,2,3,4,5,6,7,9,10,11,12,15,34,35,36,37,42,43,44,45] Tryz.func27 rfl Kk Kk (by show _≤68;simp) fun hsep=>?_
  rw[Tryz.results27]
  have hE:=hsep
  try simp only[zzs] at hE
  repeat(obtain⟨hx',hE⟩:=hE)
  repeat' first
   |with_reducible first|refine Nx.go ?_ |refine Bk.go (fun _=>?_) fun _=>?_ |refine Nb fun nb hnb hnb1 hnb2=>?_ |refine Nr fun nb nsp ncap hnb hncap hnb1 hnb2=>?_
   |simp -dsimp -implicitDefEqProofs (disch:=first|exact Kd|fail) only[go_sem,↓reduceIte,seval, -List.reduceReplicate,List.toList_toArray,hCl,hCa,hb,zn,zag,zan,zaA]
   |with_reducible refine zav hsm O.is ?_
  unfold zz
  refine Upd.leave (H':=H) Ks ?_
  exact fun _ hs=>hR G _ (PLe.refl _) hs (zaR _)
end Go.Proofs.YtefkpedhbijhkaaGreatDoor
namespace Go.Proofs.YtefkpedhbijhkaaGreatDoor
open Go Go.V Go.Proofs
theorem zs4 {d:DfaT} (hl:d.of.length=256):(zT d).of.length=256:=by
 show(zf (clL d)).length=256
 rw[zv,zcp hl]
theorem zfP {d:DfaT} (hl:d.of.length=256) (hsm:zt d):zt (zT d):=by
 obtain⟨h1,h2,h3,h4,h5⟩:=hsm
 refine⟨?_,fun r hr=>?_,h3,h4,h5⟩
 ·show(zbA d).length≤_
  unfold zbA;rw[List.length_map];exact h1
 ·have hr:r∈zbA d:=hr
  unfold zbA at hr
  obtain⟨row,_,rfl⟩:=List.mem_map.1 hr
  rw[zjK]
  have:=zam (clL d)
  rw[zcp hl] at this
  omega
theorem zo0 {d:DfaT} (hsm:zt d) {ls:List (List Int)} (h:ls.length≤65536) (hw:d.width≤256):zt (zU d ls):=by
 obtain⟨h1,h2,h3,h4,h5⟩:=hsm
 refine⟨?_,fun r hr=>?_,?_,h4,h5⟩
 ·show(ls.map _).length≤_
  rw[List.length_map];omega
 ·have hr:r∈ls.map (fun f=>(zaj 0 d.next d.width.toNat f).map (zp ls)):=hr
  obtain⟨f,_,rfl⟩:=List.mem_map.1 hr
  rw[List.length_map]
  unfold zaj
  rw[List.length_map,List.length_range]
  omega
 ·show(ls.map _).length≤_
  rw[List.length_map];omega
theorem zs5 {d:DfaT} (hok:zd d) (hof:d.of.length=256):1≤d.width∧d.width≤256:=by
 have h5:=hok.2.2.2.2.1
 have h2:=zam d.of
 have h0:0<d.of.length:=by omega
 have:=List.length_pos_of_mem ((zI d.of).2 (List.getElem_mem h0))
 omega
theorem zhu {d:DfaT} (hok:zd d) (hof:d.of.length=256) (hsm:zt d) {m:Nat} (hm:m≤65536) (h:(zV d m).2=true):(zm d m).length≤m∧(zV d m).1=zU d (zm d m)∧zd (zV d m).1∧zt (zV d m).1∧(zV d m).1.of.length=256:=by
 have hl:(zm d m).length≤m:=by
  unfold zV at h
  split at h
  ·assumption
  ·cases h
 have he:(zV d m).1=zU d (zm d m):=by unfold zV;rw[if_pos hl]
 rw[he]
 exact⟨hl,rfl,zgq hok hof hm hl,zo0 hsm Ko (zs5 hok hof).2,hof⟩
def zge (d:DfaT):DfaT:=zr (zT (zdf d (zau d)))
def zmB (d:DfaT):Nat→DfaT
 |0=>d
 |1=>zdf d (zau d)
 |2=>zT (zdf d (zau d))
 |_=>zge d
noncomputable def zeo (d:DfaT) (most:Int):DfaT×Int:=haveI:=Classical.propDecidable
 if zbO d most=0 then
  if (zao (zr d) most).2=0 then
   if (zao (zao (zr d) most).1 65536).2=0 then(zge (zao (zao (zr d) most).1 65536).1,0) else(zal,(zao (zao (zr d) most).1 65536).2)
  else(zal,(zao (zr d) most).2)
 else(zal,zbO d most)
theorem zrf {d:DfaT} {most:Int} (h: ¬zbO d most=0):zeo d most=(zal,zbO d most):=by unfold zeo;rw[if_neg h]
theorem znI {d:DfaT} {most:Int} (h:zbO d most=0) (h2: ¬(zao (zr d) most).2=0):zeo d most=(zal,(zao (zr d) most).2):=by unfold zeo;rw[if_pos h,if_neg h2]
theorem zvc {d:DfaT} {most:Int} (h:zbO d most=0) (h2:(zao (zr d) most).2=0) (h3: ¬(zao (zao (zr d) most).1 65536).2=0):zeo d most=(zal,(zao (zao (zr d) most).1 65536).2):=by unfold zeo;rw[if_pos h,if_pos h2,if_neg h3]
theorem zlm {d:DfaT} {most:Int} (h:zbO d most=0) (h2:(zao (zr d) most).2=0) (h3:(zao (zao (zr d) most).1 65536).2=0):zeo d most=(zge (zao (zao (zr d) most).1 65536).1,0):=by unfold zeo;rw[if_pos h,if_pos h2,if_pos h3]
theorem zlW {d:DfaT} (hok:zd d) (hof:d.of.length=256) (hsm:zt d) {most:Int} (h:(zao d most).2=0):1≤most∧most≤65536∧(zV d most.toNat).2=true∧(zao d most).1=(zV d most.toNat).1∧zd (zao d most).1∧zt (zao d most).1∧(zao d most).1.of.length=256:=by
 by_cases h1:1≤most∧most≤65536
 ·cases ht:(zV d most.toNat).2 with
  |true=>
   rw[zej hok h1 ht]
   obtain⟨_,_,g1,g2,g3⟩:=zhu hok hof hsm Ko ht
   exact⟨h1.1,h1.2,rfl,rfl,g1,g2,g3⟩
  |false=>rw[zjE hok h1 ht] at h;cases h
 ·rw[znu hok h1] at h;cases h
theorem zrg {d:DfaT} (hsm:zt d) {most:Int} (hm: -9223372036854775808≤most∧most<9223372036854775808) {G:za} {H:zb} {R:Value→za→zb→Prop} (hg:zb3 G) {v:Value} (hv:IsD G d v)
  (hR: ∀G' v',PLe G G'→Sep G' (zk H)→IsD G' (zeo d most).1 v'→R (.tuple #[v', .int .i64 (zeo d most).2]) G' H):FnT Tryz.prog 11 [v, .int .i64 most] G H R:=by
 obtain⟨C,an,al,ay,cn,cl,cs,rs,rfl,O⟩:=hv.opened
 have hCl:=O.len
 have hCa:=O.all
 refine FnT.sep ?_
 by_cases hw0:zbO d most=0
 ·have hok:zd d:=Classical.byContradiction fun h=>by rw[zho h] at hw0;cases hw0
  have htr:=zc4 hok
  have htk:zd (zr d):=zcE hok (za1 hok)
  have hts:=zb2 hsm hok
  refine FnT.bodyS tok [0,1,2,4,5,6,7,9,10,12,17,32,41,44,45,46,47,57] (.seq .run (.seq .run (.seq .run (.seq .run (.seq .run (.seq .run .cut)))))) Tryz.func11 rfl Kk Kk (by show _≤62;simp) fun hsep=>?_
  rw[Tryz.results11]
  have hE:=hsep
  try simp only[zzs] at hE
  repeat(obtain⟨hx',hE⟩:=hE)
  repeat' first
   |with_reducible first|refine Nx.go ?_ |refine Bk.go (fun _=>?_) fun _=>?_ |refine Nb fun nb hnb hnb1 hnb2=>?_ |refine Nr fun nb nsp ncap hnb hncap hnb1 hnb2=>?_
   |simp -dsimp -implicitDefEqProofs (disch:=first|exact Kd|fail) only[go_sem,↓reduceIte,seval, -List.reduceReplicate,List.toList_toArray,hCl,hCa,hw0]
   |with_reducible refine zgJ hsm hm O.is ?_
  rename_i b2 z1 z2 z3
  obtain⟨b4,e40⟩: ∃x,x=nb:=⟨_,rfl⟩
  subst e40
  refine ziu hsm O.is fun G1 v1 hle1 hs1 hI1=>?_
  rw[htr] at hI1⊢
  have hI1:IsD G1 (zr d) v1:=hI1
  have hof1:(zr d).of.length=256:=hI1.1
  obtain⟨C1,an1,al1,ay1,cn1,cl1,cs1,rs1,rfl,O1⟩:=hI1.opened
  have hC1l:=O1.len
  have hone1:=zaW O1.is
  have hput1:=zbj hC1l
  have htk1:List.take 260 C1=C1:=List.take_of_length_le Ko
  have hE:=hs1
  try simp only[zzs] at hE
  repeat(obtain⟨hx',hE⟩:=hE)
  repeat' first
   |with_reducible first|refine Nx.go ?_ |refine Bk.go (fun _=>?_) fun _=>?_ |refine Nb fun nb hnb hnb1 hnb2=>?_ |refine Nr fun nb nsp ncap hnb hncap hnb1 hnb2=>?_
   |simp -dsimp -implicitDefEqProofs (disch:=first|exact Kd|fail) only[go_sem,↓reduceIte,seval, -List.reduceReplicate,List.toList_toArray,hCl,hCa,hC1l,hone1,hput1,htk1,zn]
  obtain⟨b7,e70⟩: ∃x,x=nb:=⟨_,rfl⟩
  subst e70
  refine zkB hts hm O1.is fun G2 v2 hle2 hs2 hI2=>?_
  obtain⟨r1,hr1⟩: ∃r1,r1=zao (zr d) most:=⟨_,rfl⟩
  rw[←hr1] at hI2⊢
  obtain⟨C2,an2,al2,ay2,cn2,cl2,cs2,rs2,rfl,O2⟩:=hI2.opened
  have hC2l:=O2.len
  have hone2:=zaW O2.is
  have hput2:=zbj hC2l
  have htk2:List.take 260 C2=C2:=List.take_of_length_le Ko
  have hE:=hs2
  try simp only[zzs] at hE
  repeat(obtain⟨hx',hE⟩:=hE)
  by_cases h1:r1.2=0
  ·rw[h1]
   have hf1:=zlW htk hof1 hts (by rw[←hr1];exact h1)
   rw[←hr1] at hf1
   obtain⟨_,_,_,_,hk1,hsm1,hof2⟩:=hf1
   repeat' first
    |with_reducible first|refine Nx.go ?_ |refine Bk.go (fun _=>?_) fun _=>?_ |refine Nb fun nb hnb hnb1 hnb2=>?_ |refine Nr fun nb nsp ncap hnb hncap hnb1 hnb2=>?_
    |simp -dsimp -implicitDefEqProofs (disch:=first|exact Kd|fail) only[go_sem,↓reduceIte,seval, -List.reduceReplicate,List.toList_toArray,hCl,hCa,hC1l,hC2l,hone2,hput2,htk2,zn]
   refine zkB hsm1 (by decide) O2.is fun G3 v3 hle3 hs3 hI3=>?_
   obtain⟨r2,hr2⟩: ∃r2,r2=zao r1.1 65536:=⟨_,rfl⟩
   rw[←hr2] at hI3⊢
   obtain⟨C3,an3,al3,ay3,cn3,cl3,cs3,rs3,rfl,O3⟩:=hI3.opened
   have hC3l:=O3.len
   have hone3:=zaW O3.is
   have htk3:List.take 260 C3=C3:=List.take_of_length_le Ko
   have hput3:=zdM hC2l hC3l
   have hE:=hs3
   try simp only[zzs] at hE
   repeat(obtain⟨hx',hE⟩:=hE)
   obtain⟨b9,e90⟩: ∃x,x=nb:=⟨_,rfl⟩
   subst e90
   have hz:List.replicate 256 (Value.int .u8 0)++[Value.int .i64 0,Value.slice none 0 0,Value.slice none 0 0,Value.slice none 0 0]=zF:=rfl
   rw[hz]
   by_cases h2:r2.2=0
   ·rw[h2]
    have hf2:=zlW hk1 hof2 hsm1 (by rw[←hr2];exact h2)
    rw[←hr2] at hf2
    obtain⟨_,_,_,_,hkx,hx'2,hofx⟩:=hf2
    rw[zlm hw0 (by rw[←hr1];exact h1) (by rw[←hr1,←hr2];exact h2),←hr1,←hr2] at hR
    repeat' first
     |with_reducible first|refine Nx.go ?_ |refine Bk.go (fun _=>?_) fun _=>?_ |refine Nb fun nb hnb hnb1 hnb2=>?_ |refine Nr fun nb nsp ncap hnb hncap hnb1 hnb2=>?_
     |simp -dsimp -implicitDefEqProofs (disch:=first|exact Kd|fail) only[go_sem,↓reduceIte,seval, -List.reduceReplicate,List.toList_toArray,hCl,hCa,hC1l,hC2l,hC3l,hone3,hput3,htk3]
    have hun:=zgy hkx
    have k1r:=zjh hkx hun
    have k1s:zt (zdf r2.1 (zau r2.1)):=by have:=zgx hx'2;rw[zd3 hkx] at this;exact this
    have k1o:(zdf r2.1 (zau r2.1)).of.length=256:=hofx
    have k2r:=zgA k1r k1o
    have k2s:=zfP k1o k1s
    refine Tri.live [4,9] ?_
    refine Tri.upd (Upd.go (H':=(b9, .cells C3 [] 27):: (b4, .cells zF [] 27)::H) Ks (Upd.now ?_))
    refine Tri.run tok [0,1,2,4,5,6,7,9,10,12,17,32,41,44,45,46,47,57] Kk ?_
    have hr3: ∀x:Value,List.replicate 3 x=[x,x,x]:=fun _=>rfl
    repeat' first
     |with_reducible first|refine Nx.go ?_ |refine Bk.go (fun _=>?_) fun _=>?_ |refine Nb fun nb hnb hnb1 hnb2=>?_ |refine Nr fun nb nsp ncap hnb hncap hnb1 hnb2=>?_
     |simp -dsimp -implicitDefEqProofs (disch:=first|exact Kd|fail) only[go_sem,↓reduceIte,seval, -List.reduceReplicate,hr3]
    obtain⟨bs,ebs⟩: ∃x,x=nb:=⟨_,rfl⟩
    subst ebs
    refine Tri.loopU tok [0,1,2,4,5,6,7,9,10,12,17,32,41,44,45,46,47,57] Kk [4,9,44,45,46] (fun q G' fr H'=> ∃ (i:Nat) (Cx:List Value),i+q=3∧PLe G3 G'∧IsD G' (zmB r2.1 i) (.agg Cx.toArray)∧H'=(bs, .cells [.func (.func 26) #[] #[], .func (.func 27) #[] #[], .func (.func 14) #[] #[]] [] 35):: (b9, .cells Cx [] 27):: (b4, .cells zF [] 27)::H∧fr=[(4, .pointer (some ⟨b4,0,none⟩)),(9, .pointer (some ⟨b9,0,none⟩)),(44, .slice (some ⟨bs,0,none⟩) 3 3),(45, .int .i64 3),(46, .int .i64 (i:Nat))]) (3) ?_ ?_
    ·exact Upd.now ⟨0,C3,by omega,PLe.refl _,O3.is,rfl,rfl⟩
    ·rintro q G4 fr H4 hle4 hs4 ⟨i,Cx,hiq,hle34,hIx,rfl,rfl⟩
     obtain⟨_,anx,alx,ayx,cnx,clx,csx,rsx,ex,Ox⟩:=hIx.opened
     obtain rfl:Cx=_:=by simpa using ex
     have hCxl:=Ox.len
     have htkx:List.take 260 Cx=Cx:=List.take_of_length_le Ko
     have hgx:=hg.mono (hle1.trans (hle2.trans (hle3.trans hle34)))
     have hE:=hs4
     try simp only[zzs] at hE
     repeat(obtain⟨hx',hE⟩:=hE)
     by_cases hi3:i<3
     ·rcases(show i=0∨i=1∨i=2 by omega) with rfl|rfl|rfl
      ·skip
       repeat' first
        |with_reducible first|refine Nx.go ?_ |refine Bk.go (fun _=>?_) fun _=>?_ |refine Nb fun nb hnb hnb1 hnb2=>?_ |refine Nr fun nb nsp ncap hnb hncap hnb1 hnb2=>?_
        |simp -dsimp -implicitDefEqProofs (disch:=first|exact Kd|fail) only[go_sem,↓reduceIte,seval, -List.reduceReplicate,List.toList_toArray,hCxl,htkx]
       refine zpu hx'2 Ox.is fun G5 v5 hle5 hs5 hI5=>?_
       rw[zd3 hkx] at hI5⊢
       have hI5:IsD G5 (zmB r2.1 1) v5:=hI5
       obtain⟨C5,an5,al5,ay5,cn5,cl5,cs5,rs5,rfl,O5⟩:=hI5.opened
       have hC5l:=O5.len
       have hone5:=zaW O5.is
       have htk5:List.take 260 C5=C5:=List.take_of_length_le Ko
       have hput5:=zdM hCxl hC5l
       have hE:=hs5
       try simp only[zzs] at hE
       repeat(obtain⟨hx',hE⟩:=hE)
       repeat' first
        |with_reducible first|refine Nx.go ?_ |refine Bk.go (fun _=>?_) fun _=>?_ |refine Nb fun nb hnb hnb1 hnb2=>?_ |refine Nr fun nb nsp ncap hnb hncap hnb1 hnb2=>?_
        |simp -dsimp -implicitDefEqProofs (disch:=first|exact Kd|fail) only[go_sem,↓reduceIte,seval, -List.reduceReplicate,List.toList_toArray,hCxl,hC5l,hone5,hput5,htk5]
       exact Upd.now ⟨2,by omega,1,C5,by omega,hle34.trans hle5,O5.is,rfl,rfl⟩
      ·skip
       repeat' first
        |with_reducible first|refine Nx.go ?_ |refine Bk.go (fun _=>?_) fun _=>?_ |refine Nb fun nb hnb hnb1 hnb2=>?_ |refine Nr fun nb nsp ncap hnb hncap hnb1 hnb2=>?_
        |simp -dsimp -implicitDefEqProofs (disch:=first|exact Kd|fail) only[go_sem,↓reduceIte,seval, -List.reduceReplicate,List.toList_toArray,hCxl,htkx]
       refine zpx k1s hgx Ox.is fun G5 v5 hle5 hs5 hI5=>?_
       rw[zeT k1r] at hI5⊢
       have hI5:IsD G5 (zmB r2.1 2) v5:=hI5
       obtain⟨C5,an5,al5,ay5,cn5,cl5,cs5,rs5,rfl,O5⟩:=hI5.opened
       have hC5l:=O5.len
       have hone5:=zaW O5.is
       have htk5:List.take 260 C5=C5:=List.take_of_length_le Ko
       have hput5:=zdM hCxl hC5l
       have hE:=hs5
       try simp only[zzs] at hE
       repeat(obtain⟨hx',hE⟩:=hE)
       repeat' first
        |with_reducible first|refine Nx.go ?_ |refine Bk.go (fun _=>?_) fun _=>?_ |refine Nb fun nb hnb hnb1 hnb2=>?_ |refine Nr fun nb nsp ncap hnb hncap hnb1 hnb2=>?_
        |simp -dsimp -implicitDefEqProofs (disch:=first|exact Kd|fail) only[go_sem,↓reduceIte,seval, -List.reduceReplicate,List.toList_toArray,hCxl,hC5l,hone5,hput5,htk5]
       exact Upd.now ⟨1,by omega,2,C5,by omega,hle34.trans hle5,O5.is,rfl,rfl⟩
      ·skip
       repeat' first
        |with_reducible first|refine Nx.go ?_ |refine Bk.go (fun _=>?_) fun _=>?_ |refine Nb fun nb hnb hnb1 hnb2=>?_ |refine Nr fun nb nsp ncap hnb hncap hnb1 hnb2=>?_
        |simp -dsimp -implicitDefEqProofs (disch:=first|exact Kd|fail) only[go_sem,↓reduceIte,seval, -List.reduceReplicate,List.toList_toArray,hCxl,htkx]
       refine ziu k2s Ox.is fun G5 v5 hle5 hs5 hI5=>?_
       rw[zc4 k2r] at hI5⊢
       have hI5:IsD G5 (zmB r2.1 3) v5:=hI5
       obtain⟨C5,an5,al5,ay5,cn5,cl5,cs5,rs5,rfl,O5⟩:=hI5.opened
       have hC5l:=O5.len
       have hone5:=zaW O5.is
       have htk5:List.take 260 C5=C5:=List.take_of_length_le Ko
       have hput5:=zdM hCxl hC5l
       have hE:=hs5
       try simp only[zzs] at hE
       repeat(obtain⟨hx',hE⟩:=hE)
       repeat' first
        |with_reducible first|refine Nx.go ?_ |refine Bk.go (fun _=>?_) fun _=>?_ |refine Nb fun nb hnb hnb1 hnb2=>?_ |refine Nr fun nb nsp ncap hnb hncap hnb1 hnb2=>?_
        |simp -dsimp -implicitDefEqProofs (disch:=first|exact Kd|fail) only[go_sem,↓reduceIte,seval, -List.reduceReplicate,List.toList_toArray,hCxl,hC5l,hone5,hput5,htk5]
       exact Upd.now ⟨0,by omega,3,C5,by omega,hle34.trans hle5,O5.is,rfl,rfl⟩
     ·obtain rfl:i=3:=by omega
      have honex:=zaW Ox.is
      have hputx:=zbj hCxl
      repeat' first
       |with_reducible first|refine Nx.go ?_ |refine Bk.go (fun _=>?_) fun _=>?_ |refine Nb fun nb hnb hnb1 hnb2=>?_ |refine Nr fun nb nsp ncap hnb hncap hnb1 hnb2=>?_
       |simp -dsimp -implicitDefEqProofs (disch:=first|exact Kd|fail) only[go_sem,↓reduceIte,seval, -List.reduceReplicate,List.toList_toArray,hCxl,htkx,honex,hputx,zn]
      unfold zz
      refine Upd.leave (H':=H) Ks ?_
      exact fun _ hs=>hR G4 _ (hle1.trans (hle2.trans (hle3.trans hle34))) hs Ox.is
   ·rw[zvc hw0 (by rw[←hr1];exact h1) (by rw[←hr1,←hr2];exact h2),←hr1,←hr2] at hR
    repeat' first
     |with_reducible first|refine Nx.go ?_ |refine Bk.go (fun _=>?_) fun _=>?_ |refine Nb fun nb hnb hnb1 hnb2=>?_ |refine Nr fun nb nsp ncap hnb hncap hnb1 hnb2=>?_
     |simp -dsimp -implicitDefEqProofs (disch:=first|exact Kd|fail) only[go_sem,↓reduceIte,seval, -List.reduceReplicate,List.toList_toArray,hCl,hCa,hC1l,hC2l,hC3l,hone3,hput3,htk3,zn,zag,zan,zaA]
    unfold zz
    refine Upd.leave (H':=H) Ks ?_
    exact fun _ hs=>hR G3 _ (hle1.trans (hle2.trans hle3)) hs (zaR _)
  ·rw[znI hw0 (by rw[←hr1];exact h1),←hr1] at hR
   repeat' first
    |with_reducible first|refine Nx.go ?_ |refine Bk.go (fun _=>?_) fun _=>?_ |refine Nb fun nb hnb hnb1 hnb2=>?_ |refine Nr fun nb nsp ncap hnb hncap hnb1 hnb2=>?_
    |simp -dsimp -implicitDefEqProofs (disch:=first|exact Kd|fail) only[go_sem,↓reduceIte,seval, -List.reduceReplicate,List.toList_toArray,hCl,hCa,hC1l,hC2l,hone2,hput2,htk2,zn,zag,zan,zaA]
   unfold zz
   refine Upd.leave (H':=H) Ks ?_
   exact fun _ hs=>hR G2 _ (hle1.trans hle2) hs (zaR _)
 ·rw[zrf hw0] at hR
  refine FnT.body tok [0,1,2,4,5,6,7,9,10,12,17,32,41,44,45,46,47,57] Tryz.func11 rfl Kk Kk (by show _≤62;simp) fun hsep=>?_
  rw[Tryz.results11]
  have hE:=hsep
  try simp only[zzs] at hE
  repeat(obtain⟨hx',hE⟩:=hE)
  repeat' first
   |with_reducible first|refine Nx.go ?_ |refine Bk.go (fun _=>?_) fun _=>?_ |refine Nb fun nb hnb hnb1 hnb2=>?_ |refine Nr fun nb nsp ncap hnb hncap hnb1 hnb2=>?_
   |simp -dsimp -implicitDefEqProofs (disch:=first|exact Kd|fail) only[go_sem,↓reduceIte,seval, -List.reduceReplicate,List.toList_toArray,hCl,hCa,zn,zag,zan,zaA]
   |with_reducible refine zgJ hsm hm O.is ?_
  unfold zz
  refine Upd.leave (H':=H) Ks ?_
  exact fun _ hs=>hR G _ (PLe.refl _) hs (zaR _)
end Go.Proofs.YtefkpedhbijhkaaGreatDoor
namespace Go.Proofs.YtefkpedhbijhkaaGreatDoor
open Go Go.V Go.Proofs
noncomputable def ziW (d:DfaT) (n:Int):Bool:=zaE (zd d)&&decide ((d.label.length:Int)≤n)
theorem zlX {d:DfaT} (hsm:zt d) {n:Int} {G:za} {H:zb} {R:Value→za→zb→Prop} {v:Value} (hv:IsD G d v)
  (hR: ∀G',PLe G G'→Sep G' (zk H)→R (.bool (ziW d n)) G' H):FnT Tryz.prog 13 [v, .int .i64 n] G H R:=by
 obtain⟨C,an,al,ay,cn,cl,cs,rs,rfl,O⟩:=hv.opened
 have hCl:=O.len
 have hCa:=O.all
 have hCx:=O.l
 unfold ziW at hR
 refine FnT.sep ?_
 by_cases hok:zd d
 ·have hb:=zG hok
  rw[hb,Bool.true_and] at hR
  refine FnT.body tok [0,1,2,4] Tryz.func13 rfl Kk Kk (by show _≤14;simp) fun hsep=>?_
  rw[Tryz.results13]
  have hE:=hsep
  try simp only[zzs] at hE
  repeat(obtain⟨hx',hE⟩:=hE)
  repeat' first
   |with_reducible first|refine Nx.go ?_ |refine Bk.go (fun _=>?_) fun _=>?_ |refine Nb fun nb hnb hnb1 hnb2=>?_
   |simp -dsimp -implicitDefEqProofs (disch:=first|exact Kd|fail) only[go_sem,↓reduceIte,seval, -List.reduceReplicate,List.toList_toArray,hCl,hCa]
  refine znm hsm O.is fun G2 hle2 hs2=>?_
  have hE:=hs2
  try simp only[zzs] at hE
  repeat(obtain⟨hx',hE⟩:=hE)
  repeat' first
   |with_reducible first|refine Nx.go ?_ |refine Bk.go (fun _=>?_) fun _=>?_ |refine Nb fun nb hnb hnb1 hnb2=>?_
   |simp -dsimp -implicitDefEqProofs (disch:=first|exact Kd|fail) only[go_sem,↓reduceIte,seval, -List.reduceReplicate,List.toList_toArray,hCl,hCa,hCx,hb]
  unfold zz
  refine Upd.leave (H':=H) Ks ?_
  exact fun _ hs=>hR G2 hle2 hs
 ·have hb:=zB hok
  rw[hb,Bool.false_and] at hR
  refine FnT.body tok [0,1,2,4] Tryz.func13 rfl Kk Kk (by show _≤14;simp) fun hsep=>?_
  rw[Tryz.results13]
  have hE:=hsep
  try simp only[zzs] at hE
  repeat(obtain⟨hx',hE⟩:=hE)
  repeat' first
   |with_reducible first|refine Nx.go ?_ |refine Bk.go (fun _=>?_) fun _=>?_ |refine Nb fun nb hnb hnb1 hnb2=>?_
   |simp -dsimp -implicitDefEqProofs (disch:=first|exact Kd|fail) only[go_sem,↓reduceIte,seval, -List.reduceReplicate,List.toList_toArray,hCl,hCa]
  refine znm hsm O.is fun G2 hle2 hs2=>?_
  have hE:=hs2
  try simp only[zzs] at hE
  repeat(obtain⟨hx',hE⟩:=hE)
  repeat' first
   |with_reducible first|refine Nx.go ?_ |refine Bk.go (fun _=>?_) fun _=>?_ |refine Nb fun nb hnb hnb1 hnb2=>?_
   |simp -dsimp -implicitDefEqProofs (disch:=first|exact Kd|fail) only[go_sem,↓reduceIte,seval, -List.reduceReplicate,List.toList_toArray,hCl,hCa,hCx,hb]
  unfold zz
  refine Upd.leave (H':=H) Ks ?_
  exact fun _ hs=>hR G2 hle2 hs
end Go.Proofs.YtefkpedhbijhkaaGreatDoor
namespace Go.Proofs.YtefkpedhbijhkaaGreatDoor
open Go Go.V Go.Proofs
theorem zjL (xs ys:List (List UInt8)) (hlen:xs.length≤2000000) {G:za} {H:zb} {R:Value→za→zb→Prop} {v w:Value} (hv:Sl G str v xs) (hw:Sl G str w ys) (hR:R (.bool (decide (xs=ys))) G H):FnT Tryz.prog 36 [v,w] G H R:=by
 obtain⟨a,cap,rfl,hrow,hcap⟩:=hv
 obtain⟨a',cap',rfl,hrow',hcap'⟩:=hw
 refine FnT.body tok [0,1,4,5,10,12,13,14,24] Tryz.func36 rfl Kk Kk (by show _≤26;simp) fun hsep=>?_
 rw[Tryz.results36]
 have hE:=hsep
 try simp only[zzs] at hE
 repeat(obtain⟨hx',hE⟩:=hE)
 repeat' first
  |with_reducible first|refine Nx.go ?_ |refine Bk.go (fun _=>?_) fun _=>?_ |refine Nb fun nb hnb hnb1 hnb2=>?_
  |simp -dsimp -implicitDefEqProofs (disch:=first|exact Kd|fail) only[go_sem,↓reduceIte,seval]
 ·rename_i hne
  have hxy:xs.length=ys.length:=by omega
  refine Tri.loopU tok [0,1,4,5,10,12,13,14,24] Kk [0,1,4,12,13] (fun n G' l H'=> ∃i:Nat,i+n=xs.length∧(∀j (h:j<xs.length),j<i→xs[j]=ys[j])∧G'=G∧H'=H∧l=[(0, .slice a xs.length cap),(1, .slice a' ys.length cap'),(4, .bool false),(12, .int .i64 xs.length),(13, .int .i64 i)]) (xs.length) (Upd.now ?_) ?_
  ·exact⟨0,by omega,fun j _ h=>by omega,rfl,rfl,rfl⟩
  ·rintro n G' l H' hle hs ⟨i,hi,hno,rfl,rfl,rfl⟩
   by_cases hil:i<xs.length
   ·have hil':i<ys.length:=by omega
    repeat' first
     |with_reducible first|refine Nx.go ?_ |refine Bk.go (fun _=>?_) fun _=>?_ |refine Nb fun nb hnb hnb1 hnb2=>?_
     |with_reducible refine Tri.drawH tok mixed [0,1,4,5,10,12,13,14,24] 6 [3,7] (.op 0 .plain (.op 1 .plain (.op 2 .plain (.op 3 .held (.op 4 .plain (.op 5 .plain (.op 6 .plain (.op 7 .held (.op 8 .plain .nil))))))))) Kk [0,1] ?_
     |simp -dsimp -implicitDefEqProofs (disch:=first|exact Kd|fail) only[go_sem,↓reduceIte,seval,Row.obj hrow,Row.obj hrow',List.getElem_map]
    ·rename_i he
     exact Upd.now ⟨n - 1,by omega,i+1,by omega,fun j h hj=>by
      by_cases e:j=i
      ·subst e;exact he
      ·exact hno j h Ko,rfl,rfl,rfl⟩
    ·rename_i he
     rw[decide_eq_false (fun e=>he (by subst e;rfl))] at hR
     all_goals refine Upd.finL ?_ hR ?_
     any_goals first|exact Ks|skip
     rfl
   ·obtain rfl:i=xs.length:=by omega
    rw[decide_eq_true (List.ext_getElem hxy fun j h1 h2=>hno j h1 h1)] at hR
    repeat' first
     |with_reducible first|refine Nx.go ?_ |refine Bk.go (fun _=>?_) fun _=>?_ |refine Nb fun nb hnb hnb1 hnb2=>?_
     |simp -dsimp -implicitDefEqProofs (disch:=first|exact Kd|fail) only[go_sem,↓reduceIte,seval]
    all_goals refine Upd.finL ?_ hR ?_
    any_goals first|exact Ks|skip
    rfl
 ·rename_i hne
  rw[decide_eq_false (fun e=>hne (by subst e;rfl))] at hR
  all_goals refine Upd.finL ?_ hR ?_
  any_goals first|exact Ks|skip
  rfl
theorem znJ {xs ys:List (List Int)} (hlen:xs.length≤2000000) (hxl: ∀x∈xs,x.length≤2000000) {ax ay:Option Addr} {cx cy:Nat} {rs rs':List Value} {G:za} {H:zb} {R:Value→za→zb→Prop}
  (hrx:Row G ax rs) (hrl:rs.length=xs.length) (hrs: ∀i (h:i<xs.length) (h2:i<rs.length),∃b c,rs[i]= .slice b xs[i].length c∧Row G b (xs[i].map (Value.int .i64))∧xs[i].length≤c)
  (hry:Row G ay rs') (hrl':rs'.length=ys.length) (hrs': ∀i (h:i<ys.length) (h2:i<rs'.length),∃b c,rs'[i]= .slice b ys[i].length c∧Row G b (ys[i].map (Value.int .i64))∧ys[i].length≤c)
  (hR:R (.bool (decide (xs=ys))) G H):FnT Tryz.prog 37 [.slice ax xs.length cx, .slice ay ys.length cy, .func (.func 35) #[] #[]] G H R:=by
 by_cases hxy:xs.length=ys.length
 ·refine FnT.body tok [0,1,2,6,7,8,9,14,15,16,17,18,30] Tryz.func37 rfl Kk Kk (by show _≤32;simp) fun hsep=>?_
  rw[Tryz.results37]
  have hE:=hsep
  try simp only[zzs] at hE
  repeat(obtain⟨hx',hE⟩:=hE)
  repeat' first
   |with_reducible first|refine Nx.go ?_ |refine Bk.go (fun _=>?_) fun _=>?_ |refine Nb fun nb hnb hnb1 hnb2=>?_
   |simp -dsimp -implicitDefEqProofs (disch:=first|exact Kd|fail) only[go_sem,↓reduceIte,seval]
  all_goals try(exfalso;omega)
  refine Tri.loopU tok [0,1,2,6,7,8,9,14,15,16,17,18,30] Kk [0,1,2,6,15,16,17] (fun n G' l H'=> ∃i:Nat,i+n=xs.length∧(∀j (h:j<xs.length),j<i→xs[j]=(ys[j]'(hxy▸h)))∧G'=G∧H'=H∧l=[(0, .slice ax xs.length cx),(1, .slice ay ys.length cy),(2, .func (.func 35) #[] #[]),(6, .bool false),(15, .slice ax xs.length cx),(16, .int .i64 xs.length),(17, .int .i64 i)]) (xs.length) (Upd.now ?_) ?_
  ·exact⟨0,by omega,fun j _ h=>by omega,rfl,rfl,rfl⟩
  ·rintro n G' l H' hle hs ⟨i,hi,hno,rfl,rfl,rfl⟩
   by_cases hil:i<xs.length
   ·have hil':i<ys.length:=by omega
    obtain⟨b,c,e1,e2,e3⟩:=hrs i hil Ko
    obtain⟨b',c',f1,f2,f3⟩:=hrs' i hil' Ko
    have had:Adr ax:=hrx.adr Ko
    have had2:Adr ay:=hry.adr Ko
    have hs1:Sl G' (Value.int .i64) (.slice b xs[i].length c) xs[i]:=⟨b,c,rfl,e2,e3⟩
    have hs2:Sl G' (Value.int .i64) (.slice b' ys[i].length c') ys[i]:=⟨b',c',rfl,f2,f3⟩
    repeat' first
     |with_reducible first|refine Nx.go ?_ |refine Bk.go (fun _=>?_) fun _=>?_ |refine Nb fun nb hnb hnb1 hnb2=>?_
     |simp -dsimp -implicitDefEqProofs (disch:=first|exact Kd|fail) only[go_sem,↓reduceIte,seval,Row.obj hrx,Row.obj hry,e1,f1]
     |with_reducible refine zgH xs[i] ys[i] (hxl _ (List.getElem_mem hil)) hs1 hs2 ?_
    ·rename_i he
     exact Upd.now ⟨n - 1,by omega,i+1,by omega,fun j h hj=>by
      by_cases e:j=i
      ·subst e;exact he
      ·exact hno j h Ko,rfl,rfl,rfl⟩
    ·rename_i he
     rw[decide_eq_false (fun e=>he (by subst e;rfl))] at hR
     all_goals refine Upd.finL ?_ hR ?_
     any_goals first|exact Ks|skip
     rfl
   ·obtain rfl:i=xs.length:=by omega
    rw[decide_eq_true (List.ext_getElem hxy fun j h1 h2=>hno j h1 h1)] at hR
    repeat' first
     |with_reducible first|refine Nx.go ?_ |refine Bk.go (fun _=>?_) fun _=>?_ |refine Nb fun nb hnb hnb1 hnb2=>?_
     |simp -dsimp -implicitDefEqProofs (disch:=first|exact Kd|fail) only[go_sem,↓reduceIte,seval]
    all_goals refine Upd.finL ?_ hR ?_
    any_goals first|exact Ks|skip
    rfl
 ·rw[decide_eq_false fun h=>hxy (congrArg List.length h)] at hR
  refine FnT.body tok [0,1,2,6,7,8,9,14,15,16,17,18,30] Tryz.func37 rfl Kk Kk (by show _≤32;simp) fun hsep=>?_
  rw[Tryz.results37]
  have hE:=hsep
  try simp only[zzs] at hE
  repeat(obtain⟨hx',hE⟩:=hE)
  repeat' first
   |with_reducible first|refine Nx.go ?_ |refine Bk.go (fun _=>?_) fun _=>?_ |refine Nb fun nb hnb hnb1 hnb2=>?_
   |simp -dsimp -implicitDefEqProofs (disch:=first|exact Kd|fail) only[go_sem,↓reduceIte,seval]
  all_goals try(exfalso;omega)
  all_goals refine Upd.finL ?_ hR ?_
  any_goals first|exact Ks|skip
  rfl
theorem zpy {d e:DfaT} (hsm:zt d) {G:za} {H:zb} {R:Value→za→zb→Prop} {v w:Value} (hv:IsD G d v) (hw:IsD G e w) (hR:R (.bool (zaE (d=e))) G H):FnT Tryz.prog 16 [v,w] G H R:=by
 obtain⟨C,an,al,ay,cn,cl,cs,rs,rfl,O⟩:=hv.opened
 obtain⟨C',an',al',ay',cn',cl',cs',rs',rfl,O'⟩:=hw.opened
 obtain⟨hm1,hm2,hm3,hm4,hm5⟩:=id hsm
 have hCl:=O.len
 have hCw:=O.w
 have hCn:=O.n
 have hCx:=O.l
 have hCs:=O.s
 have hCo:=O.of
 have hDl:=O'.len
 have hDw:=O'.w
 have hDn:=O'.n
 have hDx:=O'.l
 have hDs:=O'.s
 have hDo:=O'.of
 have heq:eqT T 9 22 (zcm d.of) (zcm e.of)=some (decide (d.of=e.of)):=zjt (d:=7) (t:=22) (e:=5) (n:=256) (k:= .u8) rfl rfl rfl O.ofl O'.ofl
 by_cases h1:d.of=e.of
 ·by_cases h2:d.width=e.width
  ·by_cases h3:d.label=e.label
   ·by_cases h4:d.names=e.names
    ·by_cases h5:d.next=e.next
     ·rw[zG (DfaT.ext2 h1 h2 h5 h3 h4)] at hR
      refine FnT.body tok [0,1,2,3,4] Tryz.func16 rfl Kk Kk (by show _≤38;simp) fun hsep=>?_
      rw[Tryz.results16]
      have hE:=hsep
      try simp only[zzs] at hE
      repeat(obtain⟨hx',hE⟩:=hE)
      repeat' first
       |with_reducible first|refine Nx.go ?_ |refine Bk.go (fun _=>?_) fun _=>?_ |refine Nb fun nb hnb hnb1 hnb2=>?_
       |simp -dsimp -implicitDefEqProofs (disch:=first|exact Kd|fail) only[go_sem,↓reduceIte,seval, -List.reduceReplicate,List.toList_toArray,hCl,hCw,hCn,hCx,hCs,hCo,hDl,hDw,hDn,hDx,hDs,hDo,heq,decide_eq_true h1,decide_eq_true h2,decide_eq_true h3,decide_eq_true h4,decide_eq_true h5]
       |with_reducible refine zgH _ _ hm3 O.label O'.label ?_
       |with_reducible refine zjL _ _ hm4 O.names O'.names ?_
       |with_reducible refine znJ hm1 hm2 O.rn O.rnl O.rs O'.rn O'.rnl O'.rs ?_
      all_goals refine Upd.finL ?_ hR ?_
      any_goals first|exact Ks|skip
      all_goals rfl
     ·rw[zB fun h=>h5 (congrArg DfaT.next h)] at hR
      refine FnT.body tok [0,1,2,3,4] Tryz.func16 rfl Kk Kk (by show _≤38;simp) fun hsep=>?_
      rw[Tryz.results16]
      have hE:=hsep
      try simp only[zzs] at hE
      repeat(obtain⟨hx',hE⟩:=hE)
      repeat' first
       |with_reducible first|refine Nx.go ?_ |refine Bk.go (fun _=>?_) fun _=>?_ |refine Nb fun nb hnb hnb1 hnb2=>?_
       |simp -dsimp -implicitDefEqProofs (disch:=first|exact Kd|fail) only[go_sem,↓reduceIte,seval, -List.reduceReplicate,List.toList_toArray,hCl,hCw,hCn,hCx,hCs,hCo,hDl,hDw,hDn,hDx,hDs,hDo,heq,decide_eq_true h1,decide_eq_true h2,decide_eq_true h3,decide_eq_true h4,decide_eq_false h5]
       |with_reducible refine zgH _ _ hm3 O.label O'.label ?_
       |with_reducible refine zjL _ _ hm4 O.names O'.names ?_
       |with_reducible refine znJ hm1 hm2 O.rn O.rnl O.rs O'.rn O'.rnl O'.rs ?_
      all_goals refine Upd.finL ?_ hR ?_
      any_goals first|exact Ks|skip
      all_goals rfl
    ·rw[zB fun h=>h4 (congrArg DfaT.names h)] at hR
     refine FnT.body tok [0,1,2,3,4] Tryz.func16 rfl Kk Kk (by show _≤38;simp) fun hsep=>?_
     rw[Tryz.results16]
     have hE:=hsep
     try simp only[zzs] at hE
     repeat(obtain⟨hx',hE⟩:=hE)
     repeat' first
      |with_reducible first|refine Nx.go ?_ |refine Bk.go (fun _=>?_) fun _=>?_ |refine Nb fun nb hnb hnb1 hnb2=>?_
      |simp -dsimp -implicitDefEqProofs (disch:=first|exact Kd|fail) only[go_sem,↓reduceIte,seval, -List.reduceReplicate,List.toList_toArray,hCl,hCw,hCn,hCx,hCs,hCo,hDl,hDw,hDn,hDx,hDs,hDo,heq,decide_eq_true h1,decide_eq_true h2,decide_eq_true h3,decide_eq_false h4]
      |with_reducible refine zgH _ _ hm3 O.label O'.label ?_
      |with_reducible refine zjL _ _ hm4 O.names O'.names ?_
     all_goals refine Upd.finL ?_ hR ?_
     any_goals first|exact Ks|skip
     all_goals rfl
   ·rw[zB fun h=>h3 (congrArg DfaT.label h)] at hR
    refine FnT.body tok [0,1,2,3,4] Tryz.func16 rfl Kk Kk (by show _≤38;simp) fun hsep=>?_
    rw[Tryz.results16]
    have hE:=hsep
    try simp only[zzs] at hE
    repeat(obtain⟨hx',hE⟩:=hE)
    repeat' first
     |with_reducible first|refine Nx.go ?_ |refine Bk.go (fun _=>?_) fun _=>?_ |refine Nb fun nb hnb hnb1 hnb2=>?_
     |simp -dsimp -implicitDefEqProofs (disch:=first|exact Kd|fail) only[go_sem,↓reduceIte,seval, -List.reduceReplicate,List.toList_toArray,hCl,hCw,hCn,hCx,hCs,hCo,hDl,hDw,hDn,hDx,hDs,hDo,heq,decide_eq_true h1,decide_eq_true h2,decide_eq_false h3]
     |with_reducible refine zgH _ _ hm3 O.label O'.label ?_
    all_goals refine Upd.finL ?_ hR ?_
    any_goals first|exact Ks|skip
    all_goals rfl
  ·rw[zB fun h=>h2 (congrArg DfaT.width h)] at hR
   refine FnT.body tok [0,1,2,3,4] Tryz.func16 rfl Kk Kk (by show _≤38;simp) fun hsep=>?_
   rw[Tryz.results16]
   have hE:=hsep
   try simp only[zzs] at hE
   repeat(obtain⟨hx',hE⟩:=hE)
   repeat' first
    |with_reducible first|refine Nx.go ?_ |refine Bk.go (fun _=>?_) fun _=>?_ |refine Nb fun nb hnb hnb1 hnb2=>?_
    |simp -dsimp -implicitDefEqProofs (disch:=first|exact Kd|fail) only[go_sem,↓reduceIte,seval, -List.reduceReplicate,List.toList_toArray,hCl,hCw,hCn,hCx,hCs,hCo,hDl,hDw,hDn,hDx,hDs,hDo,heq,decide_eq_true h1,decide_eq_false h2]
   all_goals refine Upd.finL ?_ hR ?_
   any_goals first|exact Ks|skip
   all_goals rfl
 ·rw[zB fun h=>h1 (congrArg DfaT.of h)] at hR
  refine FnT.body tok [0,1,2,3,4] Tryz.func16 rfl Kk Kk (by show _≤38;simp) fun hsep=>?_
  rw[Tryz.results16]
  have hE:=hsep
  try simp only[zzs] at hE
  repeat(obtain⟨hx',hE⟩:=hE)
  repeat' first
   |with_reducible first|refine Nx.go ?_ |refine Bk.go (fun _=>?_) fun _=>?_ |refine Nb fun nb hnb hnb1 hnb2=>?_
   |simp -dsimp -implicitDefEqProofs (disch:=first|exact Kd|fail) only[go_sem,↓reduceIte,seval, -List.reduceReplicate,List.toList_toArray,hCl,hCw,hCn,hCx,hCs,hCo,hDl,hDw,hDn,hDx,hDs,hDo,heq,decide_eq_false h1]
  all_goals refine Upd.finL ?_ hR ?_
  any_goals first|exact Ks|skip
  all_goals rfl
end Go.Proofs.YtefkpedhbijhkaaGreatDoor
namespace Go.Proofs.YtefkpedhbijhkaaGreatDoor
open Go Go.V Go.Proofs
def of7:List Int:=(List.replicate 256 (0 :Int)).set 97 1
def d7:DfaT:=⟨of7,2,[[0,1],[0,1]],[0,1],[[120]]⟩
def r7:DfaT:=⟨of7,2,[[1,2],[1,1],[2,2]],[0,0,1],[[120]]⟩
theorem zwH:of7.length=256:=by unfold of7;rw[List.length_set,List.length_replicate]
theorem zpz:zaZ [[120]]:=by
 refine⟨by decide,fun i h=>?_⟩
 have h1:i<1:=h
 match i,h1 with
 |0,_=>exact⟨zf8.2 ⟨by show 1≤1;omega,by show 1≤32;omega,fun i hi=>by
   match i,(show i<1 from hi) with
   |0,_=>exact(by show zfG (120 :UInt8).toNat true=true;decide)⟩,(by decide: ¬([120]:List UInt8)∈([]:List (List UInt8)))⟩
theorem zhv:zd d7:=by
 refine⟨by decide,by decide,rfl,by decide+kernel,by decide+kernel,zpz,fun s h1 h2=>?_⟩
 have e: ∀s:Fin 2,((d7.next[s.val]'s.isLt).length:Int)=d7.width∧0≤d7.label[s.val]'s.isLt∧d7.label[s.val]'s.isLt≤d7.names.length∧ ∀t∈d7.next[s.val]'s.isLt,0≤t∧t<d7.label.length:=by decide+kernel
 exact e ⟨s,h1⟩
theorem znK:zd r7:=by
 refine⟨by decide,by decide,rfl,by decide+kernel,by decide+kernel,zpz,fun s h1 h2=>?_⟩
 have e: ∀s:Fin 3,((r7.next[s.val]'s.isLt).length:Int)=r7.width∧0≤r7.label[s.val]'s.isLt∧r7.label[s.val]'s.isLt≤r7.names.length∧ ∀t∈r7.next[s.val]'s.isLt,0≤t∧t<r7.label.length:=by decide+kernel
 exact e ⟨s,h1⟩
theorem zjM:zt d7:=⟨by decide,by decide,by decide,by decide,by decide⟩
theorem znL:zt r7:=⟨by decide,by decide,by decide,by decide,by decide⟩
theorem zpA:zV d7 9=(r7,true):=by
 have hl:zm d7 9=[[0,1],[0,0],[1,1]]:=by decide+kernel
 unfold zV
 rw[hl,if_pos (by decide)]
 have h1:(zU d7 [[0,1],[0,0],[1,1]]).next=r7.next:=by decide+kernel
 have h2:(zU d7 [[0,1],[0,0],[1,1]]).label=r7.label:=by decide+kernel
 rw[DfaT.ext2 (d:=zU d7 [[0,1],[0,0],[1,1]]) (e:=r7) rfl rfl h1 h2 rfl]
theorem zpB:zV r7 65536=(d7,true):=by
 have hl:zm r7 2=[[0,0,1],[1,0,1]]:=by decide+kernel
 have hs:zm r7 65536=zm r7 2:=zfH (by show(zm r7 2).length≤2;rw[hl];decide) 65536 Ko
 unfold zV
 rw[hs,hl,if_pos (by decide)]
 have h1:(zU r7 [[0,0,1],[1,0,1]]).next=d7.next:=by decide+kernel
 have h2:(zU r7 [[0,0,1],[1,0,1]]).label=d7.label:=by decide+kernel
 rw[DfaT.ext2 (d:=zU r7 [[0,0,1],[1,0,1]]) (e:=d7) rfl rfl h1 h2 rfl]
theorem zs6:zao d7 9=(r7,0):=by
 rw[zej zhv (by decide) (by show(zV d7 9).2=true;rw[zpA])]
 show((zV d7 9).1,(0 :Int))=_
 rw[zpA]
theorem zxs:zao r7 65536=(d7,0):=by
 rw[zej znK (by decide) (by show(zV r7 65536).2=true;rw[zpB])]
 show((zV r7 65536).1,(0 :Int))=_
 rw[zpB]
theorem zpC:zr d7=d7:=by
 have h1:(zr d7).next=d7.next:=by decide+kernel
 have h2:(zr d7).label=d7.label:=by decide+kernel
 exact DfaT.ext2 (d:=zr d7) (e:=d7) rfl rfl h1 h2 rfl
theorem zvd:zT d7=d7:=by
 have h1:(zT d7).of=d7.of:=by decide+kernel
 have h2:(zT d7).width=d7.width:=by decide+kernel
 have h3:(zT d7).next=d7.next:=by decide+kernel
 exact DfaT.ext2 (d:=zT d7) (e:=d7) h1 h2 h3 rfl rfl
theorem zwI:zau d7=d7.names:=by
 refine zih (zin zhv) (List.pairwise_singleton _ _) fun x=>?_
 have h0:zbz d7 d7.names.length=[[120]]:=by decide+kernel
 unfold zau
 rw[h0,zii]
 rfl
theorem zwJ:zge d7=d7:=by
 unfold zge zdf
 rw[zwI,zq2 zhv,zvd,zpC]
theorem zxt:zeo d7 9=(d7,0):=by
 have h1:zao (zr d7) 9=(r7,0):=by rw[zpC,zs6]
 have h2:(zao (zao (zr d7) 9).1 65536)=(d7,0):=by rw[h1,zxs]
 rw[zlm (zeS zhv (by decide)) (by rw[h1]) (by rw[h2]),h2,zwJ]
theorem zpD {w:List UInt8} {k:Int} (h:zac r7 w=k):zaU r7 (zci r7 w)=zaU r7 k:=by
 unfold zci
 rw[if_pos (zG znK),h]
theorem zyc:zaU r7 (zci r7 [97,98])=[120]:=by rw[zpD (k:=1) (by decide+kernel)];decide
theorem zyd:zaU r7 (zci r7 [98,97])=[]:=by rw[zpD (k:=0) (by decide+kernel)];decide
theorem zye:zi (List.replicate 256 (Value.int .u8 0)) 97 [Value.int .u8 1]=u8L d7.of:=by
 rw[zpR (by rw[List.length_replicate];omega)]
 unfold u8L
 show _=(of7).map (Value.int .u8)
 unfold of7
 rw[List.map_set,List.map_replicate]
theorem zs7:V.Callee Tryz.prog 8:=⟨_,_,Tryz.func8,rfl,by kernel_rfl⟩
theorem ziw:V.Callee Tryz.prog 19:=⟨_,_,Tryz.func19,rfl,by kernel_rfl⟩
theorem zln {G:za} {H:zb} {R:Value→za→zb→Prop} (hg:zb3 G) (hR: ∀G',PLe G G'→Sep G' (zk H)→R (.bool true) G' H):FnT Tryz.prog 7 [] G H R:=by
 have hd:d7.of.length=256:=zwH
 have hofl:(u8L d7.of).length=256:=by rw[List.length_map,hd]
 have hoft:List.take 256 (u8L d7.of)=u8L d7.of:=List.take_of_length_le Ko
 have hofo:(u8L d7.of).all zax=true:=by rw[List.all_map];exact List.all_eq_true.2 fun _ _=>rfl
 have hzr:(List.replicate 256 (Value.int .u8 0)).length=256:=List.length_replicate
 have hzo:(List.replicate 256 (Value.int .u8 0)).all zax=true:=List.all_eq_true.2 fun v hv=>by rw[List.eq_of_mem_replicate hv];rfl
 have hzz:zi (List.replicate 256 (Value.int .u8 0)) 0 (List.replicate 256 (Value.int .u8 0))=List.replicate 256 (Value.int .u8 0):=by
  unfold zi
  rw[List.take_zero,List.nil_append,List.drop_of_length_le (by rw[List.length_replicate];omega),List.append_nil]
 have hb1:=zeg (d:=d7) hd
 have hb2:zi (u8L d7.of++[Value.int .i64 0,Value.slice none 0 0,Value.slice none 0 0,Value.slice none 0 0]) 256 [Value.int .i64 2]=zc d7 (.slice none 0 0) (.slice none 0 0) (.slice none 0 0):=zeh (d:=d7) hd
 have hl1:(u8L d7.of++[Value.int .i64 0,Value.slice none 0 0,Value.slice none 0 0,Value.slice none 0 0]).length=260:=by rw[List.length_append,hofl];rfl
 have hr1: ∀x:Value,List.replicate 1 x=[x]:=fun _=>rfl
 have hr2: ∀x:Value,List.replicate 2 x=[x,x]:=fun _=>rfl
 have hl2: ∀a b c:Value,(zc d7 a b c).length=260:=fun a b c=>zab hd _ _ _
 have ht2: ∀a b c:Value,List.take 260 (zc d7 a b c)=zc d7 a b c:=fun a b c=>zcz hd _ _ _
 have hputN: ∀a b c x:Value,zi (zc d7 a b c) 257 [x]=zc d7 x b c:=fun a b c x=>zca hd _ _ _ _
 have hputL: ∀a b c x:Value,zi (zc d7 a b c) 258 [x]=zc d7 a x c:=fun a b c x=>zbn hd _ _ _ _
 have hputS: ∀a b c x:Value,zi (zc d7 a b c) 259 [x]=zc d7 a b x:=fun a b c x=>zei hd _ _ _ _
 have hputz: ∀a b c:Value,zi zF 0 (zc d7 a b c)=zc d7 a b c:=fun a b c=>zdM zn (hl2 _ _ _)
 have hone: ∀ (a:Option Addr) (n c:Nat) (a':Option Addr) (n' c':Nat) (a2:Option Addr) (n2 c2:Nat),(zc d7 (.slice a n c) (.slice a' n' c') (.slice a2 n2 c2)).all zax=true:=fun _ _ _ _ _ _ _ _ _=>za3 rfl rfl rfl
 have hw7:d7.width=2:=rfl
 refine FnT.sep ?_
 refine FnT.body tok [0,1,2,3,4,5,6] Tryz.func7 rfl Kk Kk (by show _≤57;simp) fun hsep=>?_
 rw[Tryz.results7]
 have hE:=hsep
 try simp only[zzs] at hE
 repeat(obtain⟨hx',hE⟩:=hE)
 repeat' first
  |with_reducible first|refine Nx.go ?_ |refine Bk.go (fun _=>?_) fun _=>?_ |refine Nb fun nb hnb hnb1 hnb2=>?_ |refine Nr fun nb nsp ncap hnb hncap hnb1 hnb2=>?_
  |simp -dsimp -implicitDefEqProofs (disch:=first|exact Kd|fail) only[go_sem,↓reduceIte,seval, -List.reduceReplicate,List.toList_toArray,hr1,hr2,zn,hzr,hzo,hzz,zye,hofl,hoft,hofo,hb1,hb2,hl1,hl2,ht2,hputN,hputL,hputS,hputz,hone]
 rename_i b1 y1 y2 y3 c1 y4 y5 y6 c2 y7 y8 y9 c3 w1 w2 w3 c4 w4 w5 w6 c5 w7 w8 w9
 obtain⟨b2,e20⟩: ∃x,x=nb:=⟨_,rfl⟩
 subst e20
 obtain⟨D,hD⟩: ∃D,D=zc d7 (.slice (some ⟨c3,0,none⟩) 2 2) (.slice (some ⟨c4,0,none⟩) 2 2) (.slice (some ⟨c5,0,none⟩) 1 1):=⟨_,rfl⟩
 rw[←hD]
 refine FnT.pre zs7 (Upd.go (H':=(c5, .cells [.string ⟨#[120]⟩] [] 9):: (c4, .cells [.int .i64 0, .int .i64 1] [] 3):: (c3, .cells [.slice (some ⟨c1,0,none⟩) 2 2, .slice (some ⟨c2,0,none⟩) 2 2] [] 24):: (c2, .cells [.int .i64 0, .int .i64 1] [] 3):: (c1, .cells [.int .i64 0, .int .i64 1] [] 3):: (b2, .cells D [] 27)::H) Ks ?_)
 refine Upd.trans (Upd.shareRow Ka fun G1 hle1 hs1 r5=>?_)
 refine Upd.trans (Upd.shareRow hs1.1.1 fun G2 hle2 hs2 r4=>?_)
 refine Upd.trans (Upd.shareRow hs2.1.1 fun G3 hle3 hs3 r3=>?_)
 refine Upd.trans (Upd.shareRow hs3.1.1 fun G4 hle4 hs4 r2=>?_)
 refine Upd.shareRow hs4.1.1 fun G5 hle5 hs5 r1=>?_
 have k4:=hle5
 have k3:=hle4.trans k4
 have k2:=hle3.trans k3
 have k1:=hle2.trans k2
 have k0:=hle1.trans k1
 have hI:IsD G5 d7 (.agg D.toArray):=by
  rw[hD]
  refine⟨hd,fun x hx=>?_,_,_,_,rfl,⟨some ⟨c3,0,none⟩,2,_,rfl,r3.mono k3,rfl,Nat.le_refl 2,fun i h h2=>?_⟩,⟨some ⟨c4,0,none⟩,2,rfl,r4.mono k2,Nat.le_refl 2⟩,⟨some ⟨c5,0,none⟩,1,rfl,r5.mono k1,Nat.le_refl 1⟩⟩
  ·have hx:x∈of7:=hx
   unfold of7 at hx
   rcases List.mem_or_eq_of_mem_set hx with h|h
   ·have:x=0:=List.eq_of_mem_replicate h
    omega
   ·omega
  ·have h3:i<2:=h
   match i,h3 with
   |0,_=>exact⟨_,_,rfl,r1,Nat.le_refl 2⟩
   |1,_=>exact⟨_,_,rfl,r2.mono k4,Nat.le_refl 2⟩
 have hDl:D.length=260:=by rw[hD];exact hl2 _ _ _
 have hDt:List.take 260 D=D:=List.take_of_length_le Ko
 clear hD
 refine zkB zjM (by decide) hI fun G6 v6 hle6 hs6 hI6=>?_
 rw[zs6] at hI6⊢
 have hI6:IsD G6 r7 v6:=hI6
 obtain⟨C6,an6,al6,ay6,cn6,cl6,cs6,rs6,rfl,O6⟩:=hI6.opened
 have hC6l:=O6.len
 have hone6:=zaW O6.is
 have hput6:=zbj hC6l
 have htk6:List.take 260 C6=C6:=List.take_of_length_le Ko
 have hE:=hs6
 try simp only[zzs] at hE
 repeat(obtain⟨hx',hE⟩:=hE)
 repeat' first
  |with_reducible first|refine Nx.go ?_ |refine Bk.go (fun _=>?_) fun _=>?_ |refine Nb fun nb hnb hnb1 hnb2=>?_ |refine Nr fun nb nsp ncap hnb hncap hnb1 hnb2=>?_
  |simp -dsimp -implicitDefEqProofs (disch:=first|exact Kd|fail) only[go_sem,↓reduceIte,seval, -List.reduceReplicate,List.toList_toArray,hr1,hDl,hDt,hC6l,hone6,hput6,htk6,zn]
 obtain⟨b3,e30⟩: ∃x,x=nb:=⟨_,rfl⟩
 subst e30
 refine zrg zjM (by decide) (hg.mono (k0.trans hle6)) (hI.mono hle6) fun G7 v7 hle7 hs7 hI7=>?_
 rw[zxt] at hI7⊢
 have hI7:IsD G7 d7 v7:=hI7
 obtain⟨C7,an7,al7,ay7,cn7,cl7,cs7,rs7,rfl,O7⟩:=hI7.opened
 have hC7l:=O7.len
 have hone7:=zaW O7.is
 have hput7:=zbj hC7l
 have htk7:List.take 260 C7=C7:=List.take_of_length_le Ko
 have O67:=O6.mono hle7
 have hC6x:=O6.l
 have hz1:r7.label.length=3:=rfl
 have hE:=hs7
 try simp only[zzs] at hE
 repeat(obtain⟨hx',hE⟩:=hE)
 repeat' first
  |with_reducible first|refine Nx.go ?_ |refine Bk.go (fun _=>?_) fun _=>?_ |refine Nb fun nb hnb hnb1 hnb2=>?_ |refine Nr fun nb nsp ncap hnb hncap hnb1 hnb2=>?_
  |simp -dsimp -implicitDefEqProofs (disch:=first|exact Kd|fail) only[go_sem,↓reduceIte,seval, -List.reduceReplicate,List.toList_toArray,hr1,hr2,hDl,hDt,hC6l,hC6x,htk6,hC7l,hone7,hput7,htk7,zn,hz1]
 obtain⟨b5,e50⟩: ∃x,x=nb:=⟨_,rfl⟩
 subst e50
 refine FnT.pre ziw (Upd.shareRow Ka fun G8 hle8 hs8 r8=>?_)
 refine zpm znL (w:=[97,98]) (by decide) (O67.is.mono hle8) ⟨_,2,rfl,r8,by decide⟩ ?_
 rw[zyc]
 have hE:=hs8
 try simp only[zzs] at hE
 repeat(obtain⟨hx',hE⟩:=hE)
 have hq1:(([120]:List UInt8)==[120])=true:=by decide
 have hq2:(([]:List UInt8)==[])=true:=by decide
 repeat' first
  |with_reducible first|refine Nx.go ?_ |refine Bk.go (fun _=>?_) fun _=>?_ |refine Nb fun nb hnb hnb1 hnb2=>?_ |refine Nr fun nb nsp ncap hnb hncap hnb1 hnb2=>?_
  |simp -dsimp -implicitDefEqProofs (disch:=first|exact Kd|fail) only[go_sem,↓reduceIte,seval, -List.reduceReplicate,List.toList_toArray,hr1,hr2,hDl,hDt,hC6l,hC6x,htk6,hC7l,hone7,hput7,htk7,zn,hz1,hq1,hq2]
 refine FnT.pre ziw (Upd.shareRow Ka fun G9 hle9 hs9 r9=>?_)
 have k89:=hle8.trans hle9
 refine zpm znL (w:=[98,97]) (by decide) (O67.is.mono k89) ⟨_,2,rfl,r9,by decide⟩ ?_
 rw[zyd]
 have hE:=hs9
 try simp only[zzs] at hE
 repeat(obtain⟨hx',hE⟩:=hE)
 repeat' first
  |with_reducible first|refine Nx.go ?_ |refine Bk.go (fun _=>?_) fun _=>?_ |refine Nb fun nb hnb hnb1 hnb2=>?_ |refine Nr fun nb nsp ncap hnb hncap hnb1 hnb2=>?_
  |simp -dsimp -implicitDefEqProofs (disch:=first|exact Kd|fail) only[go_sem,↓reduceIte,seval, -List.reduceReplicate,List.toList_toArray,hr1,hr2,hDl,hDt,hC6l,hC6x,htk6,hC7l,hone7,hput7,htk7,zn,hz1,hq1,hq2]
 refine zpy zjM (O7.is.mono k89) (hI.mono (hle6.trans (hle7.trans k89))) ?_
 rw[zG rfl]
 repeat' first
  |with_reducible first|refine Nx.go ?_ |refine Bk.go (fun _=>?_) fun _=>?_ |refine Nb fun nb hnb hnb1 hnb2=>?_ |refine Nr fun nb nsp ncap hnb hncap hnb1 hnb2=>?_
  |simp -dsimp -implicitDefEqProofs (disch:=first|exact Kd|fail) only[go_sem,↓reduceIte,seval, -List.reduceReplicate,List.toList_toArray,hr1,hr2,hDl,hDt,hC6l,hC6x,htk6,hC7l,hone7,hput7,htk7,zn,hz1,hq1,hq2]
 unfold zz
 refine Upd.leave (H':=H) Ks ?_
 exact fun _ hs=>hR G9 (k0.trans (hle6.trans (hle7.trans k89))) hs
end Go.Proofs.YtefkpedhbijhkaaGreatDoor
namespace Go.Proofs.YtefkpedhbijhkaaGreatDoor
open Go Go.V Go.Proofs
section
variable {α:Type} [DecidableEq α] {β:Type} [DecidableEq β]
theorem zkF (l:List α):zf (zf l)=zf l:=
 zf7 (zv l) fun i j hi hj=>by
  rw[zv] at hi hj
  exact zfF hi hj
theorem ze1 (l:List α) {i:Nat} (h:i<l.length):(zl (l.take (i+1))).length=(zl (l.take i)).length+if l[i]∈l.take i then 0 else 1:=by
 rw[List.take_succ_eq_append_getElem h,zaM]
 simp only[zI]
 split
 ·rfl
 ·rw[List.length_append];rfl
theorem zgB {a:List α} {b:List β} (hlen:b.length=a.length) (hf: ∀i j (hi:i<b.length) (hj:j<b.length),b[i]=b[j]→a[i]'(hlen▸hi)=a[j]'(hlen▸hj)):
  ∀k,k≤a.length→(zl (a.take k)).length≤(zl (b.take k)).length∧((zl (a.take k)).length=(zl (b.take k)).length→ ∀i (hi:i<k) (h1:i<a.length) (h2:i<b.length),a[i]∈a.take i→b[i]∈b.take i)
 |0,_=>⟨Nat.le_refl _,fun _ i hi=>by omega⟩
 |k+1,hk=>by
  obtain⟨h1,h2⟩:=zgB hlen hf k Ko
  have hka:k<a.length:=hk
  have hkb:k<b.length:=by omega
  rw[ze1 a hka,ze1 b hkb]
  have hin:b[k]∈b.take k→a[k]∈a.take k:=fun h=>by
   rw[zaG] at h⊢
   obtain⟨j,hj,e⟩:=h
   exact⟨j,hj,hf j k Ko hkb e⟩
  by_cases hb:b[k]∈b.take k
  ·rw[if_pos (hin hb),if_pos hb]
   refine⟨by omega,fun e i hi g1 g2 g3=>?_⟩
   rcases Nat.lt_or_ge i k with h|h
   ·exact h2 Ko i h g1 g2 g3
   ·obtain rfl:i=k:=by omega
    exact hb
  ·rw[if_neg hb]
   by_cases ha:a[k]∈a.take k
   ·rw[if_pos ha]
    exact⟨by omega,fun e=>by omega⟩
   ·rw[if_neg ha]
    refine⟨by omega,fun e i hi g1 g2 g3=>?_⟩
    rcases Nat.lt_or_ge i k with h|h
    ·exact h2 Ko i h g1 g2 g3
    ·obtain rfl:i=k:=by omega
     exact(ha g3).elim
theorem zwK {a:List α} {b:List β} (hlen:b.length=a.length) (hf: ∀i j (hi:i<b.length) (hj:j<b.length),b[i]=b[j]→a[i]'(hlen▸hi)=a[j]'(hlen▸hj)) (he:(zl a).length=(zl b).length):zf b=zf a:=by
 have hm:=(zgB hlen hf a.length (Nat.le_refl _)).2
 have hbt:b.take a.length=b:=by rw[←hlen,List.take_length]
 rw[List.take_length,hbt] at hm
 have hm:=hm he
 have key: ∀i,∀ (hi:i<a.length) (p:Nat) (hp:p<a.length),p≤i→a[p]∉a.take p→a[p]=a[i]→b[i]'(hlen▸hi)=b[p]'(hlen▸hp):=by
  intro i hi p hp hpi hnew hap
  obtain⟨q,hq1,hq2,⟨hq3,hq4⟩,hq5⟩:=zbD (l:=b) (i:=i) (hlen▸hi)
  have hqn:b[q]∉b.take q:=by
   obtain⟨q',g1,g2,⟨g3,g4⟩,g5⟩:=zbD (l:=b) (i:=q) hq3
   rw[←hq4] at hq1
   rw[hq1] at g1
   cases g1
   exact g5.1 rfl
  have hqa:q<a.length:=by omega
  have haq:a[q]∉a.take q:=fun h=>hqn (hm q hqa hqa hq3 h)
  have hab:a[q]=a[i]:=hf q i hq3 (hlen▸hi) hq4
  have:q=p:=by
   rcases Nat.lt_trichotomy q p with h|h|h
   ·exact(hnew ((zaG hp).2 ⟨q,h,by rw[hab,hap]⟩)).elim
   ·exact h
   ·exact(haq ((zaG hqa).2 ⟨p,h,by rw[hab,hap]⟩)).elim
  subst this
  exact hq4.symm
 refine zf7 hlen fun i j hi hj=>⟨hf i j hi hj,fun e=>?_⟩
 have hia:i<a.length:=hlen▸hi
 have hja:j<a.length:=hlen▸hj
 obtain⟨p,h1,h2,⟨h3,h4⟩,h5⟩:=zbD hia
 obtain⟨p',g1,g2,⟨g3,g4⟩,g5⟩:=zbD hja
 have:p'=p:=by
  rw[←e,h1] at g1
  exact(Option.some.inj g1).symm
 subst this
 have hnew:a[p']∉a.take p':=by
  obtain⟨q',k1,k2,⟨k3,k4⟩,k5⟩:=zbD h3
  rw[←h4] at h1
  rw[h1] at k1
  cases k1
  exact k5.1 rfl
 rw[key i hia p' h3 h2 hnew h4,key j hja p' h3 g2 hnew g4]
end
def zlo (d:DfaT) (l:List Int) (k:Nat):List Int:=d.next.map fun r=>atL l (atL r k)
theorem znM (d:DfaT) (l:List Int) (k:Nat):(zlo d l k).length=d.next.length:=by simp [zlo]
def rdk (d:DfaT) (l:List Int):Nat→List Int
 |0=>l
 |k+1=>zf ((rdk d l k).zip (zlo d l k))
def rdD (d:DfaT) (l:List Int):List Int:=rdk d l d.width.toNat
def lvl (d:DfaT):Nat→List Int
 |0=>zf d.label
 |i+1=>rdD d (lvl d i)
theorem zgK {d:DfaT} {l:List Int} (h:l.length=d.next.length): ∀k,(rdk d l k).length=d.next.length
 |0=>h
 |k+1=>by
  show(zf _).length=_
  rw[zv,List.length_zip,zgK h k,znM];omega
theorem zve {d:DfaT} {l:List Int} (h:zf l=l): ∀k,zf (rdk d l k)=rdk d l k
 |0=>h
 |k+1=>zkF _
theorem zpE {d:DfaT} {l:List Int} (h:l.length=d.next.length): ∀k,∀i j (hi:i<d.next.length) (hj:j<d.next.length),
  ((rdk d l k)[i]'(by rw[zgK h];exact hi)=(rdk d l k)[j]'(by rw[zgK h];exact hj)↔l[i]'(h▸hi)=l[j]'(h▸hj)∧ ∀c,c<k→atL l (atL d.next[i] c)=atL l (atL d.next[j] c))
 |0,i,j,hi,hj=>⟨fun e=>⟨e,fun c hc=>by omega⟩,fun e=>e.1⟩
 |k+1,i,j,hi,hj=>by
  have hz:((rdk d l k).zip (zlo d l k)).length=d.next.length:=by rw[List.length_zip,zgK h k,znM];omega
  have h1:=zfF (l:=(rdk d l k).zip (zlo d l k)) (i:=i) (j:=j) Ko Ko
  refine Iff.trans h1 ?_
  rw[List.getElem_zip,List.getElem_zip,Prod.mk.injEq,zpE h k i j hi hj]
  simp only[zlo,List.getElem_map]
  constructor
  ·rintro⟨⟨e1,e2⟩,e3⟩
   refine⟨e1,fun c hc=>?_⟩
   rcases Nat.lt_or_ge c k with g|g
   ·exact e2 c g
   ·obtain rfl:c=k:=by omega
    exact e3
  ·rintro⟨e1,e2⟩
   exact⟨⟨e1,fun c hc=>e2 c Ko⟩,e2 k Ko⟩
theorem zad {d:DfaT} (h:d.next.length=d.label.length): ∀i,(lvl d i).length=d.next.length
 |0=>by rw[h];exact zv _
 |i+1=>zgK (zad h i) _
theorem zcd (d:DfaT): ∀i,zf (lvl d i)=lvl d i
 |0=>zkF _
 |i+1=>zve (zcd d i) _
theorem zhw {d:DfaT} (h:d.next.length=d.label.length) {s t:Nat} (hs:s<d.label.length) (ht:t<d.label.length):((lvl d 0)[s]'(by rw[zad h];omega)=(lvl d 0)[t]'(by rw[zad h];omega))↔d.label[s]=d.label[t]:=zfF hs ht
theorem zep {d:DfaT} (h:d.next.length=d.label.length) (i:Nat) {s t:Nat} (hs:s<d.next.length) (ht:t<d.next.length):((lvl d (i+1))[s]'(by rw[zad h];omega)=(lvl d (i+1))[t]'(by rw[zad h];omega))↔
  (lvl d i)[s]'(by rw[zad h];omega)=(lvl d i)[t]'(by rw[zad h];omega)∧ ∀c,c<d.width.toNat→atL (lvl d i) (atL d.next[s] c)=atL (lvl d i) (atL d.next[t] c):=zpE (zad h i) _ s t hs ht
theorem znN {d:DfaT} {i:Nat} (h:lvl d (i+1)=lvl d i): ∀j,lvl d (i+j)=lvl d i
 |0=>rfl
 |j+1=>by
  show rdD d (lvl d (i+j))=_
  rw[znN h j];exact h
theorem zlY {d:DfaT} {i j:Nat} (h:lvl d (i+1)=lvl d i) (hj:i≤j):lvl d j=lvl d i:=by
 obtain⟨c,rfl⟩:=Nat.exists_eq_add_of_le hj
 exact znN h c
theorem zvf {d:DfaT} (h:d.next.length=d.label.length) {i:Nat} (hn:lvl d (i+1)≠lvl d i):(zl (lvl d i)).length< (zl (lvl d (i+1))).length:=by
 have hlen:(lvl d (i+1)).length=(lvl d i).length:=by rw[zad h,zad h]
 have hf: ∀x y (hx:x< (lvl d (i+1)).length) (hy:y< (lvl d (i+1)).length),(lvl d (i+1))[x]=(lvl d (i+1))[y]→(lvl d i)[x]'(hlen▸hx)=(lvl d i)[y]'(hlen▸hy):=fun x y hx hy e=>by
  rw[zad h] at hx hy
  exact((zep h i hx hy).1 e).1
 have h1:=(zgB hlen hf _ (Nat.le_refl _)).1
 rw[List.take_length,←hlen,List.take_length] at h1
 rcases Nat.lt_or_ge (zl (lvl d i)).length (zl (lvl d (i+1))).length with g|g
 ·exact g
 ·have:=zwK hlen hf Ko
  rw[zcd,zcd] at this
  exact(hn this).elim
def zmC (d:DfaT) (n:Nat):Prop:=n<d.label.length∧lvl d (n+1)=lvl d n∧ ∀i,i<n→lvl d (i+1)≠lvl d i
theorem zpF {d:DfaT} (h:d.next.length=d.label.length) (h1:1≤d.label.length): ∃n,zmC d n:=by
 have key: ∀m,(∃n,n<m∧lvl d (n+1)=lvl d n∧ ∀i,i<n→lvl d (i+1)≠lvl d i)∨((∀i,i<m→lvl d (i+1)≠lvl d i)∧m+1≤(zl (lvl d m)).length):=by
  intro m
  induction m with
  |zero=>
   refine .inr ⟨fun i hi=>by omega,?_⟩
   have:0< (lvl d 0).length:=by rw[zad h];omega
   have hm:=(zI (lvl d 0)).2 (List.getElem_mem this)
   exact List.length_pos_of_mem hm
  |succ m ih=>
   rcases ih with ⟨n,h1,h2,h3⟩| ⟨h1,h2⟩
   ·exact .inl ⟨n,by omega,h2,h3⟩
   ·by_cases he:lvl d (m+1)=lvl d m
    ·exact .inl ⟨m,by omega,he,h1⟩
    ·refine .inr ⟨fun i hi=>?_,?_⟩
     ·rcases Nat.lt_or_ge i m with g|g
      ·exact h1 i g
      ·obtain rfl:i=m:=by omega
       exact he
     ·have:=zvf h he;omega
 rcases key d.label.length with ⟨n,h1,h2,h3⟩| ⟨_,h2⟩
 ·exact⟨n,h1,h2,h3⟩
 ·have:=zam (lvl d d.label.length)
  rw[zad h] at this
  omega
theorem zjN {d:DfaT} (h:d.next.length=d.label.length) {i:Nat} {s t:Nat} (hs:s<d.next.length) (ht:t<d.next.length): ∀j,i≤j→(lvl d j)[s]'(by rw[zad h];omega)=(lvl d j)[t]'(by rw[zad h];omega)→(lvl d i)[s]'(by rw[zad h];omega)=(lvl d i)[t]'(by rw[zad h];omega)
  | 0, hj, e => by obtain rfl : i = 0 := by omega
                   exact e
  |j+1,hj,e=>by
    rcases Nat.lt_or_ge i (j+1) with g|g
    · exact zjN h hs ht j Ko ((zep h j hs ht).1 e).1
    · obtain rfl:i=j+1:=by omega
      exact e
end Go.Proofs.YtefkpedhbijhkaaGreatDoor
namespace Go.Proofs.YtefkpedhbijhkaaGreatDoor
open Go Go.V Go.Proofs
def zo {α:Type} (f:Nat→α) (i:Nat) (x:α):Nat→α:=fun j=>if j=i then x else f j
theorem zbe {α:Type} (f:Nat→α) (i:Nat) (x:α):zo f i x i=x:=if_pos rfl
theorem za0 {α:Type} (f:Nat→α) {i j:Nat} (x:α) (h:j≠i):zo f i x j=f j:=if_neg h
theorem zeH: ∀ {n:Nat} {l:List Nat},l.Nodup→(∀s∈l,s<n)→l.length≤n
 |0,l,_,h=>by
  cases l with
  |nil=>exact Nat.le_refl _
  |cons x l=>exact absurd (h x (List.mem_cons_self ..)) (Nat.not_lt_zero _)
 |n+1,l,hnd,h=>by
  have h1:(l.filter fun x=>decide (x≠n)).length≤n:=zeH (hnd.filter _) fun s hs=>by
   rw[List.mem_filter,decide_eq_true_eq] at hs
   have:=h s hs.1
   omega
  have h2: ∀ {l:List Nat},l.Nodup→l.length≤(l.filter fun x=>decide (x≠n)).length+1:=by
   intro l hl
   induction l with
   |nil=>simp
   |cons x l ih=>
    rw[List.nodup_cons] at hl
    by_cases e:x=n
    ·have hf:l.filter (fun y=>decide (y≠n))=l:=List.filter_eq_self.2 fun y hy=>by
      rw[decide_eq_true_eq]
      intro e2;subst e2;subst e;exact hl.1 hy
     rw[List.filter_cons,if_neg (by simp [e]),hf];simp
    ·rw[List.filter_cons,if_pos (by simp [e])]
     have:=ih hl.2
     simp only[List.length_cons];omega
  have:=h2 hnd
  omega
structure PInv (n nb:Nat) (st pl bl fr to mk:Nat→Nat):Prop where
 st_lt: ∀i,i<n→st i<n
 pl_lt: ∀s,s<n→pl s<n
 pl_st: ∀i,i<n→pl (st i)=i
 st_pl: ∀s,s<n→st (pl s)=s
 bl_lt: ∀s,s<n→bl s<nb
 lo: ∀s,s<n→fr (bl s)≤pl s
 hi: ∀s,s<n→pl s<to (bl s)
 ne: ∀b,b<nb→fr b<to b
 le: ∀b,b<nb→to b≤n
 mk_le: ∀b,b<nb→fr b+mk b≤to b
 own: ∀b i,b<nb→fr b≤i→i<to b→bl (st i)=b
section
variable {n nb:Nat} {st pl bl fr to mk:Nat→Nat}
theorem PInv.nb_le (h:PInv n nb st pl bl fr to mk):nb≤n:=by
 -- each block has a first state
 have key: ∀m,m≤nb→ ∃l:List Nat,l.length=m∧l.Nodup∧ ∀s∈l,s<n∧bl s<m:=by
  intro m
  induction m with
  |zero=>exact fun _=>⟨[],rfl,List.nodup_nil,fun s hs=>by cases hs⟩
  |succ m ih=>
   intro hm
   obtain⟨l,h1,h2,h3⟩:=ih Ko
   have hf:=h.ne m Ko
   have ht:=h.le m Ko
   have ho:=h.own m (fr m) Ko (Nat.le_refl _) hf
   refine⟨st (fr m)::l,by simp [h1],List.nodup_cons.2 ⟨fun hx=>?_,h2⟩,fun s hs=>?_⟩
   ·have:=(h3 _ hx).2;omega
   ·rcases List.mem_cons.1 hs with rfl|hs
    ·exact⟨h.st_lt _ Ko,by omega⟩
    ·have:=h3 s hs;exact⟨this.1,by omega⟩
 obtain⟨l,h1,h2,h3⟩:=key nb (Nat.le_refl _)
 rw[←h1]
 exact zeH h2 fun s hs=>(h3 s hs).1
def Mkd (pl bl fr mk:Nat→Nat) (s:Nat):Prop:=pl s<fr (bl s)+mk (bl s)
theorem PInv.mark (h:PInv n nb st pl bl fr to mk) {s:Nat} (hs:s<n) (hm: ¬Mkd pl bl fr mk s):
  PInv n nb (zo (zo st (fr (bl s)+mk (bl s)) s) (pl s) (st (fr (bl s)+mk (bl s)))) (zo (zo pl (st (fr (bl s)+mk (bl s))) (pl s)) s (fr (bl s)+mk (bl s))) bl fr to (zo mk (bl s) (mk (bl s)+1))∧
  (∀x,x<n→(Mkd (zo (zo pl (st (fr (bl s)+mk (bl s))) (pl s)) s (fr (bl s)+mk (bl s))) bl fr (zo mk (bl s) (mk (bl s)+1)) x↔Mkd pl bl fr mk x∨x=s)):=by
 unfold Mkd at hm
 have hb:=h.bl_lt s hs
 have hlo:=h.lo s hs
 have hhi:=h.hi s hs
 have hle:=h.le _ hb
 have hps:=h.pl_lt s hs
 have hsp:=h.st_pl s hs
 have hmk:=h.mk_le _ hb
 obtain⟨p,hp⟩: ∃p,p=fr (bl s)+mk (bl s):=⟨_,rfl⟩
 rw[←hp] at hm hmk⊢
 have hpn:p<n:=by omega
 obtain⟨t,ht⟩: ∃t,t=st p:=⟨_,rfl⟩
 rw[←ht]
 have htn:t<n:=by rw[ht];exact h.st_lt p hpn
 have hpt:pl t=p:=by rw[ht];exact h.pl_st p hpn
 have hbt:bl t=bl s:=by rw[ht];exact h.own _ p hb Ko Ko
 have hne:t≠s→pl s≠p:=fun e e2=>e (by rw[ht,←e2,hsp])
 refine⟨⟨fun i hi=>?_,fun x hx=>?_,fun i hi=>?_,fun x hx=>?_,h.bl_lt,fun x hx=>?_,fun x hx=>?_,h.ne,h.le,fun b hb2=>?_,fun b i hb2 h1 h2=>?_⟩,fun x hx=>?_⟩
 ·unfold zo;split
  ·exact htn
  ·split
   ·exact hs
   ·exact h.st_lt i hi
 ·unfold zo;split
  ·exact hpn
  ·split
   ·exact hps
   ·exact h.pl_lt x hx
 ·have h0:=h.pl_st i hi
  unfold zo
  by_cases e1:i=pl s
  ·rw[if_pos e1]
   by_cases e2:t=s
   ·rw[if_pos e2,←hpt,e2,e1]
   ·rw[if_neg e2,if_pos rfl,e1]
  ·rw[if_neg e1]
   by_cases e2:i=p
   ·rw[if_pos e2,if_pos rfl,e2]
   ·rw[if_neg e2]
    have e3:st i≠s:=fun e=>e1 (by rw[←e,h0])
    have e4:st i≠t:=fun e=>e2 (by rw[←h0,e,hpt])
    rw[if_neg e3,if_neg e4,h0]
 ·have h0:=h.st_pl x hx
  unfold zo
  by_cases e1:x=s
  ·rw[if_pos e1]
   by_cases e2:p=pl s
   ·rw[if_pos e2,e1,ht,e2,hsp]
   ·rw[if_neg e2,if_pos rfl,e1]
  ·rw[if_neg e1]
   by_cases e2:x=t
   ·rw[if_pos e2,if_pos rfl,e2]
   ·rw[if_neg e2]
    have e3:pl x≠pl s:=fun e=>e1 (by rw[←h0,e,hsp])
    have e4:pl x≠p:=fun e=>e2 (by rw[←h0,e,ht])
    rw[if_neg e3,if_neg e4,h0]
 ·have h0:=h.lo x hx
  unfold zo
  by_cases e1:x=s
  ·rw[if_pos e1,e1];omega
  ·rw[if_neg e1]
   by_cases e2:x=t
   ·rw[if_pos e2,e2,hbt];omega
   ·rw[if_neg e2];exact h0
 ·have h0:=h.hi x hx
  unfold zo
  by_cases e1:x=s
  ·rw[if_pos e1,e1];omega
  ·rw[if_neg e1]
   by_cases e2:x=t
   ·rw[if_pos e2,e2,hbt];omega
   ·rw[if_neg e2];exact h0
 ·have h0:=h.mk_le b hb2
  unfold zo
  by_cases e1:b=bl s
  ·rw[if_pos e1,e1];omega
  ·rw[if_neg e1];exact h0
 ·have h0:=h.own b i hb2 h1 h2
  unfold zo
  by_cases e1:i=pl s
  ·rw[if_pos e1,hbt];rw[e1,hsp] at h0;exact h0
  ·rw[if_neg e1]
   by_cases e2:i=p
   ·rw[if_pos e2];rw[e2,←ht,hbt] at h0;exact h0
   ·rw[if_neg e2];exact h0
 ·have hpx:=h.pl_lt x hx
  have hxp:=h.st_pl x hx
  unfold Mkd zo
  by_cases e1:x=s
  ·rw[if_pos e1,e1,if_pos rfl]
   exact⟨fun _=> .inr rfl,fun _=>by omega⟩
  ·rw[if_neg e1]
   by_cases e2:x=t
   ·rw[if_pos e2,e2,hbt,if_pos rfl,hpt]
    have:=hne (by rw[←e2];exact e1)
    exact⟨fun _=>by omega,fun h=>by rcases h with h|h <;> omega⟩
   ·rw[if_neg e2]
    have e4:pl x≠p:=fun e=>e2 (by rw[←hxp,e,ht])
    by_cases e3:bl x=bl s
    ·rw[if_pos e3,e3]
     exact⟨fun _=> .inl Ko,fun h=>by rcases h with h|h <;> omega⟩
    ·rw[if_neg e3]
     exact⟨.inl,fun h=>by rcases h with h|h <;> omega⟩
theorem PInv.part (h:PInv n nb st pl bl fr to mk) {b:Nat} (hb:b<nb) (h1:1≤mk b) (h2:mk b<to b - fr b):
  PInv n (nb+1) st pl (fun s=>if bl s=b∧pl s<fr b+mk b then nb else bl s) (zo (zo fr b (fr b+mk b)) nb (fr b)) (zo to nb (fr b+mk b)) (zo (zo mk b 0) nb 0):=by
 have hne:=h.ne b hb
 have hle:=h.le b hb
 refine⟨h.st_lt,h.pl_lt,h.pl_st,h.st_pl,fun s hs=>?_,fun s hs=>?_,fun s hs=>?_,fun c hc=>?_,fun c hc=>?_,fun c hc=>?_,fun c i hc g1 g2=>?_⟩
 ·have:=h.bl_lt s hs
  show(if _ then _ else _) <_
  split <;> omega
 ·have h3:=h.bl_lt s hs
  have h4:=h.lo s hs
  show zo _ nb _ (if _ then _ else _)≤_
  unfold zo
  split
  ·rename_i e;rw[if_pos rfl,←e.1];exact h4
  ·rename_i e
   rw[if_neg Ko]
   by_cases e2:bl s=b
   ·rw[if_pos e2]
    have: ¬pl s<fr b+mk b:=fun h=>e ⟨e2,h⟩
    omega
   ·rw[if_neg e2];exact h4
 ·have h3:=h.bl_lt s hs
  have h4:=h.hi s hs
  show _<zo _ nb _ (if _ then _ else _)
  unfold zo
  split
  ·rename_i e;rw[if_pos rfl];exact e.2
  ·rename_i e
   rw[if_neg Ko];exact h4
 ·have:=h.ne c
  unfold zo
  by_cases e:c=nb
  ·rw[if_pos e,if_pos e];omega
  ·rw[if_neg e,if_neg e]
   by_cases e2:c=b
   ·rw[if_pos e2,e2];omega
   ·rw[if_neg e2];exact this Ko
 ·have:=h.le c
  unfold zo
  by_cases e:c=nb
  ·rw[if_pos e];omega
  ·rw[if_neg e];exact this Ko
 ·have h3:=h.mk_le c
  have h4:=h.ne c
  unfold zo
  by_cases e:c=nb
  ·rw[if_pos e,if_pos e,if_pos e];omega
  ·rw[if_neg e,if_neg e,if_neg e]
   by_cases e2:c=b
   ·rw[if_pos e2,if_pos e2,e2];omega
   ·rw[if_neg e2,if_neg e2];exact h3 Ko
 ·have h3:=h.own c i
  have h4:=h.own b i hb
  have hin:=h.le c
  unfold zo at g1 g2
  show(if _ then _ else _)=_
  by_cases e:c=nb
  ·rw[if_pos e] at g1 g2
   rw[if_pos ⟨h4 g1 Ko,by rw[h.pl_st i Ko];exact g2⟩,e]
  ·rw[if_neg e] at g1 g2
   by_cases e2:c=b
   ·rw[if_pos e2] at g1
    rw[e2] at g2
    rw[if_neg (by rw[h.pl_st i Ko];omega),h4 Ko g2,e2]
   ·rw[if_neg e2] at g1
    have h5:=h3 Ko g1 g2
    rw[if_neg (by rw[h5];omega),h5]
theorem PInv.clear (h:PInv n nb st pl bl fr to mk) (b:Nat):PInv n nb st pl bl fr to (zo mk b 0):=by
 refine⟨h.st_lt,h.pl_lt,h.pl_st,h.st_pl,h.bl_lt,h.lo,h.hi,h.ne,h.le,fun c hc=>?_,h.own⟩
 have h3:=h.mk_le c hc
 have h4:=h.ne c hc
 unfold zo
 split <;> omega
end
def zce (ws:List (Nat×Nat)) (x:Nat×Nat):List (Nat×Nat):=if x∈ws then ws else ws++[x]
theorem zhx (ws:List (Nat×Nat)) (x:Nat×Nat):x∈zce ws x:=by
 unfold zce;split
 ·assumption
 ·simp
theorem zjO {ws:List (Nat×Nat)} {x y:Nat×Nat} (h:y∈ws):y∈zce ws x:=by
 unfold zce;split
 ·exact h
 ·exact List.mem_append_left _ h
theorem zlp {ws:List (Nat×Nat)} {x y:Nat×Nat} (h:y∈zce ws x):y∈ws∨y=x:=by
 unfold zce at h;split at h
 ·exact .inl h
 ·rcases List.mem_append.1 h with h|h
  ·exact .inl h
  ·exact .inr (List.mem_singleton.1 h)
theorem zkG {ws:List (Nat×Nat)} {x:Nat×Nat} (h:ws.Nodup):(zce ws x).Nodup:=by
 unfold zce;split
 ·exact h
 ·rename_i hx
  exact List.nodup_append.2 ⟨h,by simp,fun a ha b hb=>by rw[List.mem_singleton] at hb;subst hb;intro e;subst e;exact hx ha⟩
theorem zjP (ws:List (Nat×Nat)) (x:Nat×Nat):(zce ws x).length≤ws.length+1:=by
 unfold zce;split <;> simp
def zbR (small:Bool) (old fresh:Nat) (ws:List (Nat×Nat)) (k:Nat):List (Nat×Nat):=if (old,k)∈ws∨small=true then zce ws (fresh,k) else zce ws (old,k)
def zb4 (small:Bool) (old fresh:Nat) (ws:List (Nat×Nat)) (W:Nat):List (Nat×Nat):=(List.range W).foldl (zbR small old fresh) ws
theorem zkH (small:Bool) (old fresh:Nat) (ws:List (Nat×Nat)) (W:Nat):zb4 small old fresh ws (W+1)=zbR small old fresh (zb4 small old fresh ws W) W:=by
 unfold zb4;rw[List.range_succ,List.foldl_append];rfl
theorem zvg {small:Bool} {old fresh:Nat} {ws:List (Nat×Nat)} {k:Nat} {y:Nat×Nat} (h:y∈zbR small old fresh ws k):y∈ws∨y=(fresh,k)∨y=(old,k):=by
 unfold zbR at h;split at h
 ·rcases zlp h with h|h
  ·exact .inl h
  ·exact .inr (.inl h)
 ·rcases zlp h with h|h
  ·exact .inl h
  ·exact .inr (.inr h)
theorem zgf {small:Bool} {old fresh:Nat} {ws:List (Nat×Nat)} {k:Nat} {y:Nat×Nat} (h:y∈ws):y∈zbR small old fresh ws k:=by
 unfold zbR;split <;> exact zjO h
theorem zix (small:Bool) (old fresh:Nat) (ws:List (Nat×Nat)): ∀W,(∀y∈ws,y∈zb4 small old fresh ws W)∧(∀y∈zb4 small old fresh ws W,y∈ws∨((y.1=fresh∨y.1=old)∧y.2<W))∧
  (∀j,j<W→(old,j)∈ws→(fresh,j)∈zb4 small old fresh ws W)∧(∀j,j<W→(fresh,j)∈zb4 small old fresh ws W∨(old,j)∈zb4 small old fresh ws W)∧(zb4 small old fresh ws W).length≤ws.length+W∧(ws.Nodup→(zb4 small old fresh ws W).Nodup)
 |0=>⟨fun y h=>h,fun y h=> .inl h,fun j h=>by omega,fun j h=>by omega,Nat.le_refl _,id⟩
 |W+1=>by
  obtain⟨h1,h2,h3,h4,h5,h6⟩:=zix small old fresh ws W
  rw[zkH]
  refine⟨fun y h=>zgf (h1 y h),fun y h=>?_,fun j hj ho=>?_,fun j hj=>?_,?_,fun hnd=>?_⟩
  ·rcases zvg h with h|rfl|rfl
   ·rcases h2 y h with h|h
    ·exact .inl h
    ·exact .inr ⟨h.1,by omega⟩
   ·exact .inr ⟨.inl rfl,Nat.lt_succ_self _⟩
   ·exact .inr ⟨.inr rfl,Nat.lt_succ_self _⟩
  ·rcases Nat.lt_or_ge j W with g|g
   ·exact zgf (h3 j g ho)
   ·obtain rfl:j=W:=by omega
    unfold zbR
    rw[if_pos (.inl (h1 _ ho))]
    exact zhx _ _
  ·rcases Nat.lt_or_ge j W with g|g
   ·rcases h4 j g with h|h
    ·exact .inl (zgf h)
    ·exact .inr (zgf h)
   ·obtain rfl:j=W:=by omega
    unfold zbR
    split
    ·exact .inl (zhx _ _)
    ·exact .inr (zhx _ _)
  ·unfold zbR
   split
   ·have:=zjP (zb4 small old fresh ws W) (fresh,W);omega
   ·have:=zjP (zb4 small old fresh ws W) (old,W);omega
  ·unfold zbR
   split <;> exact zkG (h6 hnd)
section law
variable {n W:Nat} {bl:Nat→Nat} {dl:Nat→Nat→Nat}
def zcq (n W:Nat) (bl:Nat→Nat) (dl:Nat→Nat→Nat) (ws:List (Nat×Nat)) (k0:Nat) (X:Nat→Prop):Prop:= ∀s t j,s<n→t<n→j<W→bl s=bl t→bl (dl j s)≠bl (dl j t)→(bl (dl j s),j)∈ws∨(bl (dl j t),j)∈ws∨(j=k0∧ ¬(X s↔X t))
theorem zcq.take {ws:List (Nat×Nat)} {b k k1:Nat} (h:zcq n W bl dl (ws++[(b,k)]) k1 fun _=>False):zcq n W bl dl ws k fun s=>bl (dl k s)=b:=by
 intro s t j hs ht hj e ne
 have hm: ∀u v,bl (dl j u)≠bl (dl j v)→(bl (dl j u),j)∈ws++[(b,k)]→(bl (dl j u),j)∈ws∨(j=k∧bl (dl k u)=b∧ ¬bl (dl k v)=b):=fun u v hne hm=>by
  rcases List.mem_append.1 hm with hm|hm
  ·exact .inl hm
  ·rw[List.mem_singleton,Prod.mk.injEq] at hm
   obtain⟨e1,rfl⟩:=hm
   exact .inr ⟨rfl,e1,fun h=>hne (by rw[e1,h])⟩
 rcases h s t j hs ht hj e ne with h|h|h
 ·rcases hm s t ne h with h| ⟨h1,h2,h3⟩
  ·exact .inl h
  ·exact .inr (.inr ⟨h1,fun g=>h3 (g.1 h2)⟩)
 ·rcases hm t s (Ne.symm ne) h with h| ⟨h1,h2,h3⟩
  ·exact .inr (.inl h)
  ·exact .inr (.inr ⟨h1,fun g=>h3 (g.2 h2)⟩)
 ·exact(h.2 Iff.rfl).elim
theorem zcq.split {ws ws':List (Nat×Nat)} {k0:Nat} {X Y:Nat→Prop} {c nb:Nat} [DecidablePred Y] (hdl: ∀j s,j<W→s<n→dl j s<n) (hbl: ∀s,s<n→bl s<nb) (h:zcq n W bl dl ws k0 X)
  (h1: ∀y∈ws,y∈ws') (h2: ∀j,j<W→(c,j)∈ws→(nb,j)∈ws') (h3: ∀j,j<W→(nb,j)∈ws'∨(c,j)∈ws'):zcq n W (fun s=>if bl s=c∧Y s then nb else bl s) dl ws' k0 X:=by
 intro s t j hs ht hj e ne
 simp only at e ne⊢
 have hss:=hbl s hs
 have hts:=hbl t ht
 have e0:bl s=bl t:=by
  split at e
  ·rename_i g1
   split at e
   ·rename_i g2;rw[g1.1,g2.1]
   ·omega
  ·split at e
   ·omega
   ·exact e
 have both: ∀u,u<n→(bl (dl j u),j)∈ws→((if bl (dl j u)=c∧Y (dl j u) then nb else bl (dl j u)),j)∈ws':=fun u hu hm=>by
  split
  ·rename_i g;rw[g.1] at hm;exact h2 j hj hm
  ·exact h1 _ hm
 by_cases e1:bl (dl j s)=bl (dl j t)
 · -- the targets have just been parted
  rw[e1] at ne⊢
  by_cases ec:bl (dl j t)=c
  ·rw[ec] at ne⊢
   simp only[true_and] at ne⊢
   by_cases y1:Y (dl j s)
   ·rw[if_pos y1] at ne⊢
    by_cases y2:Y (dl j t)
    ·rw[if_pos y2] at ne;exact(ne rfl).elim
    ·rw[if_neg y2]
     rcases h3 j hj with h|h
     ·exact .inl h
     ·exact .inr (.inl h)
   ·rw[if_neg y1] at ne⊢
    by_cases y2:Y (dl j t)
    ·rw[if_pos y2]
     rcases h3 j hj with h|h
     ·exact .inr (.inl h)
     ·exact .inl h
    ·rw[if_neg y2] at ne;exact(ne rfl).elim
  ·rw[if_neg (fun g=>ec g.1),if_neg (fun g=>ec g.1)] at ne
   exact(ne rfl).elim
 ·rcases h s t j hs ht hj e0 e1 with h|h|h
  ·exact .inl (both s hs h)
  ·exact .inr (.inl (both t ht h))
  ·exact .inr (.inr h)
theorem zcq.same {ws:List (Nat×Nat)} {k0:Nat} {X:Nat→Prop} {bl':Nat→Nat} (hdl: ∀j s,j<W→s<n→dl j s<n) (h:zcq n W bl dl ws k0 X) (he: ∀s,s<n→bl' s=bl s):zcq n W bl' dl ws k0 X:=by
 intro s t j hs ht hj e ne
 have h1:=hdl j s hj hs
 have h2:=hdl j t hj ht
 rw[he s hs,he t ht] at e
 rw[he _ h1,he _ h2] at ne⊢
 exact h s t j hs ht hj e ne
theorem zcq.end {ws:List (Nat×Nat)} {k0 k1:Nat} {X:Nat→Prop} (h:zcq n W bl dl ws k0 X) (hx: ∀s t,s<n→t<n→bl s=bl t→(X s↔X t)):zcq n W bl dl ws k1 fun _=>False:=by
 intro s t j hs ht hj e ne
 rcases h s t j hs ht hj e ne with h|h|h
 ·exact .inl h
 ·exact .inr (.inl h)
 ·exact(h.2 (hx s t hs ht e)).elim
theorem zcq.done {k0:Nat} (h:zcq n W bl dl [] k0 fun _=>False) {s t j:Nat} (hs:s<n) (ht:t<n) (hj:j<W) (e:bl s=bl t):bl (dl j s)=bl (dl j t):=by
 apply Classical.byContradiction
 intro ne
 rcases h s t j hs ht hj e ne with h|h|h
 ·cases h
 ·cases h
 ·exact h.2 Iff.rfl
end law
end Go.Proofs.YtefkpedhbijhkaaGreatDoor
namespace Go.Proofs.YtefkpedhbijhkaaGreatDoor
open Go Go.V Go.Proofs
def zj (n:Nat) (f:Nat→Nat):List Value:=(List.range n).map fun i=> .int .i64 (f i:Nat)
theorem zbk (n:Nat) (f:Nat→Nat):(zj n f).length=n:=by simp [zj]
theorem zdg {n:Nat} (f:Nat→Nat) {i:Nat} (h:i<n):(zj n f)[i]? =some (.int .i64 (f i:Nat)):=by
 unfold zj;rw[List.getElem?_map,List.getElem?_range h];rfl
theorem zaJ {n:Nat} (f:Nat→Nat) {sp:List Value} {i:Nat} (h:i<n):(zj n f++sp)[i]? =some (.int .i64 (f i:Nat)):=by
 rw[List.getElem?_append_left (by rw[zbk];exact h),zdg f h]
theorem zvh (n:Nat) (f:Nat→Nat):(zj n f).all zax=true:=by simp [zj,zax]
theorem zd7 {n:Nat} {f g:Nat→Nat} (h: ∀i,i<n→f i=g i):zj n f=zj n g:=by
 unfold zj
 refine List.map_congr_left fun i hi=>?_
 rw[h i (List.mem_range.1 hi)]
theorem za6 {n:Nat} (f:Nat→Nat) {i:Nat} (h:i<n) (x:Nat):zi (zj n f) i [.int .i64 (x:Nat)]=zj n (zo f i x):=by
 unfold zi
 apply List.ext_getElem?
 intro j
 have hl:((zj n f).take i).length=i:=by rw[List.length_take,zbk];omega
 rcases Nat.lt_or_ge j n with hj|hj
 ·rw[zdg _ hj]
  unfold zo
  rcases Nat.lt_trichotomy j i with g|g|g
  ·rw[List.getElem?_append_left (by rw[List.length_append,hl];omega),List.getElem?_append_left Ko,List.getElem?_take,if_pos g,zdg f hj,if_neg Ko]
  ·subst g
   rw[List.getElem?_append_left (by rw[List.length_append,hl];simp),List.getElem?_append_right Ko,if_pos rfl]
   simp [hl]
  ·rw[List.getElem?_append_right (by rw[List.length_append,hl];simp;omega),List.getElem?_drop,if_neg Ko]
   simp only[List.length_append,hl,List.length_singleton]
   rw[show i+1+(j - (i+1))=j by omega,zdg f hj]
 ·rw[List.getElem?_eq_none (by simp [zbk];omega),List.getElem?_eq_none (by rw[zbk];exact hj)]
theorem zwL {l:List Int} {f:Nat→Nat} (h: ∀i (hi:i<l.length),l[i]=(f i:Int)):l.map (Value.int .i64)=zj l.length f:=by
 unfold zj
 apply List.ext_getElem
 ·simp
 ·intro i h1 h2
  rw[List.length_map] at h1
  simp [h i h1]
theorem zs8 (n:Nat):List.replicate n (Value.int .i64 0)=zj n fun _=>0:=by
 unfold zj
 rw[List.map_const',List.length_range];rfl
def Rea (a b:Nat) (f g:Nat→Nat):Prop:= ∃σ τ:Nat→Nat,(∀i,τ (σ i)=i)∧(∀i,σ (τ i)=i)∧(∀i,g i=f (σ i))∧ ∀i,i<a∨b≤i→σ i=i
theorem Rea.refl (a b:Nat) (f:Nat→Nat):Rea a b f f:=⟨id,id,fun _=>rfl,fun _=>rfl,fun _=>rfl,fun _ _=>rfl⟩
theorem Rea.trans {a b:Nat} {f g h:Nat→Nat} (h1:Rea a b f g) (h2:Rea a b g h):Rea a b f h:=by
 obtain⟨σ,τ,a1,a2,a3,a4⟩:=h1
 obtain⟨σ',τ',b1,b2,b3,b4⟩:=h2
 refine⟨fun i=>σ (σ' i),fun i=>τ' (τ i),fun i=>by simp only[a1,b1],fun i=>by simp only[a2,b2],fun i=>by rw[b3,a3],fun i hi=>?_⟩
 simp only[b4 i hi,a4 i hi]
theorem Rea.wide {a b a' b':Nat} {f g:Nat→Nat} (h:Rea a b f g) (h1:a'≤a) (h2:b≤b'):Rea a' b' f g:=by
 obtain⟨σ,τ,a1,a2,a3,a4⟩:=h
 exact⟨σ,τ,a1,a2,a3,fun i hi=>a4 i Ko⟩
theorem Rea.out {a b:Nat} {f g:Nat→Nat} (h:Rea a b f g) {i:Nat} (hi:i<a∨b≤i):g i=f i:=by
 obtain⟨σ,τ,a1,a2,a3,a4⟩:=h
 rw[a3,a4 i hi]
theorem Rea.from {a b:Nat} {f g:Nat→Nat} (h:Rea a b f g) {i:Nat} (h1:a≤i) (h2:i<b): ∃j,a≤j∧j<b∧g i=f j:=by
 obtain⟨σ,τ,a1,a2,a3,a4⟩:=h
 refine⟨σ i,?_,?_,a3 i⟩
 ·apply Classical.byContradiction
  intro hn
  have h3:=a4 (σ i) Ko
  have h4:σ i=i:=by rw[←a1 (σ i),h3,a1]
  omega
 ·apply Classical.byContradiction
  intro hn
  have h3:=a4 (σ i) Ko
  have h4:σ i=i:=by rw[←a1 (σ i),h3,a1]
  omega
def zfQ (f:Nat→Nat) (i j:Nat):Nat→Nat:=zo (zo f i (f j)) j (f i)
theorem Rea.swap {a b:Nat} (f:Nat→Nat) {i j:Nat} (h1:a≤i) (h2:i<b) (h3:a≤j) (h4:j<b):Rea a b f (zfQ f i j):=by
 have hinv: ∀x:Nat,(if (if x=j then i else if x=i then j else x)=j then i else if (if x=j then i else if x=i then j else x)=i then j else(if x=j then i else if x=i then j else x))=x:=fun x=>by
  by_cases e1:x=j
  ·subst e1
   rw[if_pos rfl]
   by_cases e2:i=x
   ·rw[if_pos e2,e2]
   ·rw[if_neg e2,if_pos rfl]
  ·rw[if_neg e1]
   by_cases e2:x=i
   ·rw[if_pos e2,if_pos rfl,e2]
   ·rw[if_neg e2,if_neg e1,if_neg e2]
 refine⟨fun x=>if x=j then i else if x=i then j else x,fun x=>if x=j then i else if x=i then j else x,hinv,hinv,fun x=>?_,fun x hx=>?_⟩
 ·simp only[zfQ,zo]
  repeat' split
  all_goals rfl
 ·simp only
  rw[if_neg Ko,if_neg Ko]
def zjQ (n:Nat) (f:Nat→Nat):Prop:= ∃p:Nat→Nat,(∀i,i<n→f i<n∧p (f i)=i)∧ ∀s,s<n→p s<n∧f (p s)=s
theorem zjQ.rea {n:Nat} {f g:Nat→Nat} (h:zjQ n f) (hr:Rea 0 n f g):zjQ n g:=by
 obtain⟨p,h1,h2⟩:=h
 have hr2:=hr
 obtain⟨σ,τ,a1,a2,a3,a4⟩:=hr
 have hs: ∀i,i<n→σ i<n:=fun i hi=>by
  apply Classical.byContradiction
  intro hn
  have h3:=a4 (σ i) Ko
  have h4:σ i=i:=by rw[←a1 (σ i),h3,a1]
  omega
 have ht: ∀i,i<n→τ i<n:=fun i hi=>by
  apply Classical.byContradiction
  intro hn
  have h3:=a4 (τ i) Ko
  rw[a2] at h3
  omega
 refine⟨fun s=>τ (p s),fun i hi=>?_,fun s hs'=>?_⟩
 ·obtain⟨g1,g2⟩:=h1 (σ i) (hs i hi)
  rw[a3]
  exact⟨g1,by show τ (p (f (σ i)))=i;rw[g2,a1]⟩
 ·obtain⟨g1,g2⟩:=h2 s hs'
  exact⟨ht _ g1,by show g (τ (p s))=s;rw[a3,a2,g2]⟩
def zP (key:Nat→Int) (f:Nat→Nat) (a b:Nat):Prop:= ∀i j,a≤i→i<j→j<b→key (f i)≤key (f j)
theorem zP.le {key:Nat→Int} {f:Nat→Nat} {a b:Nat} (h:zP key f a b) {i j:Nat} (h1:a≤i) (h2:i≤j) (h3:j<b):key (f i)≤key (f j):=by
 rcases Nat.lt_or_ge i j with g|g
 ·exact h i j h1 g h3
 ·obtain rfl:i=j:=by omega
  exact Int.le_refl _
theorem zP.sub {key:Nat→Int} {f:Nat→Nat} {a b a' b':Nat} (h:zP key f a b) (h1:a≤a') (h2:b'≤b):zP key f a' b':=fun i j g1 g2 g3=>h i j Ko g2 Ko
theorem zP.same {key:Nat→Int} {f g:Nat→Nat} {a b:Nat} (h:zP key f a b) (he: ∀i,a≤i→i<b→g i=f i):zP key g a b:=fun i j g1 g2 g3=>by
 rw[he i g1 Ko,he j Ko g3];exact h i j g1 g2 g3
theorem zP.small {key:Nat→Int} {f:Nat→Nat} {a b:Nat} (h:b≤a+1):zP key f a b:=fun i j g1 g2 g3=>by omega
theorem zP.join {key:Nat→Int} {f:Nat→Nat} {a m b:Nat} (h1:zP key f a m) (h2:zP key f m b) (h3: ∀i j,a≤i→i<m→m≤j→j<b→key (f i)≤key (f j)):zP key f a b:=fun i j g1 g2 g3=>by
 rcases Nat.lt_or_ge j m with e|e
 ·exact h1 i j g1 g2 e
 ·rcases Nat.lt_or_ge i m with e2|e2
  ·exact h3 i j g1 e2 e g3
  ·exact h2 i j e2 g2 g3
def upM (f:Nat→Nat) (a k:Nat):Nat→Nat:=fun x=>if a≤x∧x<k then f (x+1) else if x=k then f a else f x
theorem zjR (f:Nat→Nat) (a:Nat):upM f a a=f:=by
 funext x;unfold upM
 rw[if_neg Ko]
 by_cases e:x=a
 ·rw[if_pos e,e]
 ·rw[if_neg e]
theorem znO (f:Nat→Nat) {a k:Nat} (h:a≤k):zfQ (upM f a k) k (k+1)=upM f a (k+1):=by
 funext x;unfold zfQ zo upM
 by_cases e1:x=k+1
 ·rw[if_pos e1,if_neg Ko,if_pos rfl,if_neg Ko,if_pos e1]
 ·rw[if_neg e1]
  by_cases e2:x=k
  ·rw[if_pos e2,if_neg Ko,if_neg Ko,if_pos Ko,e2]
  ·rw[if_neg e2]
   by_cases e3:a≤x∧x<k
   ·rw[if_pos e3,if_pos Ko]
   ·rw[if_neg e3,if_neg e2,if_neg Ko,if_neg e1]
def dnM (f:Nat→Nat) (m k:Nat):Nat→Nat:=fun x=>if k<x∧x≤m then f (x - 1) else if x=k then f m else f x
theorem znP (f:Nat→Nat) (m:Nat):dnM f m m=f:=by
 funext x;unfold dnM
 rw[if_neg Ko]
 by_cases e:x=m
 ·rw[if_pos e,e]
 ·rw[if_neg e]
theorem znQ (f:Nat→Nat) {m k:Nat} (h:k≤m) (h0:0<k):zfQ (dnM f m k) k (k - 1)=dnM f m (k - 1):=by
 funext x;unfold zfQ zo dnM
 by_cases e1:x=k - 1
 ·rw[if_pos e1,if_neg Ko,if_pos rfl,if_neg Ko,if_pos e1]
 ·rw[if_neg e1]
  by_cases e2:x=k
  ·rw[if_pos e2,if_neg Ko,if_neg Ko,if_pos Ko,e2]
  ·rw[if_neg e2]
   by_cases e3:k<x∧x≤m
   ·rw[if_pos e3,if_pos Ko]
   ·rw[if_neg e3,if_neg e2,if_neg Ko,if_neg e1]
theorem zpG (f:Nat→Nat) {a b:Nat}: ∀k,a≤k→k<b→Rea a b f (upM f a k)
 |0,h,h2=>by
  obtain rfl:a=0:=by omega
  rw[zjR];exact Rea.refl _ _ _
 |k+1,h,h2=>by
  rcases Nat.lt_or_ge k a with g|g
  ·obtain rfl:a=k+1:=by omega
   rw[zjR];exact Rea.refl _ _ _
  ·rw[←znO f g]
   exact(zpG f k g Ko).trans (Rea.swap _ g Ko Ko h2)
theorem zpH (f:Nat→Nat) {a b m:Nat} (hm:m<b): ∀c k,k+c=m→a≤k→Rea a b f (dnM f m k)
 |0,k,h,h2=>by
  obtain rfl:k=m:=by omega
  rw[znP];exact Rea.refl _ _ _
 |c+1,k,h,h2=>by
  have:=znQ f (m:=m) (k:=k+1) Ko Ko
  rw[Nat.add_sub_cancel] at this
  rw[←this]
  exact(zpH f hm c (k+1) Ko Ko).trans (Rea.swap _ Ko Ko Ko Ko)
theorem zrh {key:Nat→Int} {f:Nat→Nat} {a b i:Nat} (hs:zP key f (a+1) b) (h1:a+1≤i) (h2:i≤b) (hlo: ∀x,a+1≤x→x<i→key (f x) <key (f a)) (hhi: ∀x,i≤x→x<b→key (f a)≤key (f x)):zP key (upM f a (i - 1)) a b:=by
 intro x y g1 g2 g3
 have ex: ∀z,a≤z→z<b→(z<i - 1∧upM f a (i - 1) z=f (z+1))∨(z=i - 1∧upM f a (i - 1) z=f a)∨(i≤z∧upM f a (i - 1) z=f z):=fun z z1 z2=>by
  unfold upM
  by_cases e:a≤z∧z<i - 1
  ·exact .inl ⟨e.2,by rw[if_pos e]⟩
  ·by_cases e2:z=i - 1
   ·exact .inr (.inl ⟨e2,by rw[if_neg e,if_pos e2]⟩)
   ·exact .inr (.inr ⟨by omega,by rw[if_neg e,if_neg e2]⟩)
 rcases ex x g1 Ko with ⟨a1,a2⟩| ⟨a1,a2⟩| ⟨a1,a2⟩ <;> rcases ex y Ko g3 with ⟨b1,b2⟩| ⟨b1,b2⟩| ⟨b1,b2⟩ <;> rw[a2,b2]
 ·exact hs _ _ Ko Ko Ko
 ·exact Int.le_of_lt (hlo _ Ko Ko)
 ·exact Int.le_trans (Int.le_of_lt (hlo _ Ko Ko)) (hhi _ b1 g3)
 ·omega
 ·omega
 ·exact hhi _ b1 g3
 ·omega
 ·omega
 ·exact hs _ _ Ko g2 g3
theorem zri {key:Nat→Int} {f:Nat→Nat} {a m i:Nat} (hs:zP key f a m) (h1:a≤i) (h2:i≤m) (hlo: ∀x,a≤x→x<i→key (f x)≤key (f m)) (hhi: ∀x,i≤x→x<m→key (f m) <key (f x)):zP key (dnM f m i) a (m+1):=by
 intro x y g1 g2 g3
 have ex: ∀z,a≤z→z<m+1→(z<i∧dnM f m i z=f z)∨(z=i∧dnM f m i z=f m)∨(i<z∧dnM f m i z=f (z - 1)):=fun z z1 z2=>by
  unfold dnM
  by_cases e:i<z∧z≤m
  ·exact .inr (.inr ⟨e.1,by rw[if_pos e]⟩)
  ·by_cases e2:z=i
   ·exact .inr (.inl ⟨e2,by rw[if_neg e,if_pos e2]⟩)
   ·exact .inl ⟨by omega,by rw[if_neg e,if_neg e2]⟩
 rcases ex x g1 Ko with ⟨a1,a2⟩| ⟨a1,a2⟩| ⟨a1,a2⟩ <;> rcases ex y Ko g3 with ⟨b1,b2⟩| ⟨b1,b2⟩| ⟨b1,b2⟩ <;> rw[a2,b2]
 ·exact hs _ _ g1 g2 Ko
 ·exact hlo _ g1 a1
 ·exact Int.le_trans (hlo _ g1 a1) (Int.le_of_lt (hhi _ Ko Ko))
 ·omega
 ·omega
 ·exact Int.le_of_lt (hhi _ Ko Ko)
 ·omega
 ·omega
 ·exact hs _ _ Ko Ko Ko
def zhy (key:Nat→Int) (f:Nat→Nat) (a i j:Nat):Prop:= ∀x y,a≤x→x<y→y≤i→y≠j→key (f x)≤key (f y)
theorem zhy.start {key:Nat→Int} {f:Nat→Nat} {a i:Nat} (h:zP key f a i):zhy key f a i i:=fun x y h1 h2 h3 h4=>h x y h1 h2 Ko
theorem zhy.swap {key:Nat→Int} {f:Nat→Nat} {a i j:Nat} (h:zhy key f a i j) (ha:a<j) (hj:j≤i) (hlt:key (f j) <key (f (j - 1))):zhy key (zfQ f j (j - 1)) a i (j - 1):=by
 intro x y h1 h2 h3 h4
 have ev: ∀z,zfQ f j (j - 1) z=if z=j - 1 then f j else if z=j then f (j - 1) else f z:=fun z=>rfl
 rw[ev,ev,if_neg h4]
 by_cases e:y=j
 ·rw[if_pos e]
  by_cases e2:x=j - 1
  ·rw[if_pos e2];omega
  ·rw[if_neg e2,if_neg Ko]
   exact h x (j - 1) h1 Ko Ko Ko
 ·rw[if_neg e]
  by_cases e2:x=j - 1
  ·rw[if_pos e2]
   have:=h (j - 1) y Ko Ko h3 e
   omega
  ·rw[if_neg e2]
   by_cases e3:x=j
   ·rw[if_pos e3]
    exact h (j - 1) y Ko Ko h3 e
   ·rw[if_neg e3];exact h x y h1 h2 h3 e
theorem zhy.done {key:Nat→Int} {f:Nat→Nat} {a i j:Nat} (h:zhy key f a i j) (ha:a≤j) (hd:j=a∨key (f (j - 1))≤key (f j)):zP key f a (i+1):=by
 intro x y h1 h2 h3
 by_cases e:y=j
 ·rcases hd with g|g
  ·omega
  ·subst e
   rcases Nat.lt_or_ge x (y - 1) with q|q
   ·exact Int.le_trans (h x (y - 1) h1 q Ko Ko) g
   ·rw[show x=y - 1 by omega];exact g
 ·exact h x y h1 h2 Ko e
def zbu (f:Nat→Nat) (a b c:Nat):Nat→Nat:=fun x=>if a≤x∧x<a+c then f (x - a+b) else if b≤x∧x<b+c then f (x - b+a) else f x
theorem zs9 (f:Nat→Nat) (a b:Nat):zbu f a b 0=f:=by
 funext x;unfold zbu;rw[if_neg Ko,if_neg Ko]
theorem zta (f:Nat→Nat) {a b c:Nat} (h:a+c<b):zfQ (zbu f a b c) (a+c) (b+c)=zbu f a b (c+1):=by
 funext x;simp only[zfQ,zo,zbu]
 repeat' split
 all_goals first|omega| (congr 1;omega)|rfl
def zcf (f:Nat→Nat) (a m b:Nat):Nat→Nat:=fun x=>if a≤x∧x<a+(b - m) then f (x+(m - a)) else if a+(b - m)≤x∧x<b then f (x - (b - m)) else f x
theorem ztb (f:Nat→Nat) {m i j:Nat} (hi:i≤m) (hj:0<j) (h:j<i):zcf (zbu f (m - i) m j) (m - (i - j)) m (m+j)=zcf f (m - i) m (m+j):=by
 funext x;unfold zcf zbu
 by_cases e1:m - i≤x∧x<m - i+(m+j - m)
 ·rw[if_pos e1,if_neg Ko,if_neg Ko,if_pos Ko];congr 1;omega
 ·rw[if_neg e1]
  by_cases e2:m - i+(m+j - m)≤x∧x<m+j
  ·rw[if_pos e2]
   by_cases e3:m - (i - j)≤x∧x<m - (i - j)+(m+j - m)
   ·rw[if_pos e3,if_neg Ko,if_pos Ko];congr 1;omega
   ·rw[if_neg e3,if_pos Ko,if_neg Ko,if_neg Ko]
  ·rw[if_neg e2,if_neg Ko,if_neg Ko,if_neg Ko,if_neg Ko]
theorem zrj (f:Nat→Nat) {m i j:Nat} (hi:i≤m) (hj:0<i) (h:i<j):zcf (zbu f (m - i) (m+j - i) i) (m - i) m (m+(j - i))=zcf f (m - i) m (m+j):=by
 funext x;unfold zcf zbu
 by_cases e1:m - i≤x∧x<m - i+(m+j - m)
 ·rw[if_pos e1]
  by_cases e3:m - i≤x∧x<m - i+(m+(j - i) - m)
  ·rw[if_pos e3]
   by_cases e4:m - i≤x+(m - (m - i))∧x+(m - (m - i)) <m - i+i
   ·omega
   ·rw[if_neg e4,if_neg Ko]
  ·rw[if_neg e3,if_pos Ko,if_pos Ko];congr 1;omega
 ·rw[if_neg e1]
  by_cases e2:m - i+(m+j - m)≤x∧x<m+j
  ·rw[if_pos e2,if_neg Ko,if_neg Ko,if_neg Ko,if_pos Ko];congr 1;omega
  ·rw[if_neg e2,if_neg Ko,if_neg Ko,if_neg Ko,if_neg Ko]
theorem ztc (f:Nat→Nat) {m i:Nat} (hi:i≤m):zbu f (m - i) m i=zcf f (m - i) m (m+i):=by
 funext x;simp only[zcf,zbu]
 repeat' split
 all_goals first|omega| (congr 1;omega)|rfl
theorem zvi (f:Nat→Nat) {a m b:Nat} (h1:a≤m) (h2:m≤b):Rea a b f (zcf f a m b):=by
 refine⟨fun x=>if a≤x∧x<a+(b - m) then x+(m - a) else if a+(b - m)≤x∧x<b then x - (b - m) else x,fun x=>if a≤x∧x<m then x+(b - m) else if m≤x∧x<b then x - (m - a) else x,fun x=>?_,fun x=>?_,fun x=>?_,fun x hx=>?_⟩
 ·simp only
  by_cases e1:a≤x∧x<a+(b - m)
  ·rw[if_pos e1,if_neg Ko,if_pos Ko];omega
  ·rw[if_neg e1]
   by_cases e2:a+(b - m)≤x∧x<b
   ·rw[if_pos e2,if_pos Ko];omega
   ·rw[if_neg e2,if_neg Ko,if_neg Ko]
 ·simp only
  by_cases e1:a≤x∧x<m
  ·rw[if_pos e1,if_neg Ko,if_pos Ko];omega
  ·rw[if_neg e1]
   by_cases e2:m≤x∧x<b
   ·rw[if_pos e2,if_pos Ko];omega
   ·rw[if_neg e2,if_neg Ko,if_neg Ko]
 ·simp only[zcf]
  repeat' split
  all_goals rfl
 ·simp only
  rw[if_neg Ko,if_neg Ko]
section merge
variable {key:Nat→Int} {f:Nat→Nat} {a m b mid s:Nat}
structure CutO (key:Nat→Int) (f:Nat→Nat) (a m b mid s:Nat):Prop where
 sa:a≤s
 sm:s≤m
 smid:s≤mid
 eb:mid+m≤b+s
 one: ∀x y,a≤x→x<s→mid+m - s≤y→y<b→key (f x)≤key (f y)
 two: ∀x y,m≤x→x<mid+m - s→s≤y→y<m→key (f x)≤key (f y)
theorem zxu (h1:zP key f a m) (h2:zP key f m b) {lo hi:Nat} (ham:a<m) (hmb:m<b) (hmid:mid=(a+b) / 2) (hlo:lo=if mid<m then mid+m - b else a) (hhi:hi=if mid<m then mid else m)
  (hs1:lo≤s) (hs2:s≤hi) (hp1:lo<s→key (f (s - 1))≤key (f (mid+m - s))) (hp2:s<hi→key (f (mid+m - 1 - s))≤key (f s)):CutO key f a m b mid s:=by
 have hab:a≤lo∧hi≤m∧hi≤mid∧mid+m≤b+lo∧lo≤hi:=by
  by_cases e:mid<m
  ·rw[if_pos e] at hlo hhi;omega
  ·rw[if_neg e] at hlo hhi;omega
 refine⟨by omega,by omega,by omega,by omega,fun x y g1 g2 g3 g4=>?_,fun x y g1 g2 g3 g4=>?_⟩
 ·rcases Nat.lt_or_ge lo s with q|q
  ·have e1:=h1.le (i:=x) (j:=s - 1) g1 Ko Ko
   have e2:=h2.le (i:=mid+m - s) (j:=y) Ko g3 g4
   have e3:=hp1 q
   omega
  ·by_cases e:mid<m
   ·rw[if_pos e] at hlo;omega
   ·rw[if_neg e] at hlo;omega
 ·rcases Nat.lt_or_ge s hi with q|q
  ·have e1:=h2.le (i:=x) (j:=mid+m - 1 - s) g1 Ko Ko
   have e2:=h1.le (i:=s) (j:=y) Ko g3 g4
   have e3:=hp2 q
   omega
  ·by_cases e:mid<m
   ·rw[if_pos e] at hhi;omega
   ·rw[if_neg e] at hhi;omega
theorem CutO.parts (h:CutO key f a m b mid s) (h1:zP key f a m) (h2:zP key f m b) {g:Nat→Nat} (hg:g=zcf f s m (mid+m - s)):
  zP key g a s∧zP key g s mid∧zP key g mid (mid+m - s)∧zP key g (mid+m - s) b∧ ∀x y,a≤x→x<mid→mid≤y→y<b→key (g x)≤key (g y):=by
 obtain⟨sa,sm,smid,eb,one,two⟩:=h
 have ev1: ∀x,x<s→g x=f x:=fun x hx=>by rw[hg];unfold zcf;rw[if_neg Ko,if_neg Ko]
 have ev2: ∀x,s≤x→x<mid→g x=f (x+(m - s)):=fun x hx hx2=>by rw[hg];unfold zcf;rw[if_pos Ko]
 have ev3: ∀x,mid≤x→x<mid+m - s→g x=f (x - (mid+m - s - m)):=fun x hx hx2=>by rw[hg];unfold zcf;rw[if_neg Ko,if_pos Ko]
 have ev4: ∀x,mid+m - s≤x→g x=f x:=fun x hx=>by rw[hg];unfold zcf;rw[if_neg Ko,if_neg Ko]
 refine⟨fun i j g1 g2 g3=>?_,fun i j g1 g2 g3=>?_,fun i j g1 g2 g3=>?_,fun i j g1 g2 g3=>?_,fun x y g1 g2 g3 g4=>?_⟩
 ·rw[ev1 i Ko,ev1 j g3];exact h1 i j g1 g2 Ko
 ·rw[ev2 i g1 Ko,ev2 j Ko g3];exact h2 _ _ Ko Ko Ko
 ·rw[ev3 i g1 Ko,ev3 j Ko g3];exact h1 _ _ Ko Ko Ko
 ·rw[ev4 i g1,ev4 j Ko];exact h2 _ _ Ko g2 g3
 ·rcases Nat.lt_or_ge x s with q|q
  ·rw[ev1 x q]
   rcases Nat.lt_or_ge y (mid+m - s) with r|r
   ·rw[ev3 y g3 r];exact h1.le g1 Ko Ko
   ·rw[ev4 y r];exact one x y g1 q r g4
  ·rw[ev2 x q g2]
   rcases Nat.lt_or_ge y (mid+m - s) with r|r
   ·rw[ev3 y g3 r];exact two _ _ Ko Ko Ko Ko
   ·rw[ev4 y r];exact h2.le Ko Ko g4
theorem ztd {f1 f2 f3:Nat→Nat} (hm1:a≤mid) (hm2:mid≤b) (hle: ∀x y,a≤x→x<mid→mid≤y→y<b→key (f1 x)≤key (f1 y)) (r1:Rea a mid f1 f2) (s1:zP key f2 a mid) (r2:Rea mid b f2 f3) (s2:zP key f3 mid b):zP key f3 a b:=by
 refine zP.join (m:=mid) (s1.same fun i g1 g2=>r2.out (.inl g2)) s2 fun i j g1 g2 g3 g4=>?_
 rw[r2.out (.inl g2)]
 obtain⟨j',k1,k2,k3⟩:=r2.from g3 g4
 obtain⟨i',l1,l2,l3⟩:=r1.from g1 g2
 rw[k3,l3,r1.out (.inr k1)]
 exact hle _ _ l1 l2 k1 k2
end merge
def zjS (key:Nat→Int) (f:Nat→Nat) (n w:Nat):Prop:= ∀a,(∃q,a=q * w)→zP key f a (min (a+w) n)
def zjT (key:Nat→Int) (f:Nat→Nat) (n w a:Nat):Prop:=(∀c,(∃q,c=q * w)→a≤c→zP key f c (min (c+w) n))∧ ∀c,(∃q,c=q * (2 * w))→c<a→zP key f c (min (c+2 * w) n)
theorem zjS.start {key:Nat→Int} {f:Nat→Nat} {n w:Nat} (h:zjS key f n w):zjT key f n w 0:=⟨fun c h1 _=>h c h1,fun c _ h2=>by omega⟩
theorem zjT.step {key:Nat→Int} {f g:Nat→Nat} {n w a:Nat} (h:zjT key f n w a) (ha: ∃q,a=q * (2 * w)) (hw:0<w) {b:Nat} (hb:b=min (a+2 * w) n) (hr:Rea a b f g) (hs:zP key g a b):zjT key g n w (a+2 * w):=by
 obtain⟨q,hq⟩:=ha
 refine⟨fun c hc h1=>?_,fun c hc h1=>?_⟩
 ·exact(h.1 c hc Ko).same fun i g1 g2=>hr.out (.inr Ko)
 ·obtain⟨p,hp⟩:=hc
  rcases Nat.lt_or_ge c a with e|e
  ·have hle:c+2 * w≤a:=by
    have:p<q:=by
     apply Classical.byContradiction
     intro hn
     have:=Nat.mul_le_mul_right (2 * w) (show q≤p by omega)
     omega
    have:=Nat.mul_le_mul_right (2 * w) (show p+1≤q by omega)
    rw[Nat.succ_mul] at this
    omega
   exact(h.2 c ⟨p,hp⟩ e).same fun i g1 g2=>hr.out (.inl Ko)
  ·have:c=a:=by
    have h2:p≤q:=by
     apply Classical.byContradiction
     intro hn
     have:=Nat.mul_le_mul_right (2 * w) (show q+1≤p by omega)
     rw[Nat.succ_mul] at this
     omega
    have h3:q≤p:=by
     apply Classical.byContradiction
     intro hn
     have:=Nat.mul_le_mul_right (2 * w) (show p+1≤q by omega)
     rw[Nat.succ_mul] at this
     omega
    rw[hp,hq,Nat.le_antisymm h2 h3]
   subst this
   rw[←hb];exact hs
theorem zjT.done {key:Nat→Int} {f:Nat→Nat} {n w a:Nat} (h:zjT key f n w a) (hw:0<w) (ha: ∃q,a=q * (2 * w)) (hn:n≤a+w):zjS key f n (2 * w):=by
 intro c hc
 rcases Nat.lt_or_ge c a with e|e
 ·exact h.2 c hc e
 ·obtain⟨p,hp⟩:=hc
  have h1:=h.1 c ⟨2 * p,by rw[hp,Nat.mul_comm 2 p,Nat.mul_assoc]⟩ e
  exact h1.sub (Nat.le_refl _) Ko
theorem zjS.all {key:Nat→Int} {f:Nat→Nat} {n w:Nat} (h:zjS key f n w) (hn:n≤w):zP key f 0 n:=by
 have:=h 0 ⟨0,by omega⟩
 exact this.sub (Nat.le_refl _) Ko
end Go.Proofs.YtefkpedhbijhkaaGreatDoor
