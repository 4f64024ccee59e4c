/- A part of the proof, joined of several texts: the verification layer, contracts of functions, plain law. -/
import Derived.Test.YtomdbjfdbkejoaaGreatDoorW9
import Derived.Sort.Walk0
set_option maxHeartbeats 64000000
set_option linter.unusedSimpArgs false
set_option linter.unusedVariables false
set_option linter.unusedSectionVars false
namespace Go.Proofs.YtomdbjfdbkejoaaGreatDoor
open Go Go.V Go.Proofs
theorem zsh {w:Nat} (hw:w<4294967296):zaB .and .u64 (w:Int) 4294967295=(w:Int):=by
 unfold zaB
 have:(BitVec.ofInt IntKind.u64.bits (w:Int)&&& BitVec.ofInt IntKind.u64.bits 4294967295).toNat=w:=by
  show(BitVec.ofInt 64 (w:Int)&&& BitVec.ofInt 64 4294967295).toNat=w
  rw[BitVec.toNat_and]
  have h1:(BitVec.ofInt 64 (w:Int)).toNat=w:=by
   rw[BitVec.toNat_ofInt];omega
  have h2:(BitVec.ofInt 64 4294967295).toNat=2 ^ 32 - 1:=by decide
  rw[h1,h2,Nat.and_two_pow_sub_one_eq_mod]
  exact Nat.mod_eq_of_lt hw
 show IntKind.u64.wrap ((BitVec.ofInt IntKind.u64.bits (w:Int)&&& BitVec.ofInt IntKind.u64.bits 4294967295).toNat:Int)=w
 rw[this]
 unfold IntKind.wrap
 have hb:(IntKind.u64.bits)=64:=rfl
 simp [hb]
 omega
set_option maxRecDepth 8000 in
theorem zyc {n:Nat} (hn:n≤65536) {G:za} {H:zb} {R:Value→za→zb→Prop} (hR:R (.tuple #[.int .u64 0, .int .u64 (n:Nat)]) G H):FnT Tryz.prog 163 [.int .u64 1, .int .u64 (n:Nat)] G H R:=by
 have b1:zaB .and .u64 1 4294967295=1:=by decide
 have b2:zaB .and .u64 (n:Int) 4294967295=(n:Int):=zsh Ko
 have b3:zaB .and .u64 0 4294967295=0:=by decide
 refine FnT.body tok [0,1,4,5,6,7,8,9,10,11,12,13] Tryz.func163 rfl Kk Kk (by show _≤51;simp) fun hsep=>?_
 rw[Tryz.results163]
 have hE:=hsep
 try simp only[zzs] at hE
 repeat(obtain⟨hx',hE⟩:=hE)
 have hq:(n:Int) / 4294967296=0:=by omega
 have wz:IntKind.u64.wrap 0=0:=by decide
 repeat' first
  |with_reducible first|refine Nx.go ?_ |refine Bk.go (fun _=>?_) fun _=>?_ |refine Nb fun nb hnb hnb1 hnb2=>?_
  |simp -dsimp -implicitDefEqProofs (disch:=first|exact Kd|fail) only[go_sem,↓reduceIte,seval,b1,b2,b3,Int.zero_mul,Int.one_mul,Int.mul_zero,Int.add_zero,Int.zero_add,hq,wz]
 all_goals refine Upd.finL ?_ hR ?_
 any_goals first|exact Ks|skip
 all_goals rfl
theorem zAr {n:Nat} (hn:n≤65536) {G:za} {H:zb} {R:Value→za→zb→Prop} (hR:R (.tuple #[.int .u64 0, .int .u64 (n:Nat)]) G H):FnT Tryz.prog 146 [.int .u64 1, .int .u64 (n:Nat)] G H R:=by
 refine FnT.body tok [0,1,4,5,6,7,8,9] Tryz.func146 rfl Kk Kk (by show _≤30;simp) fun hsep=>?_
 rw[Tryz.results146]
 have hE:=hsep
 try simp only[zzs] at hE
 repeat(obtain⟨hx',hE⟩:=hE)
 repeat' first
  |with_reducible first|refine Nx.go ?_ |refine Bk.go (fun _=>?_) fun _=>?_ |refine Nb fun nb hnb hnb1 hnb2=>?_ |refine Nr fun nb nsp ncap hnb hncap hnb1 hnb2=>?_
  |simp -dsimp -implicitDefEqProofs (disch:=first|exact Kd|fail) only[go_sem,↓reduceIte,seval]
  |with_reducible refine zyc hn ?_
 all_goals refine Upd.finL ?_ hR ?_
 any_goals first|exact Ks|skip
 all_goals rfl
def zc8 (n k:Nat) (x:Int):List Value:=List.replicate k (.int .i64 x)++List.replicate (n - k) (.int .i64 0)
theorem zwm {n k:Nat} (h:k≤n) (x:Int):(zc8 n k x).length=n:=by simp [zc8];omega
theorem zum (n:Nat) (x:Int):List.replicate n (Value.int .i64 0)=zc8 n 0 x:=by simp [zc8]
theorem zwn (n:Nat) (x:Int):zc8 n n x=List.replicate n (.int .i64 x):=by simp [zc8]
theorem zsi {n:Nat} (h:1≤n) (x:Int):zf (zc8 n 0 x) 0 [.int .i64 x]=zc8 n 1 x:=by
 obtain⟨m,rfl⟩:=Nat.exists_eq_add_of_le h
 unfold zf zc8
 rw[show 1+m - 0=m+1 by omega,List.replicate_succ,show 1+m - 1=m by omega]
 simp
theorem zun {n k m:Nat} (hk:k≤n) (hm:m≤k) (hmn:m≤n - k) (x:Int):zf (zc8 n k x) k ((zc8 n k x).take m)=zc8 n (k+m) x:=by
 have h1:(zc8 n k x).take m=List.replicate m (.int .i64 x):=by
  unfold zc8
  rw[List.take_append_of_le_length (by simp;exact hm),List.take_replicate,Nat.min_eq_left hm]
 rw[h1]
 unfold zf zc8
 have e1:(List.replicate k (Value.int .i64 x)++List.replicate (n - k) (Value.int .i64 0)).take k=List.replicate k (.int .i64 x):=by
  rw[List.take_append_of_le_length (by simp),List.take_of_length_le (by simp)]
 have e2:(List.replicate k (Value.int .i64 x)++List.replicate (n - k) (Value.int .i64 0)).drop (k+(List.replicate m (Value.int .i64 x)).length)=List.replicate (n - (k+m)) (.int .i64 0):=by
  rw[List.length_replicate,List.drop_append,List.length_replicate,List.drop_of_length_le (by simp),List.nil_append,List.drop_replicate]
  congr 1;omega
 rw[e1,e2,List.replicate_append_replicate]
set_option maxRecDepth 4000 in
theorem zwo {x:Int} {n:Nat} (h1:1≤n) (hn:n≤65536) {G:za} {H:zb} {R:Value→za→zb→Prop} {v:Value} (hv:Sl G (Value.int .i64) v [x])
  (hR: ∀b,Sep G (b::zm H)→R (.slice (some ⟨b,0,none⟩) n n) G ((b, .cells (List.replicate n (.int .i64 x)) [] 3)::H)):FnT Tryz.prog 123 [v, .int .i64 (n:Nat)] G H R:=by
 obtain⟨a,cap,rfl,hrow,hcap⟩:=hv
 have hw:IntKind.u64.wrap (n:Int)=n:=by
  unfold IntKind.wrap
  have hb:(IntKind.u64.bits)=64:=rfl
  simp [hb]
  omega
 refine FnT.body tok [0,1,4,5,6,7,8,10,26,37] Tryz.func123 rfl Kk Kk (by show _≤48;simp) fun hsep=>?_
 rw[Tryz.results123]
 have hE:=hsep
 try simp only[zzs] at hE
 repeat(obtain⟨hx',hE⟩:=hE)
 repeat' first
  |with_reducible first|refine Nx.go ?_ |refine Bk.go (fun _=>?_) fun _=>?_ |refine Nb fun nb hnb hnb1 hnb2=>?_ |refine Nr fun nb nsp ncap hnb hncap hnb1 hnb2=>?_
  |simp -dsimp -implicitDefEqProofs (disch:=first|exact Kd|fail) only[go_sem,↓reduceIte,seval,hw]
 all_goals try(exfalso;omega)
 refine zAr hn ?_
 repeat' first
  |with_reducible first|refine Nx.go ?_ |refine Bk.go (fun _=>?_) fun _=>?_ |refine Nb fun nb hnb hnb1 hnb2=>?_ |refine Nr fun nb nsp ncap hnb hncap hnb1 hnb2=>?_
  |simp -dsimp -implicitDefEqProofs (disch:=first|exact Kd|fail) only[go_sem,↓reduceIte,seval,hw,Nat.sub_self,List.replicate_zero,Row.rdSlAll hrow]
 rw[zum n x,zsi h1,show min 1 n=1 by omega]
 refine Tri.loopU tok [0,1,4,5,6,7,8,10,26,37] Kk [4,7,8] (fun q G' fr H'=> ∃k:Nat,k+q=n+1∧1≤k∧k≤n∧G'=G∧H'=(nb, .cells (zc8 n k x) [] 3)::H∧fr=[(4, .slice none 0 0),(7, .slice (some ⟨nb,0,none⟩) n n),(8, .int .i64 (k:Nat))]) (n) ?_ ?_
 ·exact Upd.now ⟨1,by omega,Nat.le_refl 1,h1,rfl,rfl,rfl⟩
 ·rintro q G1 fr H' hle hs1 ⟨k,hkq,hk1,hkn,rfl,rfl,rfl⟩
  have hE:=hs1
  try simp only[zzs] at hE
  repeat(obtain⟨hx',hE⟩:=hE)
  have hql:=zwm (n:=n) (k:=k) Ko x
  by_cases hk:k<n
  ·have hsa:zbC nb 0 k n k=⟨nb,k,none⟩:=by unfold zbC;rw[if_neg Ko,Nat.zero_add]
   have hmore:=zun (n:=n) (k:=k) (m:=min k (n - k)) Ko Ko Ko x
   have htl:(List.take (min k (n - k)) (zc8 n k x)).length=min k (n - k):=by rw[List.length_take,hql];omega
   have hone:(List.take (min k (n - k)) (zc8 n k x)).all zaL=true:=by
    rw[List.all_eq_true]
    intro y hy
    have:=List.mem_of_mem_take hy
    unfold zc8 at this
    rw[List.mem_append,List.mem_replicate,List.mem_replicate] at this
    rcases this with ⟨_,rfl⟩| ⟨_,rfl⟩ <;> rfl
   repeat' first
    |with_reducible first|refine Nx.go ?_ |refine Bk.go (fun _=>?_) fun _=>?_ |refine Nb fun nb hnb hnb1 hnb2=>?_ |refine Nr fun nb nsp ncap hnb hncap hnb1 hnb2=>?_
    |with_reducible refine Tri.drawM tok mixed [0,1,4,5,6,7,8,10,26,37] 9 [] (.op 0 .plain (.op 1 .plain (.op 2 .plain (.op 3 .plain (.op 4 .plain (.op 5 .plain (.op 6 .plain (.op 7 .keeps (.op 8 .plain (.op 9 .plain .nil)))))))))) Kk [] (List.nil_sublist _) ?_
    |simp -dsimp -implicitDefEqProofs (disch:=first|exact Kd|fail) only[go_sem,↓reduceIte,seval,hsa,Nat.sub_zero,htl,hone,hmore]
   exact Upd.now ⟨q - min k (n - k),by omega,k+min k (n - k),by omega,by omega,by omega,rfl,rfl,rfl⟩
  ·obtain rfl:k=n:=by omega
   repeat' first
    |with_reducible first|refine Nx.go ?_ |refine Bk.go (fun _=>?_) fun _=>?_ |refine Nb fun nb hnb hnb1 hnb2=>?_ |refine Nr fun nb nsp ncap hnb hncap hnb1 hnb2=>?_
    |simp -dsimp -implicitDefEqProofs (disch:=first|exact Kd|fail) only[go_sem,↓reduceIte,seval]
   rw[zwn]
   unfold zv
   exact Upd.now (hR nb hs1)
def atR (n:Nat) (l:List Int):List Value:=(List.range n).map fun t:Nat=> .int .i64 (zz l (t:Int))
theorem ze0 (n:Nat) (l:List Int):(atR n l).length=n:=by simp [atR]
theorem zqL {n:Nat} (l:List Int) {t:Nat} (h:t<n):(atR n l)[t]? =some (.int .i64 (zz l (t:Int))):=by
 unfold atR;rw[List.getElem?_map,List.getElem?_range h];rfl
theorem zkA {n:Nat} (l:List Int) {t:Nat} (h:t<n):(atR n l)[t]'(by rw[ze0];exact h)= .int .i64 (zz l (t:Int)):=by simp [atR]
theorem zuo (x:Int):zz [] x= -1:=rfl
theorem zyd (n:Nat):List.replicate n (Value.int .i64 (-1))=atR n []:=by
 apply List.ext_getElem
 ·simp [atR]
 ·intro i h1 h2;simp [atR,zuo]
theorem zsj {l:List Int} {s t:Int} (h:s∉l):zz (l++[s]) t=if t=s then(l.length:Int) else zz l t:=by
 by_cases e:t=s
 ·subst e
  rw[if_pos rfl]
  unfold zz
  rw[zeo h]
 ·rw[if_neg e]
  by_cases ht:t∈l
  ·unfold zz;rw[zmy ht]
  ·have h2:t∉l++[s]:=by
    rw[List.mem_append,List.mem_singleton]
    rintro(h3|h3)
    ·exact ht h3
    ·exact e h3
   unfold zz;rw[zcC ht,zcC h2]
theorem zye {n:Nat} {l:List Int} {s:Nat} (hs:s<n) (h:(s:Int)∉l):zf (atR n l) s [.int .i64 (l.length:Nat)]=atR n (l++[(s:Int)]):=by
 unfold zf
 apply List.ext_getElem
 ·simp [ze0];omega
 ·intro j h1 h2
  rw[ze0] at h2
  rw[zkA _ h2,zsj h]
  have hl:((atR n l).take s).length=s:=by rw[List.length_take,ze0];omega
  rcases Nat.lt_trichotomy j s with hj|hj|hj
  ·rw[List.getElem_append_left (by rw[List.length_append,hl];omega),List.getElem_append_left Ko,List.getElem_take,zkA l h2,if_neg Ko]
  ·subst hj
   rw[List.getElem_append_left (by rw[List.length_append,hl];simp),List.getElem_append_right Ko]
   simp [hl]
  ·rw[List.getElem_append_right (by rw[List.length_append,hl];simp;omega),List.getElem_drop,if_neg Ko]
   simp only[List.length_append,hl,List.length_singleton]
   have:(atR n l)[s+1+(j - (s+1))]'(by rw[ze0];omega)=(atR n l)[j]'(by rw[ze0];exact h2):=by congr 1;omega
   rw[this,zkA l h2]
theorem zeG {l:List Int} {t:Int}:0≤zz l t↔t∈l:=by
 constructor
 ·intro h
  exact Classical.byContradiction fun hn=>by
   unfold zz at h
   rw[zcC hn] at h
   simp at h
 ·intro h
  obtain⟨n,hn⟩:=zab h
  unfold zz;rw[hn];exact Int.natCast_nonneg n
theorem zoO:V.Callee Tryz.prog 123:=⟨_,_,Tryz.func123,rfl,by kernel_rfl⟩
theorem zwp {n:Nat} (h1:1≤n) (hn:n≤65536) {l:List Int} (hl:l.length≤2000000) {G:za} {H:zb} {R:Value→za→zb→Prop} {v:Value} (hv:Sl G (Value.int .i64) v l)
  (hR: ∀G' b,PLe G G'→Sep G' (b::zm H)→za1 n l→R (.tuple #[.slice (some ⟨b,0,none⟩) n n, .bool (decide (l.head? =some 0))]) G' ((b, .cells (atR n l) [] 3)::H))
  (hR2: ∀G',PLe G G'→Sep G' (zm H)→ ¬za1 n l→R (.tuple #[.slice none 0 0, .bool false]) G' H):FnT Tryz.prog 92 [.int .i64 (n:Nat),v] G H R:=by
 obtain⟨a,cap,rfl,hrow,hcap⟩:=hv
 refine FnT.body tok [0,1,4,5,6,7,8,12,13,14,15,32] Tryz.func92 rfl Kk Kk (by show _≤48;simp) fun hsep=>?_
 rw[Tryz.results92]
 have hE:=hsep
 try simp only[zzs] at hE
 repeat(obtain⟨hx',hE⟩:=hE)
 repeat' first
  |with_reducible first|refine Nx.go ?_ |refine Bk.go (fun _=>?_) fun _=>?_ |refine Nb fun nb hnb hnb1 hnb2=>?_ |refine Nr fun nb nsp ncap hnb hncap hnb1 hnb2=>?_
  |simp -dsimp -implicitDefEqProofs (disch:=first|exact Kd|fail) only[go_sem,↓reduceIte,seval,List.replicate_one]
 refine FnT.pre zoO (Upd.shareRow Ka fun G2 hle2 hs2 hr2=>?_)
 refine zwo (x:= -1) h1 hn ⟨some ⟨nb,0,none⟩,1,rfl,hr2,Nat.le_refl 1⟩ fun b hb=>?_
 rw[zyd]
 have hE:=hb
 try simp only[zzs] at hE
 repeat(obtain⟨hx',hE⟩:=hE)
 have hrow2:=hrow.mono hle2
 repeat' first
  |with_reducible first|refine Nx.go ?_ |refine Bk.go (fun _=>?_) fun _=>?_ |refine Nb fun nb hnb hnb1 hnb2=>?_ |refine Nr fun nb nsp ncap hnb hncap hnb1 hnb2=>?_
  |simp -dsimp -implicitDefEqProofs (disch:=first|exact Kd|fail) only[go_sem,↓reduceIte,seval]
 refine Tri.loopU tok [0,1,4,5,6,7,8,12,13,14,15,32] Kk [0,1,4,5,6,12,13,14] (fun q G' fr H'=> ∃i:Nat,i+q=l.length∧za1 n (l.take i)∧G'=G2∧H'=(b, .cells (atR n (l.take i)) [] 3)::H∧fr=[(0, .int .i64 (n:Nat)),(1, .slice a l.length cap),(4, .slice none 0 0),(5, .bool false),(6, .slice (some ⟨b,0,none⟩) n n),(12, .slice a l.length cap),(13, .int .i64 l.length),(14, .int .i64 (i:Nat))]) (l.length) ?_ ?_
 ·refine Upd.now ?_
  exact⟨0,by omega,⟨by rw[List.take_zero];exact List.nodup_nil,fun x hx=>by rw[List.take_zero] at hx;cases hx⟩,rfl,by rw[List.take_zero],rfl⟩
 ·rintro q G1 fr H' hle hs1 ⟨i,hiq,hO,rfl,rfl,rfl⟩
  have hE:=hs1
  try simp only[zzs] at hE
  repeat(obtain⟨hx',hE⟩:=hE)
  by_cases hil:i<l.length
  ·have had:Adr a:=hrow.adr (by rw[List.length_map];omega)
   have htk:=List.take_succ_eq_append_getElem hil
   have htl:(l.take i).length=i:=by rw[List.length_take];omega
   by_cases hbad:l[i] <0∨(n:Int)≤l[i]∨l[i]∈l.take i
   ·have hno: ¬za1 n l:=fun h=>by
     rcases hbad with hb1|hb1|hb1
     ·have:=(h.2 _ (List.getElem_mem hil)).1;omega
     ·have:=(h.2 _ (List.getElem_mem hil)).2;omega
     ·have h2:=h.1.sublist (List.take_sublist (i+1) l)
      rw[htk,List.nodup_append] at h2
      exact h2.2.2 _ hb1 _ (List.mem_singleton.2 rfl) rfl
    by_cases hr:0≤l[i]∧l[i] <n
    ·obtain⟨s,hs⟩:=Int.eq_ofNat_of_zero_le hr.1
     have hsn:s<n:=by omega
     have hmem:l[i]∈l.take i:=by rcases hbad with hb1|hb1|hb1 <;> first|omega|exact hb1
     rw[hs] at hmem
     have hg:=zqL (l.take i) hsn
     have hf:=zeG.2 hmem
     generalize hfv:zz (l.take i) (s:Int)=fv at *
     repeat' first
      |with_reducible first|refine Nx.go ?_ |refine Bk.go (fun _=>?_) fun _=>?_ |refine Nb fun nb hnb hnb1 hnb2=>?_ |refine Nr fun nb nsp ncap hnb hncap hnb1 hnb2=>?_
      |simp -dsimp -implicitDefEqProofs (disch:=first|exact Kd|fail) only[go_sem,↓reduceIte,seval,Row.obj hrow2,List.getElem_map,hs,hg]
     all_goals try(exfalso;omega)
     unfold zv
     exact Upd.go (H':=H) Ks (Upd.now (hR2 G1 hle2 Ka hno))
    ·repeat' first
      |with_reducible first|refine Nx.go ?_ |refine Bk.go (fun _=>?_) fun _=>?_ |refine Nb fun nb hnb hnb1 hnb2=>?_ |refine Nr fun nb nsp ncap hnb hncap hnb1 hnb2=>?_
      |simp -dsimp -implicitDefEqProofs (disch:=first|exact Kd|fail) only[go_sem,↓reduceIte,seval,Row.obj hrow2,List.getElem_map]
     all_goals try(exfalso;omega)
     all_goals unfold zv
     all_goals exact Upd.go (H':=H) Ks (Upd.now (hR2 G1 hle2 Ka hno))
   ·have hb1:0≤l[i]∧l[i] <n:=by omega
    have hb2:l[i]∉l.take i:=fun h=>hbad (.inr (.inr h))
    obtain⟨s,hs⟩:=Int.eq_ofNat_of_zero_le hb1.1
    have hsn:s<n:=by omega
    have hO2:za1 n (l.take (i+1)):=by
     have h3:=hO.add1 hb1
     unfold add1 at h3
     rw[if_neg hb2,←htk] at h3
     exact h3
    rw[hs] at hb2
    have hg:=zqL (l.take i) hsn
    have hf:zz (l.take i) (s:Int) <0:=by
     rcases Int.lt_or_le (zz (l.take i) (s:Int)) 0 with h|h
     ·exact h
     ·exact absurd (zeG.1 h) hb2
    have hput:=zye hsn hb2
    rw[htl,←hs,←htk] at hput
    have hal:=ze0 n (l.take i)
    generalize hfv:zz (l.take i) (s:Int)=fv at *
    repeat' first
     |with_reducible first|refine Nx.go ?_ |refine Bk.go (fun _=>?_) fun _=>?_ |refine Nb fun nb hnb hnb1 hnb2=>?_ |refine Nr fun nb nsp ncap hnb hncap hnb1 hnb2=>?_
     |simp -dsimp -implicitDefEqProofs (disch:=first|exact Kd|fail) only[go_sem,↓reduceIte,seval,Row.obj hrow2,List.getElem_map,hs,hg,hput]
    all_goals try(exfalso;omega)
    exact Upd.now ⟨q - 1,by omega,i+1,by omega,hO2,rfl,rfl,rfl⟩
  ·obtain rfl:i=l.length:=by omega
   rw[List.take_length] at hO hs1⊢
   by_cases hl0:l.length=0
   ·have hl1:l=[]:=List.eq_nil_of_length_eq_zero hl0
    have hh:decide (l.head? =some 0)=false:=by rw[hl1];rfl
    rw[hh] at hR
    repeat' first
     |with_reducible first|refine Nx.go ?_ |refine Bk.go (fun _=>?_) fun _=>?_ |refine Nb fun nb hnb hnb1 hnb2=>?_ |refine Nr fun nb nsp ncap hnb hncap hnb1 hnb2=>?_
     |with_reducible refine Tri.drawH tok mixed [0,1,4,5,6,7,8,12,13,14,15,32] 9 [7] (.op 0 .plain (.op 1 .plain (.op 2 .plain (.op 3 .plain (.op 4 .plain (.op 5 .plain (.op 6 .plain (.op 7 .held (.op 8 .plain (.op 9 .plain (.op 10 .plain (.op 11 .plain .nil)))))))))))) Kk [1] ?_
     |simp -dsimp -implicitDefEqProofs (disch:=first|exact Kd|fail) only[go_sem,↓reduceIte,seval]
    all_goals try(exfalso;omega)
    unfold zv
    exact Upd.now (hR G1 b hle2 hs1 hO)
   ·have h0l:0<l.length:=by omega
    have had:Adr a:=hrow.adr (by rw[List.length_map];omega)
    have hhd:l.head? =some l[0]:=by rw[List.head?_eq_getElem?,List.getElem?_eq_getElem h0l]
    have hh:decide (l.head? =some 0)=decide (l[0]=0):=by rw[hhd];simp
    rw[hh] at hR
    have hob: ∀ (H:zb) (k:Value→Prop),zez G1 H (blk a) (G1 (blk a)) (ofs a) k=k (.int .i64 l[0]):=fun H k=>by
     have:=Row.obj hrow2 (i:=0) (by rw[List.length_map];omega) H k
     rw[Nat.add_zero,List.getElem_map] at this
     exact this
    repeat' first
     |with_reducible first|refine Nx.go ?_ |refine Bk.go (fun _=>?_) fun _=>?_ |refine Nb fun nb hnb hnb1 hnb2=>?_ |refine Nr fun nb nsp ncap hnb hncap hnb1 hnb2=>?_
     |with_reducible refine Tri.drawH tok mixed [0,1,4,5,6,7,8,12,13,14,15,32] 9 [7] (.op 0 .plain (.op 1 .plain (.op 2 .plain (.op 3 .plain (.op 4 .plain (.op 5 .plain (.op 6 .plain (.op 7 .held (.op 8 .plain (.op 9 .plain (.op 10 .plain (.op 11 .plain .nil)))))))))))) Kk [1] ?_
     |simp -dsimp -implicitDefEqProofs (disch:=first|exact Kd|fail) only[go_sem,↓reduceIte,seval,hob]
    all_goals try(exfalso;omega)
    unfold zv
    exact Upd.now (hR G1 b hle2 hs1 hO)
end Go.Proofs.YtomdbjfdbkejoaaGreatDoor
namespace Go.Proofs.YtomdbjfdbkejoaaGreatDoor
open Go Go.V Go.Proofs
theorem zwq (n:Nat) (l:List Int):atR n l=((List.range n).map fun t:Nat=>zz l (t:Int)).map (Value.int .i64):=by
 unfold atR;rw[List.map_map];rfl
def zc9 (d:DfaT) (l:List Int) (s:Int):List Int:=(zJ d s).map (zz l)
def zbi (d:DfaT) (l:List Int):List Int:=l.map fun s=>d.label.getD s.toNat 0
def zah (d:DfaT) (l:List Int):DfaT:=⟨d.of,d.width,l.map (zc9 d l),zbi d l,d.names⟩
def zly (d:DfaT) (l:List Int) (s:Int):Prop:= ∀t∈zJ d s,t∈l
def zcv (d:DfaT) (l:List Int):Prop:=(za1 d.label.length l∧l.head? =some 0)∧ ∀s∈l,zly d l s
noncomputable def zfO (d:DfaT) (l:List Int):DfaT×Int:=
 haveI:=Classical.propDecidable;if zc d then if zcv d l then(zah d l,0) else(zao,1) else(zao,6)
theorem zmQ {d:DfaT} {l:List Int} (h: ¬zc d):zfO d l=(zao,6):=by unfold zfO;rw[if_neg h]
theorem zi2 {d:DfaT} {l:List Int} (h:zc d) (h2: ¬zcv d l):zfO d l=(zao,1):=by unfold zfO;rw[if_pos h,if_neg h2]
theorem zoP {d:DfaT} {l:List Int} (h:zc d) (h2:zcv d l):zfO d l=(zah d l,0):=by unfold zfO;rw[if_pos h,if_pos h2]
def zoQ (d:DfaT) (l:List Int) (j:Nat) (vl:Value) (kl:zb):Prop:=
 (j=0∧vl= .slice none 0 0∧kl=[])∨ ∃bl c2 sp2,vl= .slice (some ⟨bl,0,none⟩) j c2∧kl=[(bl, .cells (((zbi d l).take j).map (Value.int .i64)) sp2 3)]∧j+sp2.length=c2
theorem zAs {d:DfaT} (hsm:zx d) {C:List Value} {an al ay:Option Addr} {cn cl cs:Nat} {rs:List Value} {G:za} {H:zb} (O:OpenD G d C an al ay cn cl cs rs) {v0 v1 v6 v7:Value} {b2 b4:Nat}:
  Tri Tryz.prog Tryz.f62.ntmps (piece [1,1,1,1,0] Tryz.f62) G [(0,v0),(1,v1),(2, .pointer (some ⟨b2,0,none⟩)),(4, .pointer (some ⟨b4,0,none⟩)),(5, .int .i64 0),(6,v6),(7,v7)] ((b4, .cells zI [] 27):: (b2, .cells C [] 27)::H) (onlyN fun G' fr' H'=>
   ∃b7 vs,PLe G G'∧Sl G' str vs d.names∧zD [0,1,2,4,5,6,7,8] fr'=[(0,v0),(1,v1),(2, .pointer (some ⟨b2,0,none⟩)),(4, .pointer (some ⟨b4,0,none⟩)),(5, .int .i64 0),(6,v6),(7,v7),(8, .pointer (some ⟨b7,0,none⟩))]∧H'=(b7, .cells (zd d (.slice none 0 0) (.slice none 0 0) vs) [] 27):: (b4, .cells zI [] 27):: (b2, .cells C [] 27)::H):=by
 obtain⟨hm1,hm2,hm3,hm4,hm5⟩:=id hsm
 have hCl:=O.len
 have hCw:=O.w
 have hCs:=O.s
 have hCo:=O.of
 have hofl:(u8L d.of).length=256:=by rw[List.length_map,O.ofl]
 have hb1:=zhX O.ofl
 have hb2:=zfX O.ofl
 have hl1:(u8L d.of++[Value.int .i64 0,Value.slice none 0 0,Value.slice none 0 0,Value.slice none 0 0]).length=260:=by rw[List.length_append,hofl];rfl
 have hl2: ∀v:Value,(zd d (.slice none 0 0) (.slice none 0 0) v).length=260:=fun v=>zat O.ofl _ _ _
 have hb3:=zeQ O.ofl (.slice none 0 0) (.slice none 0 0) (.slice none 0 0)
 have hputz: ∀v:Value,zf zI 0 (zd d (.slice none 0 0) (.slice none 0 0) v)=zd d (.slice none 0 0) (.slice none 0 0) v:=fun v=>by
  unfold zf
  rw[List.take_zero,List.nil_append,List.drop_of_length_le (by rw[zn,hl2];omega),List.append_nil]
 refine Tri.sepT fun hs0=>?_
 have hE:=hs0
 try simp only[zzs] at hE
 repeat(obtain⟨hx',hE⟩:=hE)
 refine Tri.piece (f:=Tryz.f62) rfl ?_
 refine Tri.run tok [0,1,2,4,5,6,7,8,10,11,12,13,16,27,37,38,39,40,50,51,52,53,61] Kk ?_
 repeat' first
  |with_reducible first|refine Nx.go ?_ |refine Bk.go (fun _=>?_) fun _=>?_ |refine Nb fun nb hnb hnb1 hnb2=>?_ |refine Nr fun nb nsp ncap hnb hncap hnb1 hnb2=>?_
  |with_reducible refine Tri.drawH tok mixed [0,1,2,4,5,6,7,8,10,11,12,13,16,27,37,38,39,40,50,51,52,53,61] 6 [1,3,5] (.op 0 .plain (.op 1 .held (.op 2 .plain (.op 3 .held (.op 4 .plain (.op 5 .held (.both (.op 6 .keeps (.op 7 .plain (.op 8 .keeps (.op 9 .plain .nil)))) (.op 8 .keeps (.op 6 .keeps (.op 7 .plain (.op 9 .plain .nil))))))))))) Kk [2] ?_
  |with_reducible refine Tri.drawM tok mixed [0,1,2,4,5,6,7,8,10,11,12,13,16,27,37,38,39,40,50,51,52,53,61] 19 [1,3,6] (.op 0 .plain (.op 1 .held (.op 2 .plain (.op 3 .held (.op 4 .plain (.op 5 .plain (.op 6 .held (.op 7 .keeps (.op 8 .keeps (.op 9 .plain (.op 10 .plain .nil))))))))))) Kk _ (List.Sublist.refl _) ?_
  |simp -dsimp -implicitDefEqProofs (disch:=first|exact Kd|fail) only[go_sem,↓reduceIte,seval, -List.reduceReplicate,List.toList_toArray,hCl,hCw,hCs,hCo,hofl,hb1,hb2,hb3,hl1,hl2,zn,zad,hputz]
  | ((with_reducible refine zhW d.names hm4 O.names fun G4 v4 hle4 hs4 hsl4=>?_);obtain⟨ay4,cy4,rfl,hr4,hc4⟩:=hsl4;have hone:=zbe (d:=d) (vn:= .slice none 0 0) (vl:= .slice none 0 0) (vs:= .slice ay4 d.names.length cy4) rfl rfl rfl;(have hE:=hs4;try simp only[zzs] at hE;repeat(obtain⟨hx',hE⟩:=hE)))
  | (with_reducible refine And.intro ?_ ?_)
 all_goals exact Upd.now ⟨nb,_,hle4,⟨ay4,cy4,rfl,hr4,hc4⟩,rfl,rfl⟩
theorem zup {d:DfaT} {l:List Int} {C:List Value} {an al ay:Option Addr} {cn cl cs:Nat} {rs:List Value} {G:za} {H:zb} (O:OpenD G d C an al ay cn cl cs rs) {v0 v1 v6 v7 v35 v36 v37:Value} {b2 b4 b7:Nat} {j t:Nat} (hj:j<l.length) (hjb:j<65536) (ht:t<d.label.length) (hsj:l[j]=(t:Int)) {vn vl vs:Value} {kl:zb} (hout:zoQ d l j vl kl):
  Tri Tryz.prog Tryz.f62.ntmps (piece [1,1,1,1,1,0,1,0,0,1,1,0,0,1,1,1,1] Tryz.f62) G [(0,v0),(1,v1),(2, .pointer (some ⟨b2,0,none⟩)),(4, .pointer (some ⟨b4,0,none⟩)),(5, .int .i64 0),(6,v6),(7,v7),(8, .pointer (some ⟨b7,0,none⟩)),(10, .int .i64 (t:Nat)),(37,v35),(38,v36),(39,v37)] ((b7, .cells (zd d vn vl vs) [] 27):: (b2, .cells C [] 27):: (kl++H)) (onlyN fun G' fr' H'=>
   ∃vl' kl',G'=G∧zoQ d l (j+1) vl' kl'∧zD [0,1,2,4,5,6,7,8,37,38,39] fr'=[(0,v0),(1,v1),(2, .pointer (some ⟨b2,0,none⟩)),(4, .pointer (some ⟨b4,0,none⟩)),(5, .int .i64 0),(6,v6),(7,v7),(8, .pointer (some ⟨b7,0,none⟩)),(37,v35),(38,v36),(39,v37)]∧H'=(b7, .cells (zd d vn vl' vs) [] 27):: (b2, .cells C [] 27):: (kl'++H)):=by
 have hCl:=O.len
 have hCx:=O.l
 have hl2: ∀a b c:Value,(zd d a b c).length=260:=fun a b c=>zat O.ofl _ _ _
 have hg2: ∀a b c:Value,(zd d a b c)[258]? =some b:=fun a b c=>zdy O.ofl _ _ _
 have hputL: ∀a b c x:Value,zf (zd d a b c) 258 [x]=zd d a x c:=fun a b c x=>zbK O.ofl _ _ _ _
 have hlt:d.label[t]=d.label.getD t 0:=by rw[List.getD_eq_getElem?_getD,List.getElem?_eq_getElem ht];rfl
 have hlab:(zbi d l).take (j+1)=(zbi d l).take j++[d.label.getD t 0]:=by
  have hjl:j< (zbi d l).length:=by unfold zbi;rw[List.length_map];exact hj
  rw[List.take_succ_eq_append_getElem hjl]
  congr 2
  simp only[zbi,List.getElem_map,hsj,Int.toNat_natCast]
 have hlj:((zbi d l).take j).length=j:=by rw[List.length_take];unfold zbi;rw[List.length_map];omega
 have had2:Adr al:=O.rl.adr (by rw[List.length_map];omega)
 refine Tri.sepT fun hs0=>?_
 rcases hout with ⟨hj0,rfl,rfl⟩| ⟨bl,c2,sp2,rfl,rfl,hc2⟩
 ·have hE:=hs0
  try simp only[zzs] at hE
  repeat(obtain⟨hx',hE⟩:=hE)
  have hce:((zbi d l).take (j+1)).map (Value.int .i64)=[Value.int .i64 (d.label.getD t 0)]:=by rw[hlab,List.map_append,List.eq_nil_of_length_eq_zero (hlj.trans hj0)];rfl
  refine Tri.piece (f:=Tryz.f62) rfl ?_
  refine Tri.run tok [0,1,2,4,5,6,7,8,10,11,12,13,16,27,37,38,39,40,50,51,52,53,61] Kk ?_
  repeat' first
   |with_reducible first|refine Nx.go ?_ |refine Bk.go (fun _=>?_) fun _=>?_ |refine Nb fun nb hnb hnb1 hnb2=>?_ |refine Nr fun nb nsp ncap hnb hncap hnb1 hnb2=>?_
   |simp -dsimp -implicitDefEqProofs (disch:=first|exact Kd|fail) only[go_sem,↓reduceIte,seval, -List.reduceReplicate,List.replicate_one,List.toList_toArray,hCl,hCx,hl2,hg2,hputL,Row.obj O.rl,List.getElem_map,hlt,Int.toNat_natCast,Nat.sub_self]
   |with_reducible refine Tri.drawH tok mixed [0,1,2,4,5,6,7,8,10,11,12,13,16,27,37,38,39,40,50,51,52,53,61] 19 [1,3,6] (.op 0 .plain (.op 1 .held (.op 2 .plain (.op 3 .held (.op 4 .plain (.op 5 .plain (.op 6 .held (.op 7 .keeps (.op 8 .keeps (.op 9 .plain (.op 10 .plain .nil))))))))))) Kk [8,2] ?_
  rw[←hce]
  exact Upd.go (H':=(b7, .cells (zd d vn (.slice (some ⟨nb,0,none⟩) 1 ncap) vs) [] 27):: (b2, .cells C [] 27):: ([(nb, .cells (((zbi d l).take (j+1)).map (Value.int .i64)) nsp 3)]++H)) Ks (Upd.now ⟨.slice (some ⟨nb,0,none⟩) 1 ncap,_,rfl, .inr ⟨nb,ncap,nsp,by rw[hj0],rfl,by omega⟩,rfl,rfl⟩)
 ·have hE:=hs0
  try simp only[zzs] at hE
  repeat(obtain⟨hx',hE⟩:=hE)
  obtain⟨ps,hps,hpl⟩: ∃ps,ps=((zbi d l).take j).map (Value.int .i64)∧ps.length=j:=⟨_,rfl,by rw[List.length_map,hlj]⟩
  have hce:((zbi d l).take (j+1)).map (Value.int .i64)=ps++[Value.int .i64 (d.label.getD t 0)]:=by rw[hlab,List.map_append,←hps];rfl
  rw[←hps]
  refine Tri.piece (f:=Tryz.f62) rfl ?_
  refine Tri.run tok [0,1,2,4,5,6,7,8,10,11,12,13,16,27,37,38,39,40,50,51,52,53,61] Kk ?_
  repeat' first
   |with_reducible first|refine Nx.go ?_ |refine Bk.go (fun _=>?_) fun _=>?_ |refine Nb fun nb hnb hnb1 hnb2=>?_ |refine Nr fun nb nsp ncap hnb hncap hnb1 hnb2=>?_
   |simp -dsimp -implicitDefEqProofs (disch:=first|exact Kd|fail) only[go_sem,↓reduceIte,seval, -List.reduceReplicate,List.replicate_one,List.toList_toArray,hCl,hCx,hl2,hg2,hputL,Row.obj O.rl,List.getElem_map,hlt,Int.toNat_natCast,Nat.sub_self]
   |with_reducible refine Tri.drawH tok mixed [0,1,2,4,5,6,7,8,10,11,12,13,16,27,37,38,39,40,50,51,52,53,61] 19 [1,3,6] (.op 0 .plain (.op 1 .held (.op 2 .plain (.op 3 .held (.op 4 .plain (.op 5 .plain (.op 6 .held (.op 7 .keeps (.op 8 .keeps (.op 9 .plain (.op 10 .plain .nil))))))))))) Kk [8,2] ?_
  rw[←hce]
  exact Upd.go (H':=(b7, .cells (zd d vn (.slice (some ⟨nb,0,none⟩) (j+1) ncap) vs) [] 27):: (b2, .cells C [] 27):: ([(nb, .cells (((zbi d l).take (j+1)).map (Value.int .i64)) nsp 3)]++H)) Ks (Upd.now ⟨_,_,rfl, .inr ⟨nb,ncap,nsp,rfl,rfl,by omega⟩,rfl,rfl⟩)
end Go.Proofs.YtomdbjfdbkejoaaGreatDoor
namespace Go.Proofs.YtomdbjfdbkejoaaGreatDoor
open Go Go.V Go.Proofs
def zwr (d:DfaT) (l:List Int) (G':za) (j:Nat) (vn:Value) (kn:zb):Prop:=
 (j=0∧vn= .slice none 0 0∧kn=[])∨ ∃bn c1 rv sp1,vn= .slice (some ⟨bn,0,none⟩) j c1∧kn=[(bn, .cells rv sp1 24)]∧rv.length=j∧j+sp1.length=c1∧
  ∀i (h:i<j) (h2:i<rv.length) (h3:i<l.length),∃b c,rv[i]= .slice b (zc9 d l l[i]).length c∧Row G' b ((zc9 d l l[i]).map (Value.int .i64))∧(zc9 d l l[i]).length≤c
theorem zAO {d:DfaT} (hsm:zx d) (hok:zc d) {l:List Int} (hO:za1 d.label.length l) {C:List Value} {an al ay:Option Addr} {cn cl cs:Nat} {rs:List Value} {G:za} {H:zb} (O:OpenD G d C an al ay cn cl cs rs) {v0 v1 v7:Value} {b2 b4 b7:Nat} {an3 ah:Option Addr} {cn3 ch:Nat} (hr3:Row G an3 (((List.range d.label.length).map fun t:Nat=>zz l (t:Int)).map (Value.int .i64))) (hrh:Row G ah ((l).map (Value.int .i64))) {j:Nat} (hj:j<l.length) {vn vl vs:Value} {kn kl:zb} (hout:zwr d l G j vn kn) (hlab0:zoQ d l j vl kl) (hvs:zaL vs=true) (hfine:zly d l (l[j]'hj)):
  Tri Tryz.prog Tryz.f62.ntmps (piece [1,1,1,1,1,0,1,0,0,1,1,0,0] Tryz.f62) G [(0,v0),(1,v1),(2, .pointer (some ⟨b2,0,none⟩)),(4, .pointer (some ⟨b4,0,none⟩)),(5, .int .i64 0),(6, .slice an3 d.label.length cn3),(7,v7),(8, .pointer (some ⟨b7,0,none⟩)),(37, .slice ah l.length ch),(38, .int .i64 l.length),(39, .int .i64 (j:Nat))] ((b7, .cells (zd d vn vl vs) [] 27):: (b2, .cells C [] 27):: (kn++(kl++H))) (onlyN fun G' fr' H'=>
   ∃vn' vl' kn' kl',PLe G G'∧zwr d l G' (j+1) vn' kn'∧zoQ d l (j+1) vl' kl'∧zD [0,1,2,4,5,6,7,8,37,38,39] fr'=[(0,v0),(1,v1),(2, .pointer (some ⟨b2,0,none⟩)),(4, .pointer (some ⟨b4,0,none⟩)),(5, .int .i64 0),(6, .slice an3 d.label.length cn3),(7,v7),(8, .pointer (some ⟨b7,0,none⟩)),(37, .slice ah l.length ch),(38, .int .i64 l.length),(39, .int .i64 (j:Nat))]∧H'=(b7, .cells (zd d vn' vl' vs) [] 27):: (b2, .cells C [] 27):: (kn'++(kl'++H))):=by
 obtain⟨hm1,hm2,hm3,hm4,hm5⟩:=id hsm
 obtain⟨hk1,hk2,hk3,hk4,hk5,hk6,hk7⟩:=id hok
 have hal:(((List.range d.label.length).map fun t:Nat=>zz l (t:Int)).map (Value.int .i64)).length=d.label.length:=by rw[List.length_map,List.length_map,List.length_range]
 have hCl:=O.len
 have hCw:=O.w
 have hCn:=O.n
 have hCx:=O.l
 have hl2: ∀a b c:Value,(zd d a b c).length=260:=fun a b c=>zat O.ofl _ _ _
 have hg1: ∀a b c:Value,(zd d a b c)[257]? =some a:=fun a b c=>zeb O.ofl _ _ _
 have hg2: ∀a b c:Value,(zd d a b c)[258]? =some b:=fun a b c=>zdy O.ofl _ _ _
 have hputN: ∀a b c x:Value,zf (zd d a b c) 257 [x]=zd d x b c:=fun a b c x=>zcG O.ofl _ _ _ _
 have hputL: ∀a b c x:Value,zf (zd d a b c) 258 [x]=zd d a x c:=fun a b c x=>zbK O.ofl _ _ _ _
 have hjm:=hO.2 _ (List.getElem_mem hj)
 obtain⟨t,hsj⟩:=Int.eq_ofNat_of_zero_le hjm.1
 have htl:t<d.label.length:=by omega
 have htn:t<d.next.length:=by omega
 have htl2:t<d.label.length:=by omega
 have htv:t<rs.length:=by have:=O.rnl;omega
 obtain⟨b,c,e1,e2,e3⟩:=O.rs t htn htv
 obtain⟨hw0,hlt0,hlt1,hrng⟩:=hk7 t htn htl2
 obtain⟨row,hrow⟩: ∃row,row=d.next[t]:=⟨_,rfl⟩
 have hrl:=hm2 _ (List.getElem_mem htn)
 rw[←hrow] at e1 e2 e3 hw0 hrng hrl
 have hw:d.width=(row.length:Int):=hw0.symm
 obtain⟨r,hr⟩: ∃r,r=zc9 d l (t:Nat):=⟨_,rfl⟩
 have hr':r=row.map (zz l):=by rw[hr];unfold zc9;rw[zae htn,hrow]
 have hfr: ∀x∈row,x∈l:=fun x hx=>by
  have h1:=hfine x
  rw[hsj,zae htn,←hrow] at h1
  exact h1 hx
 have hrlen:r.length=row.length:=by rw[hr',List.length_map]
 have hlt:d.label[t]=d.label.getD t 0:=by rw[List.getD_eq_getElem?_getD,List.getElem?_eq_getElem htl2];rfl
 have hlab:(zbi d l).take (j+1)=(zbi d l).take j++[d.label.getD t 0]:=by
  have hjl:j< (zbi d l).length:=by unfold zbi;rw[List.length_map];exact hj
  rw[List.take_succ_eq_append_getElem hjl]
  congr 2
  simp only[zbi,List.getElem_map,hsj,Int.toNat_natCast]
 have hlj:((zbi d l).take j).length=j:=by rw[List.length_take];unfold zbi;rw[List.length_map];omega
 have hrj:zc9 d l l[j]=r:=by rw[hsj,hr]
 have had:Adr an:=O.rn.adr Ko
 have had2:Adr al:=O.rl.adr (by rw[List.length_map];omega)
 have had3:Adr ah:=hrh.adr (by rw[List.length_map];omega)
 have had4:Adr an3:=hr3.adr (by rw[List.length_map,List.length_map,List.length_range];omega)
 have hjb:j<65536:=by
  have h1:=hO.len
  omega
 refine Tri.sepT fun hs0=>?_
 have hE:=hs0
 try simp only[zzs] at hE
 repeat(obtain⟨hx',hE⟩:=hE)
 refine Tri.piece (f:=Tryz.f62) rfl ?_
 refine Tri.runS tok [0,1,2,4,5,6,7,8,10,11,12,13,16,27,37,38,39,40,50,51,52,53,61] (.seq .run (.seq .run (.seq .run (.seq .run .cut)))) Kk ?_
 repeat' first
  |with_reducible first|refine Nx.go ?_ |refine Bk.go (fun _=>?_) fun _=>?_ |refine Nb fun nb hnb hnb1 hnb2=>?_ |refine Nr fun nb nsp ncap hnb hncap hnb1 hnb2=>?_
  |simp -dsimp -implicitDefEqProofs (disch:=first|exact Kd|fail) only[go_sem,↓reduceIte,seval, -List.reduceReplicate,List.toList_toArray,hCl,hCw,hCn,hCx,hw,hl2,hg1,hg2,hputN,hputL,Row.obj hrh,Row.obj O.rn,e1,Row.obj O.rl,Row.obj hr3,List.getElem_map,hsj,hlt,Int.toNat_natCast,Nat.sub_self,List.replicate_zero]
 revert nb
 intro br hbr hbr1 hbr2
 rw[show List.replicate row.length (Value.int .i64 0)=(zbr r 0).map (Value.int .i64) by rw[←hrlen,zfK]]
 refine Tri.loopU tok [0,1,2,4,5,6,7,8,10,11,12,13,16,27,37,38,39,40,50,51,52,53,61] Kk [0,1,2,4,5,6,7,8,10,11,37,38,39,50,51,52] (fun q G' fr H'=> ∃k:Nat,k+q=row.length∧G'=G∧H'=(br, .cells ((zbr r k).map (Value.int .i64)) [] 3):: (b7, .cells (zd d vn vl vs) [] 27):: (b2, .cells C [] 27):: (kn++(kl++H))∧fr=[(0,v0),(1,v1),(2, .pointer (some ⟨b2,0,none⟩)),(4, .pointer (some ⟨b4,0,none⟩)),(5, .int .i64 0),(6, .slice an3 d.label.length cn3),(7,v7),(8, .pointer (some ⟨b7,0,none⟩)),(10, .int .i64 (t:Nat)),(11, .slice (some ⟨br,0,none⟩) row.length row.length),(37, .slice ah l.length ch),(38, .int .i64 l.length),(39, .int .i64 (j:Nat)),(50, .slice b row.length c),(51, .int .i64 row.length),(52, .int .i64 (k:Nat))]) (row.length) ?_ ?_
 ·refine Upd.now ?_
  exact⟨0,by omega,rfl,rfl,rfl⟩
 ·rintro q G1 fr H' hle hs ⟨k,hk,rfl,rfl,rfl⟩
  have hpl:(zbr r k).length=row.length:=by rw[zgL r Ko,hrlen]
  by_cases hkl:k<row.length
  ·have hE:=hs
   try simp only[zzs] at hE
   repeat(obtain⟨hx',hE⟩:=hE)
   have hkr:k<r.length:=by omega
   have had5:Adr b:=e2.adr (by rw[List.length_map];omega)
   have hx:=hrng _ (List.getElem_mem hkl)
   obtain⟨y,hxy⟩:=Int.eq_ofNat_of_zero_le hx.1
   have hym:y<d.label.length:=by omega
   have hval:zz l (y:Nat)=r[k]:=by
    simp only[hr',List.getElem_map]
    rw[hxy]
   have hpos:0≤r[k]:=by
    rw[←hval]
    refine zeG.2 ?_
    rw[←hxy]
    exact hfr _ (List.getElem_mem hkl)
   have hput:=zgM hkr
   repeat' first
    |with_reducible first|refine Nx.go ?_ |refine Bk.go (fun _=>?_) fun _=>?_ |refine Nb fun nb hnb hnb1 hnb2=>?_ |refine Nr fun nb nsp ncap hnb hncap hnb1 hnb2=>?_
    |simp -dsimp -implicitDefEqProofs (disch:=first|exact Kd|fail) only[go_sem,↓reduceIte,seval, -List.reduceReplicate,Row.obj e2,Row.obj hr3,List.getElem_map,List.getElem_range,hxy,hval,hput,hpl,Int.toNat_natCast]
   all_goals try(exfalso;omega)
   refine Upd.now ?_
   exact⟨q - 1,by omega,k+1,by omega,rfl,rfl,rfl⟩
  ·obtain rfl:k=row.length:=by omega
   have hpa:zbr r row.length=r:=by rw[←hrlen];exact ziR r
   rw[hpa] at hs⊢
   rcases hout with ⟨hj0,rfl,rfl⟩| ⟨bn,c1,rv,sp1,rfl,rfl,hrv,hc1,hrws⟩
   ·have hE:=hs
    try simp only[zzs] at hE
    repeat(obtain⟨hx',hE⟩:=hE)
    repeat' first
     |with_reducible first|refine Nx.go ?_ |refine Bk.go (fun _=>?_) fun _=>?_ |refine Nb fun nb hnb hnb1 hnb2=>?_ |refine Nr fun nb nsp ncap hnb hncap hnb1 hnb2=>?_
     |simp -dsimp -implicitDefEqProofs (disch:=first|exact Kd|fail) only[go_sem,↓reduceIte,seval, -List.reduceReplicate,List.length_map,hlj,List.replicate_one,List.toList_toArray,hCl,hCw,hCn,hCx,hw,hl2,hg1,hg2,hputN,hputL,Row.obj hrh,Row.obj O.rn,e1,Row.obj O.rl,Row.obj hr3,List.getElem_map,hsj,hlt,Int.toNat_natCast,Nat.sub_self,List.replicate_zero]
    refine Tri.upd (Upd.go (H':=(b7, .cells (zd d (.slice (some ⟨nb,0,none⟩) 1 ncap) vl vs) [] 27):: (b2, .cells C [] 27):: (kl++((br, .cells (r.map (Value.int .i64)) [] 3):: (nb, .cells [.slice (some ⟨br,0,none⟩) row.length row.length] nsp 24)::H))) Ks (Upd.now ?_))
    refine Tri.live [0,1,2,4,5,6,7,8,10,37,38,39] ?_
    refine Tri.isPiece [1,1,1,1,1,0,1,0,0,1,1,0,0,1,1,1,1] Tryz.f62 Kk ?_
    refine Tri.onlyN (zup O hj hjb htl2 hsj hlab0) fun G5 l5 H5 hle5 hs5 hM=>?_
    obtain⟨vl',kl',rfl,hlab1,hfr,rfl⟩:=hM
    rw[zdv]
    have hE:=hs5
    try simp only[zzs] at hE
    repeat(obtain⟨hx',hE⟩:=hE)
    refine Upd.go (H':=(br, .cells (r.map (Value.int .i64)) [] 3):: (b7, .cells (zd d (.slice (some ⟨nb,0,none⟩) 1 ncap) vl' vs) [] 27):: (b2, .cells C [] 27):: ([(nb, .cells [.slice (some ⟨br,0,none⟩) row.length row.length] nsp 24)]++(kl'++H))) Ks (Upd.shareRow Ka fun G6 hle6 hs6 hr6=>?_)
    refine⟨_,vl',_,kl',hle6, .inr ⟨nb,ncap,_,nsp,by rw[hj0],rfl,by rw[hj0];rfl,by omega,fun i h h2 h3=>?_⟩,hlab1,hfr,rfl⟩
    obtain rfl:i=0:=by omega
    obtain rfl:j=0:=hj0
    refine⟨some ⟨br,0,none⟩,row.length,?_,?_,?_⟩
    ·rw[hrj,hrlen];rfl
    ·rw[hrj];exact hr6
    ·rw[hrj,hrlen];exact Nat.le_refl _
   ·have hE:=hs
    try simp only[zzs] at hE
    repeat(obtain⟨hx',hE⟩:=hE)
    repeat' first
     |with_reducible first|refine Nx.go ?_ |refine Bk.go (fun _=>?_) fun _=>?_ |refine Nb fun nb hnb hnb1 hnb2=>?_ |refine Nr fun nb nsp ncap hnb hncap hnb1 hnb2=>?_
     |simp -dsimp -implicitDefEqProofs (disch:=first|exact Kd|fail) only[go_sem,↓reduceIte,seval, -List.reduceReplicate,List.length_map,hlj,List.replicate_one,List.toList_toArray,hCl,hCw,hCn,hCx,hw,hl2,hg1,hg2,hputN,hputL,Row.obj hrh,Row.obj O.rn,e1,Row.obj O.rl,Row.obj hr3,List.getElem_map,hsj,hlt,Int.toNat_natCast,Nat.sub_self,List.replicate_zero]
    refine Tri.upd (Upd.go (H':=(b7, .cells (zd d (.slice (some ⟨nb,0,none⟩) (j+1) ncap) vl vs) [] 27):: (b2, .cells C [] 27):: (kl++((br, .cells (r.map (Value.int .i64)) [] 3):: (nb, .cells (rv++[.slice (some ⟨br,0,none⟩) row.length row.length]) nsp 24)::H))) Ks (Upd.now ?_))
    refine Tri.live [0,1,2,4,5,6,7,8,10,37,38,39] ?_
    refine Tri.isPiece [1,1,1,1,1,0,1,0,0,1,1,0,0,1,1,1,1] Tryz.f62 Kk ?_
    refine Tri.onlyN (zup O hj hjb htl2 hsj hlab0) fun G5 l5 H5 hle5 hs5 hM=>?_
    obtain⟨vl',kl',rfl,hlab1,hfr,rfl⟩:=hM
    rw[zdv]
    have hE:=hs5
    try simp only[zzs] at hE
    repeat(obtain⟨hx',hE⟩:=hE)
    refine Upd.go (H':=(br, .cells (r.map (Value.int .i64)) [] 3):: (b7, .cells (zd d (.slice (some ⟨nb,0,none⟩) (j+1) ncap) vl' vs) [] 27):: (b2, .cells C [] 27):: ([(nb, .cells (rv++[.slice (some ⟨br,0,none⟩) row.length row.length]) nsp 24)]++(kl'++H))) Ks (Upd.shareRow Ka fun G6 hle6 hs6 hr6=>?_)
    refine⟨_,vl',_,kl',hle6, .inr ⟨nb,ncap,_,nsp,rfl,rfl,by rw[List.length_append,hrv];rfl,by omega,fun i h h2 h3=>?_⟩,hlab1,hfr,rfl⟩
    rcases Nat.lt_or_ge i j with hij|hij
    ·obtain⟨b',c',f1,f2,f3⟩:=hrws i hij Ko h3
     exact⟨b',c',by rw[List.getElem_append_left Ko];exact f1,f2.mono hle6,f3⟩
    ·obtain rfl:i=j:=by omega
     refine⟨some ⟨br,0,none⟩,row.length,?_,?_,?_⟩
     ·rw[hrj,hrlen,List.getElem_append_right Ko];simp [hrv]
     ·rw[hrj];exact hr6
     ·rw[hrj,hrlen];exact Nat.le_refl _
theorem zAt {d:DfaT} (hsm:zx d) (hok:zc d) {l:List Int} (hO:za1 d.label.length l) {C:List Value} {an al ay:Option Addr} {cn cl cs:Nat} {rs:List Value} {G:za} {H:zb} (O:OpenD G d C an al ay cn cl cs rs) {v0 v1 v7:Value} {b2 b4 b7:Nat} {an3 ah:Option Addr} {cn3 ch:Nat} (hr3:Row G an3 (((List.range d.label.length).map fun t:Nat=>zz l (t:Int)).map (Value.int .i64))) (hrh:Row G ah ((l).map (Value.int .i64))) {j:Nat} (hj:j<l.length) {B7:List Value} (hbad: ¬zly d l (l[j]'hj)):
  Tri Tryz.prog Tryz.f62.ntmps (piece [1,1,1,1,1,0,1,0,0,1,1,0,0] Tryz.f62) G [(0,v0),(1,v1),(2, .pointer (some ⟨b2,0,none⟩)),(4, .pointer (some ⟨b4,0,none⟩)),(5, .int .i64 0),(6, .slice an3 d.label.length cn3),(7,v7),(8, .pointer (some ⟨b7,0,none⟩)),(37, .slice ah l.length ch),(38, .int .i64 l.length),(39, .int .i64 (j:Nat))] ((b4, .cells zI [] 27):: (b7, .cells B7 [] 27):: (b2, .cells C [] 27)::H) (onlyR fun G' fr' H'=>PLe G G'∧zD [4,5] fr'=[(4, .pointer (some ⟨b4,0,none⟩)),(5, .int .i64 1)]∧H'=(b4, .cells zI [] 27)::H):=by
 obtain⟨hm1,hm2,hm3,hm4,hm5⟩:=id hsm
 obtain⟨hk1,hk2,hk3,hk4,hk5,hk6,hk7⟩:=id hok
 have hal:(((List.range d.label.length).map fun t:Nat=>zz l (t:Int)).map (Value.int .i64)).length=d.label.length:=by rw[List.length_map,List.length_map,List.length_range]
 have hCl:=O.len
 have hCw:=O.w
 have hCn:=O.n
 have hCx:=O.l
 have hjm:=hO.2 _ (List.getElem_mem hj)
 obtain⟨t,hsj⟩:=Int.eq_ofNat_of_zero_le hjm.1
 have htl:t<d.label.length:=by omega
 have htn:t<d.next.length:=by omega
 have htl2:t<d.label.length:=by omega
 have htv:t<rs.length:=by have:=O.rnl;omega
 obtain⟨b,c,e1,e2,e3⟩:=O.rs t htn htv
 obtain⟨hw0,hlt0,hlt1,hrng⟩:=hk7 t htn htl2
 obtain⟨row,hrow⟩: ∃row,row=d.next[t]:=⟨_,rfl⟩
 have hrl:=hm2 _ (List.getElem_mem htn)
 rw[←hrow] at e1 e2 e3 hw0 hrng hrl
 have hw:d.width=(row.length:Int):=hw0.symm
 obtain⟨r,hr⟩: ∃r,r=zc9 d l (t:Nat):=⟨_,rfl⟩
 have hr':r=row.map (zz l):=by rw[hr];unfold zc9;rw[zae htn,hrow]
 have hfr: ¬ ∀x∈row,x∈l:=fun h=>hbad fun y hy=>by
  rw[hsj,zae htn,←hrow] at hy
  exact h y hy
 have hrlen:r.length=row.length:=by rw[hr',List.length_map]
 have had:Adr an:=O.rn.adr Ko
 have had3:Adr ah:=hrh.adr (by rw[List.length_map];omega)
 have had4:Adr an3:=hr3.adr (by rw[List.length_map,List.length_map,List.length_range];omega)
 have hjb:j<65536:=by
  have h1:=hO.len
  omega
 refine Tri.sepT fun hs0=>?_
 have hE:=hs0
 try simp only[zzs] at hE
 repeat(obtain⟨hx',hE⟩:=hE)
 refine Tri.piece (f:=Tryz.f62) rfl ?_
 refine Tri.run tok [0,1,2,4,5,6,7,8,10,11,12,13,16,27,37,38,39,40,50,51,52,53,61] Kk ?_
 repeat' first
  |with_reducible first|refine Nx.go ?_ |refine Bk.go (fun _=>?_) fun _=>?_ |refine Nb fun nb hnb hnb1 hnb2=>?_ |refine Nr fun nb nsp ncap hnb hncap hnb1 hnb2=>?_
  |simp -dsimp -implicitDefEqProofs (disch:=first|exact Kd|fail) only[go_sem,↓reduceIte,seval, -List.reduceReplicate,List.toList_toArray,hCl,hCw,hCn,hCx,hw,Row.obj hrh,Row.obj O.rn,e1,Row.obj hr3,List.getElem_map,hsj,Int.toNat_natCast,Nat.sub_self,List.replicate_zero]
 revert nb
 intro br hbr hbr1 hbr2
 rw[show List.replicate row.length (Value.int .i64 0)=(zbr r 0).map (Value.int .i64) by rw[←hrlen,zfK]]
 refine Tri.loopU tok [0,1,2,4,5,6,7,8,10,11,12,13,16,27,37,38,39,40,50,51,52,53,61] Kk [0,1,2,4,5,6,7,8,10,11,37,38,39,50,51,52] (fun q G' fr H'=> ∃k:Nat,k+q=row.length∧(∀i (h:i<row.length),i<k→row[i]∈l)∧G'=G∧H'=(br, .cells ((zbr r k).map (Value.int .i64)) [] 3):: (b4, .cells zI [] 27):: (b7, .cells B7 [] 27):: (b2, .cells C [] 27)::H∧fr=[(0,v0),(1,v1),(2, .pointer (some ⟨b2,0,none⟩)),(4, .pointer (some ⟨b4,0,none⟩)),(5, .int .i64 0),(6, .slice an3 d.label.length cn3),(7,v7),(8, .pointer (some ⟨b7,0,none⟩)),(10, .int .i64 (t:Nat)),(11, .slice (some ⟨br,0,none⟩) row.length row.length),(37, .slice ah l.length ch),(38, .int .i64 l.length),(39, .int .i64 (j:Nat)),(50, .slice b row.length c),(51, .int .i64 row.length),(52, .int .i64 (k:Nat))]) (row.length) ?_ ?_
 ·refine Upd.now ?_
  exact⟨0,by omega,fun i h h2=>by omega,rfl,rfl,rfl⟩
 ·rintro q G1 fr H' hle hs ⟨k,hk,hall,rfl,rfl,rfl⟩
  have hpl:(zbr r k).length=row.length:=by rw[zgL r Ko,hrlen]
  by_cases hkl:k<row.length
  ·have hE:=hs
   try simp only[zzs] at hE
   repeat(obtain⟨hx',hE⟩:=hE)
   have hkr:k<r.length:=by omega
   have had5:Adr b:=e2.adr (by rw[List.length_map];omega)
   have hx:=hrng _ (List.getElem_mem hkl)
   obtain⟨y,hxy⟩:=Int.eq_ofNat_of_zero_le hx.1
   have hym:y<d.label.length:=by omega
   have hval:zz l (y:Nat)=r[k]:=by
    simp only[hr',List.getElem_map]
    rw[hxy]
   have hput:=zgM hkr
   by_cases hin:row[k]∈l
   ·have hpos:0≤r[k]:=by
     rw[←hval]
     refine zeG.2 ?_
     rw[←hxy]
     exact hin
    repeat' first
     |with_reducible first|refine Nx.go ?_ |refine Bk.go (fun _=>?_) fun _=>?_ |refine Nb fun nb hnb hnb1 hnb2=>?_ |refine Nr fun nb nsp ncap hnb hncap hnb1 hnb2=>?_
     |simp -dsimp -implicitDefEqProofs (disch:=first|exact Kd|fail) only[go_sem,↓reduceIte,seval, -List.reduceReplicate,Row.obj e2,Row.obj hr3,List.getElem_map,List.getElem_range,hxy,hval,hput,hpl,Int.toNat_natCast]
    all_goals try(exfalso;omega)
    refine Upd.now ?_
    exact⟨q - 1,by omega,k+1,by omega,fun i h h2=>by
     by_cases e:i=k
     ·subst e;exact hin
     ·exact hall i h Ko,rfl,rfl,rfl⟩
   ·have hneg:r[k] <0:=by
     rw[←hval]
     rcases Int.lt_or_le (zz l (y:Int)) 0 with h|h
     ·exact h
     ·exact absurd (hxy▸zeG.1 h) hin
    repeat' first
     |with_reducible first|refine Nx.go ?_ |refine Bk.go (fun _=>?_) fun _=>?_ |refine Nb fun nb hnb hnb1 hnb2=>?_ |refine Nr fun nb nsp ncap hnb hncap hnb1 hnb2=>?_
     |simp -dsimp -implicitDefEqProofs (disch:=first|exact Kd|fail) only[go_sem,↓reduceIte,seval, -List.reduceReplicate,Row.obj e2,Row.obj hr3,List.getElem_map,List.getElem_range,hxy,hval,hpl,Int.toNat_natCast,zn,zad,zaf,zaw]
    all_goals try(exfalso;omega)
    exact Upd.go (H':=(b4, .cells zI [] 27)::H) Ks (Upd.now ⟨hle,rfl,rfl⟩)
  ·exact absurd (fun x hx=>by
    obtain⟨i,hi,rfl⟩:=List.getElem_of_mem hx
    exact hall i hi Ko) hfr
end Go.Proofs.YtomdbjfdbkejoaaGreatDoor
namespace Go.Proofs.YtomdbjfdbkejoaaGreatDoor
open Go Go.V Go.Proofs
theorem zzb {d:DfaT} (hsm:zx d) {l:List Int} (hl:l.length≤2000000) {G:za} {H:zb} {R:Value→za→zb→Prop} {v w:Value} (hv:IsD G d v) (hwl:Sl G (Value.int .i64) w l)
  (hR: ∀G' v',PLe G G'→Sep G' (zm H)→IsD G' (zfO d l).1 v'→R (.tuple #[v', .int .i64 (zfO d l).2]) G' H):FnT Tryz.prog 62 [v,w] G H R:=by
 obtain⟨C,an,al,ay,cn,cl,cs,rs,rfl,O⟩:=hv.opened
 obtain⟨hm1,hm2,hm3,hm4,hm5⟩:=id hsm
 have hw0:=hwl
 obtain⟨aw,cw,rfl,hroww,hcw⟩:=hwl
 have hCl:=O.len
 have hCa:=O.all
 have hCx:=O.l
 refine FnT.sep ?_
 by_cases hok:zc d
 ·obtain⟨hk1,hk2,hk3,hk4,hk5,hk6,hk7⟩:=id hok
  have hb:=zK hok
  have hl2: ∀a b c:Value,(zd d a b c).length=260:=fun a b c=>zat O.ofl _ _ _
  have ht2: ∀a b c:Value,List.take 260 (zd d a b c)=zd d a b c:=fun a b c=>zdM O.ofl _ _ _
  have hputz: ∀a b c:Value,zf zI 0 (zd d a b c)=zd d a b c:=fun a b c=>by
   unfold zf
   rw[List.take_zero,List.nil_append,List.drop_of_length_le (by rw[zn,hl2];omega),List.append_nil]
  refine FnT.bodyS tok [0,1,2,4,5,6,7,8,10,11,12,13,16,27,37,38,39,40,50,51,52,53,61] (.seq .run (.seq .run (.seq .run (.seq .run (.seq .cut .cut))))) Tryz.func62 rfl Kk Kk (by show _≤89;simp) fun hsep=>?_
  rw[Tryz.results62]
  have hE:=hsep
  try simp only[zzs] at hE
  repeat(obtain⟨hx',hE⟩:=hE)
  repeat' first
   |with_reducible first|refine Nx.go ?_ |refine Bk.go (fun _=>?_) fun _=>?_ |refine Nb fun nb hnb hnb1 hnb2=>?_ |refine Nr fun nb nsp ncap hnb hncap hnb1 hnb2=>?_
   |simp -dsimp -implicitDefEqProofs (disch:=first|exact Kd|fail) only[go_sem,↓reduceIte,seval, -List.reduceReplicate,List.toList_toArray,hCl,hCa,hCx,hb]
   |with_reducible refine zaE hsm O.is ?_
  rename_i b2 hb20 hb21 hb22
  obtain⟨b4,e0⟩: ∃x,x=nb:=⟨_,rfl⟩
  subst e0
  refine FnT.upd (zwp hk1 hk2 hl hw0 (fun G2 b hle2 hs2 hO=>?_) (fun G2 hle2 hs2 hno=>?_))
  ·refine Upd.shareRow hs2.1.1 fun G3 hle3 hs3 hr3=>?_
   rw[zwq] at hr3
   have hE:=hs3
   try simp only[zzs] at hE
   repeat(obtain⟨hx',hE⟩:=hE)
   have k3:=hle2.trans hle3
   have O3:=O.mono k3
   by_cases hh:l.head? =some 0
   ·rw[decide_eq_true hh]
    repeat' first
     |with_reducible first|refine Nx.go ?_ |refine Bk.go (fun _=>?_) fun _=>?_ |refine Nb fun nb hnb hnb1 hnb2=>?_ |refine Nr fun nb nsp ncap hnb hncap hnb1 hnb2=>?_
     |simp -dsimp -implicitDefEqProofs (disch:=first|exact Kd|fail) only[go_sem,↓reduceIte,seval, -List.reduceReplicate,List.toList_toArray]
    refine Tri.isPiece [1,1,1,1,0] Tryz.f62 Kk ?_
    refine Tri.live [0,1,2,4,5,6,7] ?_
    refine Tri.onlyN (zAs hsm O3) fun G4 l4 H4 hle4 hs4 hM=>?_
    obtain⟨b7,vs,_,hvs,hfr,rfl⟩:=hM
    simp only[go_sem]
    refine Tri.live [0,1,2,4,5,6,7,8] ?_
    rw[hfr]
    have hE:=hs4
    try simp only[zzs] at hE
    repeat(obtain⟨hx',hE⟩:=hE)
    have O4:=O3.mono hle4
    obtain⟨ay4,cy4,rfl,hr4y,hcy4⟩:=id hvs
    refine Tri.run tok [0,1,2,4,5,6,7,8,10,11,12,13,16,27,37,38,39,40,50,51,52,53,61] Kk ?_
    repeat' first
     |with_reducible first|refine Nx.go ?_ |refine Bk.go (fun _=>?_) fun _=>?_ |refine Nb fun nb hnb hnb1 hnb2=>?_ |refine Nr fun nb nsp ncap hnb hncap hnb1 hnb2=>?_
     |simp -dsimp -implicitDefEqProofs (disch:=first|exact Kd|fail) only[go_sem,↓reduceIte,seval, -List.reduceReplicate,List.toList_toArray]
    have hln:l.length≤d.label.length:=hO.len
    have hpos:0<l.length:=by
     rcases l with _| ⟨x,l⟩
     ·cases hh
     ·simp
    refine Tri.loopS tok [0,1,2,4,5,6,7,8,10,11,12,13,16,27,37,38,39,40,50,51,52,53,61] (.seq .run (.seq .run (.seq (.block .cut) .cut))) Kk [0,1,2,4,5,6,7,8,37,38,39] (fun q G' fr H'=> ∃ (j:Nat) (vn vl:Value) (kn kl:zb),j+q=l.length∧PLe G4 G'∧(∀i (h:i<l.length),i<j→zly d l l[i])∧zwr d l G' j vn kn∧zoQ d l j vl kl∧H'=(b7, .cells (zd d vn vl (.slice ay4 d.names.length cy4)) [] 27):: (b2, .cells C [] 27):: (kn++(kl++((b4, .cells zI [] 27)::H)))∧fr=[(0, .agg (List.toArray C)),(1, .slice aw l.length cw),(2, .pointer (some ⟨b2,0,none⟩)),(4, .pointer (some ⟨b4,0,none⟩)),(5, .int .i64 0),(6, .slice (some ⟨b,0,none⟩) d.label.length d.label.length),(7, .bool true),(8, .pointer (some ⟨b7,0,none⟩)),(37, .slice aw l.length cw),(38, .int .i64 l.length),(39, .int .i64 (j:Nat))]) (l.length) ?_ ?_
    ·exact Upd.go (H':=(b7, .cells (zd d (.slice none 0 0) (.slice none 0 0) (.slice ay4 d.names.length cy4)) [] 27):: (b2, .cells C [] 27):: ([]++([]++((b4, .cells zI [] 27)::H)))) Ks (Upd.now ⟨0,_,_,[],[],by omega,PLe.refl _,fun i h h2=>by omega, .inl ⟨rfl,rfl,rfl⟩, .inl ⟨rfl,rfl,rfl⟩,rfl,rfl⟩)
    ·rintro q G6 fr H' hle6 hs6 ⟨j,vn,vl,kn,kl,hj,hleG6,hfine,hro,hlo,rfl,rfl⟩
     have O6:=O4.mono hleG6
     have k6:=(k3.trans hle4).trans hleG6
     by_cases hjl:j<l.length
     ·by_cases hfj:zly d l l[j]
      ·repeat' first
        |with_reducible first|refine Nx.go ?_ |refine Bk.go (fun _=>?_) fun _=>?_ |refine Nb fun nb hnb hnb1 hnb2=>?_ |refine Nr fun nb nsp ncap hnb hncap hnb1 hnb2=>?_
        |simp -dsimp -implicitDefEqProofs (disch:=first|exact Kd|fail) only[go_sem,↓reduceIte,seval, -List.reduceReplicate,List.toList_toArray]
       refine Tri.live [0,1,2,4,5,6,7,8,37,38,39] ?_
       refine Tri.isPiece [1,1,1,1,1,0,1,0,0,1,1,0,0] Tryz.f62 Kk ?_
       refine Tri.onlyN (zAO hsm hok hO O6 ((hr3.mono hle4).mono hleG6) (hroww.mono k6) hjl hro hlo rfl hfj) fun G7 l7 H7 hle7 hs7 hM=>?_
       obtain⟨vn',vl',kn',kl',_,hro',hlo',hfr',rfl⟩:=hM
       simp only[go_sem]
       refine Tri.live [0,1,2,4,5,6,7,8,37,38,39] ?_
       rw[hfr']
       refine Tri.run tok [0,1,2,4,5,6,7,8,10,11,12,13,16,27,37,38,39,40,50,51,52,53,61] Kk ?_
       repeat' first
        |with_reducible first|refine Nx.go ?_ |refine Bk.go (fun _=>?_) fun _=>?_ |refine Nb fun nb hnb hnb1 hnb2=>?_ |refine Nr fun nb nsp ncap hnb hncap hnb1 hnb2=>?_
        |simp -dsimp -implicitDefEqProofs (disch:=first|exact Kd|fail) only[go_sem,↓reduceIte,seval, -List.reduceReplicate,List.toList_toArray]
       refine Upd.now ?_
       exact⟨q - 1,by omega,j+1,vn',vl',kn',kl',by omega,hleG6.trans hle7,fun i h h2=>by
        by_cases e:i=j
        ·subst e;exact hfj
        ·exact hfine i h Ko,hro',hlo',rfl,rfl⟩
      ·have hno: ¬zcv d l:=fun h=>hfj (h.2 _ (List.getElem_mem hjl))
       rw[zi2 hok hno] at hR
       repeat' first
        |with_reducible first|refine Nx.go ?_ |refine Bk.go (fun _=>?_) fun _=>?_ |refine Nb fun nb hnb hnb1 hnb2=>?_ |refine Nr fun nb nsp ncap hnb hncap hnb1 hnb2=>?_
        |simp -dsimp -implicitDefEqProofs (disch:=first|exact Kd|fail) only[go_sem,↓reduceIte,seval, -List.reduceReplicate,List.toList_toArray]
       refine Tri.live [0,1,2,4,5,6,7,8,37,38,39] ?_
       refine Tri.upd (Upd.go (H':=(b4, .cells zI [] 27):: (b7, .cells (zd d vn vl (.slice ay4 d.names.length cy4)) [] 27):: (b2, .cells C [] 27):: (kn++(kl++H))) Ks (Upd.now ?_))
       refine Tri.isPiece [1,1,1,1,1,0,1,0,0,1,1,0,0] Tryz.f62 Kk ?_
       refine Tri.onlyR (zAt hsm hok hO O6 ((hr3.mono hle4).mono hleG6) (hroww.mono k6) hjl hfj) fun G7 l7 H7 hle7 hs7 hM=>?_
       obtain⟨_,hfr',rfl⟩:=hM
       have hE:=hs7
       try simp only[zzs] at hE
       repeat(obtain⟨hx',hE⟩:=hE)
       have h4:V.look l7 4=some (.pointer (some ⟨b4,0,none⟩)):=zaP [4,5] l7 4 _ (by rw[hfr'];rfl)
       have h5:V.look l7 5=some (.int .i64 1):=zaP [4,5] l7 5 _ (by rw[hfr'];rfl)
       repeat' first
        |with_reducible first|refine Nx.go ?_ |refine Bk.go (fun _=>?_) fun _=>?_ |refine Nb fun nb hnb hnb1 hnb2=>?_ |refine Nr fun nb nsp ncap hnb hncap hnb1 hnb2=>?_
        |simp -dsimp -implicitDefEqProofs (disch:=first|exact Kd|fail) only[go_sem,↓reduceIte,seval, -List.reduceReplicate,List.toList_toArray,h4,h5,zn,zad,zaf,zaw]
       unfold zv
       refine Upd.leave (H':=H) Ks ?_
       exact fun _ hs=>hR G7 _ (k6.trans hle7) hs (za2 _)
     ·obtain rfl:j=l.length:=by omega
      have hko:zcv d l:=⟨⟨hO,hh⟩,fun x hx=>by
       obtain⟨i,hi,rfl⟩:=List.getElem_of_mem hx
       exact hfine i hi hi⟩
      rw[zoP hok hko] at hR
      rcases hro with ⟨hj0,_,_⟩| ⟨bn,c1,rv,sp1,rfl,rfl,hrv,hc1,hrws⟩
      ·exact absurd hj0 Ko
      rcases hlo with ⟨hj0,_,_⟩| ⟨bl,c2,sp2,rfl,rfl,hc2⟩
      ·exact absurd hj0 Ko
      have hE:=hs6
      try simp only[zzs] at hE
      repeat(obtain⟨hx',hE⟩:=hE)
      have hone:=zbe (d:=d) (vn:= .slice (some ⟨bn,0,none⟩) l.length c1) (vl:= .slice (some ⟨bl,0,none⟩) l.length c2) (vs:= .slice ay4 d.names.length cy4) rfl rfl rfl
      have hLl:(zbi d l).length=l.length:=by unfold zbi;rw[List.length_map]
      rw[show(zbi d l).take l.length=zbi d l by rw[←hLl,List.take_length]]
      repeat' first
       |with_reducible first|refine Nx.go ?_ |refine Bk.go (fun _=>?_) fun _=>?_ |refine Nb fun nb hnb hnb1 hnb2=>?_ |refine Nr fun nb nsp ncap hnb hncap hnb1 hnb2=>?_
       |simp -dsimp -implicitDefEqProofs (disch:=first|exact Kd|fail) only[go_sem,↓reduceIte,seval, -List.reduceReplicate,List.toList_toArray,hl2,ht2,hputz,hone,zn]
      unfold zv
      refine Upd.go (H':=(bn, .cells rv sp1 24):: (bl, .cells ((zbi d l).map (Value.int .i64)) sp2 3)::H) Ks (Upd.trans (Upd.shareRow Ka fun G7 hle7 hs7 hr7=>?_))
      refine Upd.shareRow hs7.1.1 fun G8 hle8 hs8 hr8=>?_
      have k8:=hle7.trans hle8
      refine fun _ hs=>hR G8 _ (k6.trans k8) hs ?_
      refine⟨O.ofl,O.ofb,_,_,_,rfl,⟨some ⟨bn,0,none⟩,c1,rv,?_,hr7.mono hle8,?_,?_,fun i h h2=>?_⟩,⟨some ⟨bl,0,none⟩,c2,?_,hr8,?_⟩,⟨ay4,cy4,rfl,hr4y.mono (hleG6.trans k8),hcy4⟩⟩
      ·simp only[zah,List.length_map]
      ·simp only[zah,List.length_map];exact hrv
      ·simp only[zah,List.length_map];omega
      ·have hi:i<l.length:=by simp only[zah,List.length_map] at h;exact h
       obtain⟨b',c',f1,f2,f3⟩:=hrws i hi h2 hi
       refine⟨b',c',?_,?_,?_⟩
       ·simp only[zah,List.getElem_map];exact f1
       ·simp only[zah,List.getElem_map];exact f2.mono k8
       ·simp only[zah,List.getElem_map];exact f3
      ·simp only[zah,hLl]
      ·simp only[zah,hLl];omega
   ·rw[decide_eq_false hh]
    have hno: ¬zcv d l:=fun h=>hh h.1.2
    rw[zi2 hok hno] at hR
    repeat' first
     |with_reducible first|refine Nx.go ?_ |refine Bk.go (fun _=>?_) fun _=>?_ |refine Nb fun nb hnb hnb1 hnb2=>?_ |refine Nr fun nb nsp ncap hnb hncap hnb1 hnb2=>?_
     |simp -dsimp -implicitDefEqProofs (disch:=first|exact Kd|fail) only[go_sem,↓reduceIte,seval, -List.reduceReplicate,List.toList_toArray,zn,zad,zaf,zaw]
    unfold zv
    refine Upd.leave (H':=H) Ks ?_
    exact fun _ hs=>hR G3 _ k3 hs (za2 _)
  ·have hno: ¬zcv d l:=fun h=>hno h.1.1
   rw[zi2 hok hno] at hR
   refine Upd.now ?_
   have hE:=hs2
   try simp only[zzs] at hE
   repeat(obtain⟨hx',hE⟩:=hE)
   repeat' first
    |with_reducible first|refine Nx.go ?_ |refine Bk.go (fun _=>?_) fun _=>?_ |refine Nb fun nb hnb hnb1 hnb2=>?_ |refine Nr fun nb nsp ncap hnb hncap hnb1 hnb2=>?_
    |simp -dsimp -implicitDefEqProofs (disch:=first|exact Kd|fail) only[go_sem,↓reduceIte,seval, -List.reduceReplicate,List.toList_toArray,zn,zad,zaf,zaw]
   unfold zv
   refine Upd.leave (H':=H) Ks ?_
   exact fun _ hs=>hR G2 _ hle2 hs (za2 _)
 ·have hb:=zA hok
  rw[zmQ hok] at hR
  refine FnT.body tok [0,1,2,4,5,6,7,8,10,11,12,13,16,27,37,38,39,40,50,51,52,53,61] Tryz.func62 rfl Kk Kk (by show _≤89;simp) fun hsep=>?_
  rw[Tryz.results62]
  have hE:=hsep
  try simp only[zzs] at hE
  repeat(obtain⟨hx',hE⟩:=hE)
  repeat' first
   |with_reducible first|refine Nx.go ?_ |refine Bk.go (fun _=>?_) fun _=>?_ |refine Nb fun nb hnb hnb1 hnb2=>?_ |refine Nr fun nb nsp ncap hnb hncap hnb1 hnb2=>?_
   |simp -dsimp -implicitDefEqProofs (disch:=first|exact Kd|fail) only[go_sem,↓reduceIte,seval, -List.reduceReplicate,List.toList_toArray,hCl,hCa,zn,zad,zaf,zaw,hb]
   |with_reducible refine zaE hsm O.is ?_
  unfold zv
  refine Upd.leave (H':=H) Ks ?_
  exact fun _ hs=>hR G _ (PLe.refl _) hs (za2 _)
end Go.Proofs.YtomdbjfdbkejoaaGreatDoor
namespace Go.Proofs.YtomdbjfdbkejoaaGreatDoor
open Go Go.V Go.Proofs
theorem zia {d:DfaT} (hok:zc d):za1 d.label.length [0]:=⟨by simp,fun x hx=>by rw[List.mem_singleton] at hx;have:=hok.1;omega⟩
theorem zdl {d:DfaT} (hok:zc d):za1 d.label.length (zM d):=zeZ (zia hok) (zh9 hok) _
theorem zsk (d:DfaT): ∃X,zM d=0::X:=by
 obtain⟨X,h⟩:=zf0 (zJ d) [0] 0 d.label.length
 rw[Nat.zero_add] at h
 exact⟨X,h⟩
theorem zp4 (d:DfaT):(zM d).head? =some 0:=by
 obtain⟨X,h⟩:=zsk d
 rw[h];rfl
theorem zbL {d:DfaT} (hok:zc d):zcv d (zM d):=⟨⟨zdl hok,zp4 d⟩,fun s hs=>zui (zia hok) (zh9 hok) hs⟩
def zL (d:DfaT):DfaT:=zah d (zM d)
noncomputable def zd3 (d:DfaT):DfaT×Int:=zfO d (zcV d)
theorem zgp {d:DfaT} (h:zc d):zd3 d=(zL d,0):=by
 unfold zd3
 have:zcV d=zM d:=by unfold zcV;rw[if_pos (zK h)]
 rw[this,zoP h (zbL h)];rfl
theorem zgS {d:DfaT} (h: ¬zc d):zd3 d=(zao,6):=zmQ h
theorem zfP {d:DfaT} {l:List Int} {i:Nat} (h:i<l.length):(zah d l).next[i]'(by unfold zah;simpa using h)=zc9 d l l[i]:=by simp [zah]
theorem zfd {d:DfaT} {l:List Int} {i:Nat} (h:i<l.length):(zah d l).label[i]'(by unfold zah zbi;simpa using h)=d.label.getD l[i].toNat 0:=by simp [zah,zbi]
theorem zcw (d:DfaT) (l:List Int):(zah d l).next.length=l.length∧(zah d l).label.length=l.length:=by simp [zah,zbi]
theorem zi3 {l:List Int} (h:l.Nodup) {i:Nat} (hi:i<l.length):zz l l[i]=i:=by
 unfold zz;rw[zdx h hi]
theorem zgq {l:List Int} {x:Int} (h:x∈l): ∃ (i:Nat) (hi:i<l.length),zz l x=i∧l[i]=x:=by
 obtain⟨n,hn⟩:=zab h
 obtain⟨h1,h2⟩:=z6 hn
 rw[List.getElem?_eq_getElem h1] at h2
 exact⟨n,h1,zH hn,Option.some.inj h2⟩
theorem zeH {d:DfaT} {l:List Int} (hok:zc d) (hk:zcv d l):zc (zah d l):=by
 obtain⟨hk1,hk2,hk3,hk4,hk5,hk6,hk7⟩:=id hok
 obtain⟨⟨hO,hh⟩,hf⟩:=hk
 have hl:=hO.len
 have hpos:0<l.length:=by
  rcases l with _| ⟨x,l⟩
  ·cases hh
  ·simp
 obtain⟨e1,e2⟩:=zcw d l
 refine⟨by omega,by omega,by omega,hk4,hk5,hk6,fun s h1 h2=>?_⟩
 have hs:s<l.length:=by omega
 have hx:=hO.2 _ (List.getElem_mem hs)
 obtain⟨t,ht⟩:=Int.eq_ofNat_of_zero_le hx.1
 have htn:t<d.next.length:=by omega
 obtain⟨g1,g2,g3,g4⟩:=hk7 t htn Ko
 rw[zfP hs,zfd hs]
 unfold zc9
 rw[ht,zae htn]
 refine⟨by rw[List.length_map];exact g1,?_,?_,fun y hy=>?_⟩
 ·rw[Int.toNat_natCast,List.getD_eq_getElem?_getD,List.getElem?_eq_getElem Ko,Option.getD_some];exact g2
 ·rw[Int.toNat_natCast,List.getD_eq_getElem?_getD,List.getElem?_eq_getElem Ko,Option.getD_some];exact g3
 ·rw[List.mem_map] at hy
  obtain⟨z,hz,rfl⟩:=hy
  have hzl:=hf _ (List.getElem_mem hs) z (by rw[ht,zae htn];exact hz)
  obtain⟨i,hi,h3,_⟩:=zgq hzl
  rw[h3,e2]
  omega
theorem zlz {d:DfaT} {l:List Int} {i:Nat} (h:i<l.length):zJ (zah d l) (i:Nat)=zc9 d l l[i]:=by
 rw[zae (by rw[(zcw d l).1];exact h),zfP h]
theorem zyf {d:DfaT} {l:List Int} (hok:zc d) (hof:d.of.length=256) (hk:zcv d l) {s:Int} (hs:s∈l) {c:Nat} (hc:c<256):toD d s c∈l∧toD (zah d l) (zz l s) c=zz l (toD d s c):=by
 obtain⟨hk1,hk2,hk3,hk4,hk5,hk6,hk7⟩:=id hok
 have hx:=hk.1.1.2 s hs
 obtain⟨i,hi,h1,h2⟩:=zgq hs
 obtain⟨t,rfl⟩:=Int.eq_ofNat_of_zero_le hx.1
 have htn:t<d.next.length:=by omega
 have hco:c<d.of.length:=by omega
 have hox:=zbs hok (List.getElem_mem hco)
 obtain⟨y,hy⟩:=Int.eq_ofNat_of_zero_le hox.1
 obtain⟨hw0,_,_,hrng⟩:=hk7 t htn Ko
 have hyk:y< (d.next[t]).length:=by omega
 have hoc:d.of.getD c 0=(y:Int):=by rw[List.getD_eq_getElem?_getD,List.getElem?_eq_getElem hco,Option.getD_some,hy]
 have hval:toD d (t:Nat) c=(d.next[t])[y]:=by
  unfold toD
  rw[hoc,Int.toNat_natCast,List.getD_eq_getElem?_getD,List.getElem?_eq_getElem htn,Option.getD_some,zU (by simpa using hyk)]
  simp only[Int.toNat_natCast]
 have hmem:(d.next[t])[y]∈l:=hk.2 _ hs _ (by rw[zae htn];exact List.getElem_mem hyk)
 refine⟨hval▸hmem,?_⟩
 rw[hval,h1]
 unfold toD
 have hnx:(zah d l).next.getD ((i:Nat):Int).toNat []=zc9 d l l[i]:=by
  rw[Int.toNat_natCast,List.getD_eq_getElem?_getD,List.getElem?_eq_getElem (by rw[(zcw d l).1];exact hi),Option.getD_some,zfP hi]
 have hrow:zc9 d l l[i]=(d.next[t]).map (zz l):=by unfold zc9;rw[h2,zae htn]
 rw[hnx,hrow,show(zah d l).of=d.of from rfl,hoc,zU (by rw[List.length_map];simpa using hyk)]
 simp only[Int.toNat_natCast,List.getElem_map]
theorem zgT {d:DfaT} {l:List Int} (hk:zcv d l):(0 :Int)∈l∧zz l 0=0:=by
 obtain⟨⟨hO,hh⟩,_⟩:=hk
 rcases l with _| ⟨x,l⟩
 ·cases hh
 ·rw[List.head?_cons,Option.some.injEq] at hh
  subst hh
  exact⟨List.mem_cons_self ..,zi3 hO.1 (i:=0) (by simp)⟩
theorem zws {d:DfaT} {l:List Int} (hok:zc d) (hof:d.of.length=256) (hk:zcv d l) (w:List UInt8):zaj d w∈l∧zaj (zah d l) w=zz l (zaj d w):=by
 have key: ∀i,i≤w.length→zaj d (w.take i)∈l∧zaj (zah d l) (w.take i)=zz l (zaj d (w.take i)):=by
  intro i
  induction i with
  |zero=>intro _;rw[List.take_zero];exact⟨(zgT hk).1,(zgT hk).2.symm⟩
  |succ i ih=>
   intro h
   obtain⟨h1,h2⟩:=ih Ko
   rw[zdA d w h,zdA (zah d l) w h,h2]
   exact zyf hok hof hk h1 w[i].toNat_lt
 have:=key w.length (Nat.le_refl _)
 rwa [List.take_length] at this
theorem zmR {d:DfaT} {l:List Int} (hok:zc d) (hof:d.of.length=256) (hk:zcv d l) (w:List UInt8):zX (zah d l) w=zX d w:=by
 obtain⟨h1,h2⟩:=zws hok hof hk w
 obtain⟨i,hi,h3,h4⟩:=zgq h1
 have hb:=hk.1.1.2 _ h1
 unfold zX
 rw[h2,h3,zU (by rw[(zcw d l).2];simpa using hi)]
 simp only[Int.toNat_natCast]
 rw[zfd hi,h4]
 rfl
theorem zoR {l:List Int} (hl:l.Nodup): ∀ (ts W:List Int),(∀x∈W,x∈l)→(∀x∈ts,x∈l)→addN (W.map (zz l)) (ts.map (zz l))=(addN W ts).map (zz l)
 | [],W,_,_=>rfl
 |t::ts,W,hW,hts=>by
  have ht:=hts t (List.mem_cons_self ..)
  have hadd:add1 (W.map (zz l)) (zz l t)=(add1 W t).map (zz l):=by
   unfold add1
   by_cases h:t∈W
   ·rw[if_pos h,if_pos (List.mem_map.2 ⟨t,h,rfl⟩)]
   ·have h2:zz l t∉W.map (zz l):=fun h3=>by
     obtain⟨x,hx,e⟩:=List.mem_map.1 h3
     exact h (ziN (hW x hx) ht e▸hx)
    rw[if_neg h,if_neg h2,List.map_append];rfl
  rw[List.map_cons,zcu,zcu,hadd]
  exact zoR hl ts (add1 W t) (fun x hx=>by
   rcases zeY.1 hx with h|rfl
   ·exact hW x h
   ·exact ht) fun x hx=>hts x (List.mem_cons_of_mem _ hx)
theorem zuq {d:DfaT} {l:List Int} (hk:zcv d l): ∀i,(∀x∈bw (zJ d) [0] i,x∈l)∧bw (zJ (zah d l)) [0] i=(bw (zJ d) [0] i).map (zz l)
 |0=>⟨fun x hx=>by
   have:x=0:=List.mem_singleton.1 hx
   subst this;exact(zgT hk).1,by
   show[0]=[0].map (zz l)
   rw[List.map_cons,(zgT hk).2];rfl⟩
 |i+1=>by
  obtain⟨h1,h2⟩:=zuq hk i
  rcases Nat.lt_or_ge i (bw (zJ d) [0] i).length with h|h
  ·have h':i< (bw (zJ (zah d l)) [0] i).length:=by rw[h2,List.length_map];exact h
   have hx:=h1 _ (List.getElem_mem h)
   obtain⟨j,hj,e1,e2⟩:=zgq hx
   have hon:zJ (zah d l) (bw (zJ (zah d l)) [0] i)[i]=(zJ d (bw (zJ d) [0] i)[i]).map (zz l):=by
    have:(bw (zJ (zah d l)) [0] i)[i]=(j:Nat):=by simp only[h2,List.getElem_map];exact e1
    rw[this,zlz hj,e2];rfl
   have hcl:=hk.2 _ hx
   rw[zcl h,zcl h',hon]
   refine⟨fun x hx'=>?_,?_⟩
   ·rcases zgn.1 hx' with g|g
    ·exact h1 x g
    ·exact hcl x g
   ·rw[h2]
    exact zoR hk.1.1.1 _ _ h1 hcl
  ·rw[zer h,zer (by rw[h2,List.length_map];exact h)]
   exact⟨h1,h2⟩
theorem zsl {d:DfaT} (hok:zc d):zM (zL d)=(List.range (zM d).length).map fun i:Nat=>(i:Int):=by
 have hk:=zbL hok
 have hr:=zeH hok hk
 have hO:=zdl hok
 obtain⟨_,h2⟩:=zuq hk d.label.length
 have he:bw (zJ (zah d (zM d))) [0] d.label.length=zM (zL d):=by
  refine zuh (zia hr) (zh9 hr) ?_
  rw[h2,List.length_map]
  exact hO.len
 rw[←he,h2]
 show(zM d).map (zz (zM d))=_
 apply List.ext_getElem
 ·simp
 ·intro i h1 h3
  rw[List.length_map] at h1
  simp only[List.getElem_map,List.getElem_range]
  exact zi3 hO.1 h1
theorem zi4 {n:Nat} {x:Int} (h:0≤x∧x<n):zz ((List.range n).map fun i:Nat=>(i:Int)) x=x:=by
 obtain⟨i,rfl⟩:=Int.eq_ofNat_of_zero_le h.1
 have hnd:((List.range n).map fun i:Nat=>(i:Int)).Nodup:=by
  rw[List.nodup_iff_pairwise_ne,List.pairwise_map]
  exact(List.nodup_range (n:=n)).imp fun h=>by omega
 have:=zi3 hnd (i:=i) (by rw[List.length_map,List.length_range];omega)
 simpa using this
theorem zyg {d:DfaT} (hok:zc d):zah d ((List.range d.label.length).map fun i:Nat=>(i:Int))=d:=by
 obtain⟨hk1,hk2,hk3,hk4,hk5,hk6,hk7⟩:=id hok
 refine DfaT.ext2 rfl rfl ?_ ?_ rfl
 ·apply List.ext_getElem
  ·simp [zah,hk3]
  ·intro i h1 h2
   rw[zfP (by simpa [zah] using h1)]
   simp only[List.getElem_map,List.getElem_range]
   unfold zc9
   rw[zae h2]
   apply List.ext_getElem
   ·simp
   ·intro j g1 g2
    simp only[List.getElem_map]
    exact zi4 ((hk7 i h2 Ko).2.2.2 _ (List.getElem_mem g2))
 ·apply List.ext_getElem
  ·simp [zah,zbi]
  ·intro i h1 h2
   rw[zfd (by simpa [zah,zbi] using h1)]
   simp only[List.getElem_map,List.getElem_range,Int.toNat_natCast]
   rw[List.getD_eq_getElem?_getD,List.getElem?_eq_getElem h2];rfl
theorem zeI {d:DfaT} (hsm:zx d) (hok:zc d):zx (zL d):=by
 obtain⟨hm1,hm2,hm3,hm4,hm5⟩:=id hsm
 obtain⟨e1,e2⟩:=zcw d (zM d)
 have hO:=zdl hok
 have hl:=hO.len
 have hk3:=hok.2.2.1
 refine⟨by show(zah d (zM d)).next.length≤_;omega,fun r hr=>?_,by show(zah d (zM d)).label.length≤_;omega,hm4,hm5⟩
 obtain⟨x,hx,rfl⟩:=List.mem_map.1 (show r∈(zM d).map (zc9 d (zM d)) from hr)
 have hb:=hO.2 x hx
 obtain⟨t,rfl⟩:=Int.eq_ofNat_of_zero_le hb.1
 unfold zc9
 rw[zae Ko,List.length_map]
 exact hm2 _ (List.getElem_mem _)
theorem zcW {G:za} {d:DfaT} {C:List Value} (h:IsD G d (.agg C.toArray)):C.all zaL=true:=by
 obtain⟨_,_,vn,vl,vs,e,⟨an,cn,rs,rfl,_⟩,⟨al,cl,rfl,_⟩,⟨ay,cy,rfl,_⟩⟩:=h
 have e2:=congrArg (fun v=>match v with|Value.agg a=>a.toList|_=>[]) e
 simp only[List.toList_toArray] at e2
 rw[e2];exact zbe rfl rfl rfl
theorem zdP {C:List Value} (h:C.length=260):zf zI 0 C=C:=by
 unfold zf
 rw[List.take_zero,List.nil_append,List.drop_of_length_le (by rw[zn];omega),List.append_nil]
theorem zur {d:DfaT} (hsm:zx d) {G:za} {H:zb} {R:Value→za→zb→Prop} {v:Value} (hv:IsD G d v)
  (hR: ∀G' v',PLe G G'→Sep G' (zm H)→IsD G' (zd3 d).1 v'→R (.tuple #[v', .int .i64 (zd3 d).2]) G' H):FnT Tryz.prog 40 [v] G H R:=by
 obtain⟨C,an,al,ay,cn,cl,cs,rs,rfl,O⟩:=hv.opened
 have hCl:=O.len
 have hCa:=O.all
 have hrl:(zcV d).length≤2000000:=by
  by_cases hok:zc d
  ·have h1:zcV d=zM d:=by unfold zcV;rw[if_pos (zK hok)]
   have h2:=(zdl hok).len
   have h3:=hok.2.1
   rw[h1];omega
  ·have h1:zcV d=[]:=by unfold zcV;rw[if_neg (by rw[zA hok];exact Bool.false_ne_true)]
   rw[h1];simp
 refine FnT.sep ?_
 refine FnT.body tok [0,1,2,3] Tryz.func40 rfl Kk Kk (by show _≤10;simp) fun hsep=>?_
 rw[Tryz.results40]
 have hE:=hsep
 try simp only[zzs] at hE
 repeat(obtain⟨hx',hE⟩:=hE)
 repeat' first
  |with_reducible first|refine Nx.go ?_ |refine Bk.go (fun _=>?_) fun _=>?_ |refine Nb fun nb hnb hnb1 hnb2=>?_
  |simp -dsimp -implicitDefEqProofs (disch:=first|exact Kd|fail) only[go_sem,↓reduceIte,seval, -List.reduceReplicate,List.toList_toArray,hCl,hCa]
  |with_reducible refine Tri.drawH tok mixed [0,1,2,3] 1 [0,1] (.op 0 .held (.op 1 .held (.op 2 .keeps (.op 3 .keeps (.op 4 .plain (.op 5 .plain (.op 6 .plain (.op 7 .plain .nil)))))))) Kk [1] ?_
 obtain⟨b2,e0⟩: ∃x,x=nb:=⟨_,rfl⟩
 subst e0
 refine zyb hsm O.is fun G2 v2 hle2 hs2 hsl2=>?_
 have hE:=hs2
 try simp only[zzs] at hE
 repeat(obtain⟨hx',hE⟩:=hE)
 repeat' first
  |with_reducible first|refine Nx.go ?_ |refine Bk.go (fun _=>?_) fun _=>?_ |refine Nb fun nb hnb hnb1 hnb2=>?_
  |simp -dsimp -implicitDefEqProofs (disch:=first|exact Kd|fail) only[go_sem,↓reduceIte,seval, -List.reduceReplicate,List.toList_toArray,hCl,hCa]
 refine zzb hsm hrl (O.is.mono hle2) hsl2 fun G3 v3 hle3 hs3 hI=>?_
 have hI3:IsD G3 (zd3 d).1 v3:=hI
 obtain⟨C',an',al',ay',cn',cl',cs',rs',rfl,O'⟩:=hI3.opened
 have hDl:=O'.len
 have hone:=zcW O'.is
 have hput:=zdP hDl
 have htk:List.take 260 C'=C':=List.take_of_length_le Ko
 have hE:=hs3
 try simp only[zzs] at hE
 repeat(obtain⟨hx',hE⟩:=hE)
 repeat' first
  |with_reducible first|refine Nx.go ?_ |refine Bk.go (fun _=>?_) fun _=>?_ |refine Nb fun nb hnb hnb1 hnb2=>?_
  |simp -dsimp -implicitDefEqProofs (disch:=first|exact Kd|fail) only[go_sem,↓reduceIte,seval, -List.reduceReplicate,List.toList_toArray,hDl,hone,hput,htk,zn]
 unfold zv
 refine Upd.leave (H':=H) Ks ?_
 exact fun _ hs=>hR G3 _ (hle2.trans hle3) hs O'.is
end Go.Proofs.YtomdbjfdbkejoaaGreatDoor
namespace Go.Proofs.YtomdbjfdbkejoaaGreatDoor
open Go Go.V Go.Proofs
theorem zus {l:List Int} {x:Nat} (h:x<l.length):atL l (x:Int)=l[x]:=by
 rw[zU (by simpa using h)];simp only[Int.toNat_natCast]
theorem zp5 {d:DfaT} (hok:zc d) {n:Nat} (hn:znD d n):zbv d (lvl d n):=by
 obtain⟨hk1,hk2,hk3,hk4,hk5,hk6,hk7⟩:=id hok
 have hlv:=zal hk3
 refine⟨hok,by rw[hlv,hk3],fun s t hs h1 h2 h3 h4 hp=>?_⟩
 obtain⟨ht,he⟩:=z6 hp
 rw[List.getElem?_eq_getElem ht,Option.some.injEq] at he
 refine⟨(zhY hk3 h1 h2).1 (zkp hk3 h3 h4 n (Nat.zero_le n) he.symm),?_⟩
 obtain⟨hw1,_⟩:=hk7 s h3 h1
 obtain⟨hw2,_⟩:=hk7 t h4 h2
 refine⟨by omega,fun k hk=>?_⟩
 rw[zcH]
 have hs2:=(zeS hk3 n h3 h4).1 (by simp only[hn.2.1];exact he.symm)
 have:=hs2.2 k Ko
 rwa [zus hk,zus (l:=d.next[t]) (show k< (d.next[t]).length by omega)] at this
noncomputable def zau (d:DfaT):DfaT×Int:=if zaF (zc d)=true then(ofD (zL d) (zbh (zL d) 65536),0) else(zao,6)
theorem zdC {d:DfaT} (h:zc d):zau d=(ofD (zL d) (zbh (zL d) 65536),0):=by unfold zau;rw[if_pos (zK h)]
theorem zib {d:DfaT} (h: ¬zc d):zau d=(zao,6):=by unfold zau;rw[if_neg (by rw[zA h];exact Bool.false_ne_true)]
theorem zav {d:DfaT} (h:zc d):zc (zL d):=zeH h (zbL h)
theorem zdQ {d:DfaT} (h:zc d):zbv d (zbh d 65536):=by
 obtain⟨N,hN⟩:=zqH h.2.2.1 h.1
 have hle:N≤65536:=by have:=hN.1;have:=h.2.1;omega
 rw[zeW h,zmN hN.2.1 hle]
 exact zp5 h hN
theorem zyh {d:DfaT} (hsm:zx d) {G:za} {H:zb} {R:Value→za→zb→Prop} {v:Value} (hv:IsD G d v)
  (hR: ∀G' v',PLe G G'→Sep G' (zm H)→IsD G' (zau d).1 v'→R (.tuple #[v', .int .i64 (zau d).2]) G' H):FnT Tryz.prog 42 [v] G H R:=by
 obtain⟨C,an,al,ay,cn,cl,cs,rs,rfl,O⟩:=hv.opened
 have hCl:=O.len
 have hCa:=O.all
 refine FnT.sep ?_
 refine FnT.body tok [0,1,2,3,4,5,12] Tryz.func42 rfl Kk Kk (by show _≤21;simp) fun hsep=>?_
 rw[Tryz.results42]
 have hE:=hsep
 try simp only[zzs] at hE
 repeat(obtain⟨hx',hE⟩:=hE)
 repeat' first
  |with_reducible first|refine Nx.go ?_ |refine Bk.go (fun _=>?_) fun _=>?_ |refine Nb fun nb hnb hnb1 hnb2=>?_ |refine Nr fun nb nsp ncap hnb hncap hnb1 hnb2=>?_
  |simp -dsimp -implicitDefEqProofs (disch:=first|exact Kd|fail) only[go_sem,↓reduceIte,seval, -List.reduceReplicate,List.toList_toArray,hCl,hCa]
 obtain⟨b2,e20⟩: ∃x,x=nb:=⟨_,rfl⟩
 subst e20
 refine zur hsm O.is fun G2 v2 hle2 hs2 hI2=>?_
 by_cases hok:zc d
 ·have hok2:=zav hok
  have hsm2:=zeI hsm hok
  rw[zgp hok] at hI2⊢
  rw[zdC hok] at hR
  have hI2:IsD G2 (zL d) v2:=hI2
  obtain⟨C2,an2,al2,ay2,cn2,cl2,cs2,rs2,rfl,O2⟩:=hI2.opened
  have hC2l:=O2.len
  have hone2:=zcW O2.is
  have hput2:=zdP hC2l
  have htk2:List.take 260 C2=C2:=List.take_of_length_le Ko
  have hE:=hs2
  try simp only[zzs] at hE
  repeat(obtain⟨hx',hE⟩:=hE)
  repeat' first
   |with_reducible first|refine Nx.go ?_ |refine Bk.go (fun _=>?_) fun _=>?_ |refine Nb fun nb hnb hnb1 hnb2=>?_ |refine Nr fun nb nsp ncap hnb hncap hnb1 hnb2=>?_
   |simp -dsimp -implicitDefEqProofs (disch:=first|exact Kd|fail) only[go_sem,↓reduceIte,seval, -List.reduceReplicate,List.toList_toArray,hCl,hCa,hC2l,hone2,hput2,htk2,zn]
   |with_reducible refine Tri.drawS tok mixed [0,1,2,3,4,5,12] 4 [0,1] (.op 0 .held (.op 1 .held (.op 2 .keeps (.op 3 .keeps (.op 4 .plain (.op 5 .plain (.op 6 .plain (.op 7 .plain .nil)))))))) Kk [(nb, .cells C2 [] 27)] Ks ?_
  obtain⟨b4,e40⟩: ∃x,x=nb:=⟨_,rfl⟩
  subst e40
  have hst:=zdQ hok2
  obtain⟨M,hM⟩: ∃M,M=zbh (zL d) 65536:=⟨_,rfl⟩
  refine zud hsm2 O2.is fun G3 v3 hle3 hs3 hsl3=>?_
  rw[←hM] at hst hsl3 hR
  have hE:=hs3
  try simp only[zzs] at hE
  repeat(obtain⟨hx',hE⟩:=hE)
  repeat' first
   |with_reducible first|refine Nx.go ?_ |refine Bk.go (fun _=>?_) fun _=>?_ |refine Nb fun nb hnb hnb1 hnb2=>?_ |refine Nr fun nb nsp ncap hnb hncap hnb1 hnb2=>?_
   |simp -dsimp -implicitDefEqProofs (disch:=first|exact Kd|fail) only[go_sem,↓reduceIte,seval, -List.reduceReplicate,List.toList_toArray,hC2l,hone2,hput2,htk2,zn]
  refine zAN hsm2 hst (O2.is.mono hle3) hsl3 fun G4 v4 hle4 hs4 hI4=>?_
  obtain⟨C4,an4,al4,ay4,cn4,cl4,cs4,rs4,rfl,O4⟩:=hI4.opened
  have hC4l:=O4.len
  have hone4:=zcW O4.is
  have hput4:=zdP hC4l
  have htk4:List.take 260 C4=C4:=List.take_of_length_le Ko
  have hE:=hs4
  try simp only[zzs] at hE
  repeat(obtain⟨hx',hE⟩:=hE)
  repeat' first
   |with_reducible first|refine Nx.go ?_ |refine Bk.go (fun _=>?_) fun _=>?_ |refine Nb fun nb hnb hnb1 hnb2=>?_ |refine Nr fun nb nsp ncap hnb hncap hnb1 hnb2=>?_
   |simp -dsimp -implicitDefEqProofs (disch:=first|exact Kd|fail) only[go_sem,↓reduceIte,seval, -List.reduceReplicate,List.toList_toArray,hC4l,hone4,hput4,htk4,zn]
  unfold zv
  refine Upd.leave (H':=H) Ks ?_
  exact fun _ hs=>hR G4 _ (hle2.trans (hle3.trans hle4)) hs O4.is
 ·rw[zgS hok] at hI2⊢
  rw[zib hok] at hR
  have hI2:IsD G2 zao v2:=hI2
  obtain⟨C2,an2,al2,ay2,cn2,cl2,cs2,rs2,rfl,O2⟩:=hI2.opened
  have hC2l:=O2.len
  have hone2:=zcW O2.is
  have hput2:=zdP hC2l
  have hE:=hs2
  try simp only[zzs] at hE
  repeat(obtain⟨hx',hE⟩:=hE)
  repeat' first
   |with_reducible first|refine Nx.go ?_ |refine Bk.go (fun _=>?_) fun _=>?_ |refine Nb fun nb hnb hnb1 hnb2=>?_ |refine Nr fun nb nsp ncap hnb hncap hnb1 hnb2=>?_
   |simp -dsimp -implicitDefEqProofs (disch:=first|exact Kd|fail) only[go_sem,↓reduceIte,seval, -List.reduceReplicate,List.toList_toArray,hCl,hCa,hC2l,hone2,hput2,zn,zad,zaf,zaw]
  unfold zv
  refine Upd.leave (H':=H) Ks ?_
  exact fun _ hs=>hR G2 _ hle2 hs (za2 _)
end Go.Proofs.YtomdbjfdbkejoaaGreatDoor
namespace Go.Proofs.YtomdbjfdbkejoaaGreatDoor
open Go Go.V Go.Proofs
theorem zAu (n:Nat) (hn:n<256) (first:Bool) {G:za} {H:zb} {R:Value→za→zb→Prop} (hR:R (.bool (zgi n first)) G H):FnT Tryz.prog 32 [.int .u8 (n:Nat), .bool first] G H R:=by
 unfold zgi at hR
 by_cases h:48≤n∧n≤57
 ·rw[if_pos h] at hR
  refine FnT.body tok [0,1,4,10] Tryz.func32 rfl Kk Kk (by show _≤31;simp) fun hsep=>?_
  rw[Tryz.results32]
  have hE:=hsep
  try simp only[zzs] at hE
  repeat(obtain⟨hx',hE⟩:=hE)
  repeat' first
   |with_reducible first|refine Nx.go ?_ |refine Bk.go (fun _=>?_) fun _=>?_
   |simp -dsimp -implicitDefEqProofs (disch:=first|exact Kd|fail) only[go_sem,↓reduceIte,seval]
  all_goals try(exfalso;omega)
  all_goals refine Upd.finL ?_ hR ?_
  any_goals first|exact Ks|skip
  rfl
 ·rw[if_neg h] at hR
  unfold zfV at hR
  refine FnT.body tok [0,1,4,10] Tryz.func32 rfl Kk Kk (by show _≤31;simp) fun hsep=>?_
  rw[Tryz.results32]
  have hE:=hsep
  try simp only[zzs] at hE
  repeat(obtain⟨hx',hE⟩:=hE)
  repeat' first
   |with_reducible first|refine Nx.go ?_ |refine Bk.go (fun _=>?_) fun _=>?_
   |simp -dsimp -implicitDefEqProofs (disch:=first|exact Kd|fail) only[go_sem,↓reduceIte,seval]
  all_goals try(exfalso;omega)
  all_goals refine Upd.finL ?_ hR ?_
  any_goals first|exact Ks|skip
  all_goals (simp only[Value.bool.injEq];rw[Bool.eq_iff_iff];simp;omega)
theorem zqM (s:List UInt8) (hlen:s.length≤2000000) {G:za} {H:zb} {R:Value→za→zb→Prop} (hR:R (.bool (zdp s)) G H):FnT Tryz.prog 19 [str s] G H R:=by
 refine FnT.body tok [0,2,3,7,16] Tryz.func19 rfl Kk Kk (by show _≤25;simp) fun hsep=>?_
 rw[Tryz.results19]
 have hE:=hsep
 try simp only[zzs] at hE
 repeat(obtain⟨hx',hE⟩:=hE)
 repeat' first
  |with_reducible first|refine Nx.go ?_ |refine Bk.go (fun _=>?_) fun _=>?_ |refine Nb fun nb hnb hnb1 hnb2=>?_
  |simp -dsimp -implicitDefEqProofs (disch:=first|exact Kd|fail) only[go_sem,↓reduceIte,seval]
 refine Tri.loopU tok [0,2,3,7,16] Kk [0,2,3] (fun q G' fr H'=> ∃i:Nat,i+q=s.length∧(∀j (h:j<s.length),j<i→zgi s[j].toNat (decide (j=0))=true)∧G'=G∧H'=H∧fr=[(0,str s),(2, .bool false),(3, .int .i64 i)]) (s.length) (Upd.now ?_) ?_
 ·exact⟨0,by omega,fun j _ h=>by omega,rfl,rfl,rfl⟩
 ·rintro q G' fr H' hle hs ⟨i,hi,hno,rfl,rfl,rfl⟩
  by_cases hil:i<s.length
  ·have hb:s[i].toNat<256:=s[i].toNat_lt
   have hd:decide ((i:Int)=0)=decide (i=0):=decide_eq_decide.2 Ko
   repeat' first
    |with_reducible first|refine Nx.go ?_ |refine Bk.go (fun _=>?_) fun _=>?_ |refine Nb fun nb hnb hnb1 hnb2=>?_
    |simp -dsimp -implicitDefEqProofs (disch:=first|exact Kd|fail) only[go_sem,↓reduceIte,seval,hd]
    |with_reducible refine zAu _ hb _ ?_
   ·rename_i hm
    exact Upd.now ⟨q - 1,by omega,i+1,by omega,fun j h hj=>by
     by_cases e:j=i
     ·subst e;exact hm
     ·exact hno j h Ko,rfl,rfl,rfl⟩
   ·rename_i hm
    rw[zki fun h=>by have:=h.2.2 i hil;rw[hm] at this;cases this] at hR
    all_goals refine Upd.finL ?_ hR ?_
    any_goals first|exact Ks|skip
    rfl
  ·obtain rfl:i=s.length:=by omega
   have hok:okS s:=fun j h=>hno j h h
   repeat' first
    |with_reducible first|refine Nx.go ?_ |refine Bk.go (fun _=>?_) fun _=>?_ |refine Nb fun nb hnb hnb1 hnb2=>?_
    |simp -dsimp -implicitDefEqProofs (disch:=first|exact Kd|fail) only[go_sem,↓reduceIte,seval]
   all_goals (
    refine Upd.finL Ks hR ?_
    simp only[Value.bool.injEq]
    rw[Bool.eq_iff_iff,zep]
    simp [hok]
    try omega)
end Go.Proofs.YtomdbjfdbkejoaaGreatDoor
namespace Go.Proofs.YtomdbjfdbkejoaaGreatDoor
open Go Go.V Go.Proofs
theorem zoS {d:DfaT} (hsm:zx d) {G:za} {H:zb} {R:Value→za→zb→Prop} {v:Value} (hv:IsD G d v) (hR: ∀G',PLe G G'→Sep G' (zm H)→R (.bool (zaF (zc d))) G' H):FnT Tryz.prog 9 [v] G H R:=by
  obtain⟨C,an,al,ay,cn,cl,cs,rs,rfl,O⟩:=hv.opened
  obtain⟨hm1,hm2,hm3,hm4,hm5⟩:=id hsm
  have hCl:=O.len
  have hCw:=O.w
  have hCn:=O.n
  have hCx:=O.l
  have hCs:=O.s
  have hCo:=O.of
  refine FnT.sep ?_
  by_cases h1:1≤d.label.length∧d.label.length≤65536∧d.next.length=d.label.length∧d.names.length≤64
  · obtain⟨h1a,h1b,h1c,h1d⟩:=h1
    refine FnT.body tok [0,1,2,3,4,5,6,7,37,42,51,54,67,70,100,104,127] Tryz.func9 rfl Kk Kk (by show _≤128;simp) fun hsep=>?_
    rw[Tryz.results9]
    have hE:=hsep
    try simp only[zzs] at hE
    repeat(obtain⟨hx',hE⟩:=hE)
    repeat' first
      |with_reducible first|refine Nx.go ?_ |refine Bk.go (fun _=>?_) fun _=>?_ |refine Nb fun nb hnb hnb1 hnb2=>?_
      |simp -dsimp -implicitDefEqProofs (disch:=first|exact Kd|fail) only[go_sem,↓reduceIte,seval, -List.reduceReplicate,List.toList_toArray,hCl,hCw,hCn,hCx,hCs,hCo]
    all_goals try(exfalso;omega)
    revert nb
    intro b1 hb1 hb11 hb12
    refine ztJ O.ofl O.ofb d.width fun G2 hle2 hs2=>?_
    have hE:=hs2
    try simp only[zzs] at hE
    repeat(obtain⟨hx',hE⟩:=hE)
    have O2:=OpenD.mono hle2 O
    by_cases hp:zg d.of=d.of∧((zk d.of).length:Int)=d.width
    · rw[decide_eq_true hp.1,decide_eq_true hp.2]
      repeat' first
        |with_reducible first|refine Nx.go ?_ |refine Bk.go (fun _=>?_) fun _=>?_ |refine Nb fun nb hnb hnb1 hnb2=>?_
        |simp -dsimp -implicitDefEqProofs (disch:=first|exact Kd|fail) only[go_sem,↓reduceIte,seval, -List.reduceReplicate,Bool.true_and]
      have hry:=O2.ry
      have hrn:=O2.rn
      have hrl:=O2.rl
      have hrnl:=O2.rnl
      have hny:d.names.length≤64:=h1d
      refine Tri.loopU tok [0,1,2,3,4,5,6,7,37,42,51,54,67,70,100,104,127] Kk [1,2,3,4] (fun q G' fr H'=> ∃i:Nat,i+q=d.names.length∧(∀j (h:j<d.names.length),j<i→zdp d.names[j]=true∧d.names[j]∉d.names.take j)∧G'=G2∧H'=(b1, .cells C [] 27)::H∧fr=[(1, .pointer (some ⟨b1,0,none⟩)),(2, .bool false),(3, .int .i64 d.label.length),(4, .int .i64 (i:Nat))]) (d.names.length) ?_ ?_
      · exact Upd.now ⟨0,by omega,fun j _ h=>by omega,rfl,rfl,rfl⟩
      · rintro q G3 fr H' hle hs ⟨i,hi,hno,rfl,rfl,rfl⟩
        have hE:=hs
        try simp only[zzs] at hE
        repeat(obtain⟨hx',hE⟩:=hE)
        by_cases hil:i<d.names.length
        · have had:Adr ay:=hry.adr (by rw[List.length_map];omega)
          have hsi:=hm5 _ (List.getElem_mem hil)
          cases hnm:zdp d.names[i] with
          |false=>
            repeat' first
              |with_reducible first|refine Nx.go ?_ |refine Bk.go (fun _=>?_) fun _=>?_ |refine Nb fun nb hnb hnb1 hnb2=>?_
              |simp -dsimp -implicitDefEqProofs (disch:=first|exact Kd|fail) only[go_sem,↓reduceIte,seval, -List.reduceReplicate,List.toList_toArray,hCl,hCw,hCn,hCx,hCs,Row.obj hry,Row.obj hrn,Row.obj hrl,List.getElem_map,hnm]
              |with_reducible refine zqM _ hsi ?_
            (unfold zv
             refine Upd.leave (H':=H) Ks ?_
             rw[zA (p:=zc d) fun h=>by have:=(h.2.2.2.2.2.1.2 i hil).1;rw[hnm] at this;cases this] at hR
             exact fun _ hs=>hR _ hle2 hs)
          |true=>
            repeat' first
              |with_reducible first|refine Nx.go ?_ |refine Bk.go (fun _=>?_) fun _=>?_ |refine Nb fun nb hnb hnb1 hnb2=>?_
              |simp -dsimp -implicitDefEqProofs (disch:=first|exact Kd|fail) only[go_sem,↓reduceIte,seval, -List.reduceReplicate,List.toList_toArray,hCl,hCw,hCn,hCx,hCs,Row.obj hry,Row.obj hrn,Row.obj hrl,List.getElem_map,hnm]
              |with_reducible refine zqM _ hsi ?_
            refine Tri.loopU tok [0,1,2,3,4,5,6,7,37,42,51,54,67,70,100,104,127] Kk [1,2,3,4,5] (fun q2 G' fr H'=> ∃k:Nat,k+q2=i∧(∀j (h:j<d.names.length),j<k→d.names[j]≠d.names[i])∧G'=G3∧H'=(b1, .cells C [] 27)::H∧fr=[(1, .pointer (some ⟨b1,0,none⟩)),(2, .bool false),(3, .int .i64 d.label.length),(4, .int .i64 (i:Nat)),(5, .int .i64 (k:Nat))]) (i) ?_ ?_
            · exact Upd.now ⟨0,by omega,fun j _ h=>by omega,rfl,rfl,rfl⟩
            · rintro q2 G4 fr H' hle4 hs4 ⟨k,hk,hno2,rfl,rfl,rfl⟩
              have hE:=hs4
              try simp only[zzs] at hE
              repeat(obtain⟨hx',hE⟩:=hE)
              by_cases hkl:k<i
              · have hkn:k<d.names.length:=by omega
                repeat' first
                  |with_reducible first|refine Nx.go ?_ |refine Bk.go (fun _=>?_) fun _=>?_ |refine Nb fun nb hnb hnb1 hnb2=>?_
                  |with_reducible refine Tri.drawM tok mixed [0,1,2,3,4,5,6,7,37,42,51,54,67,70,100,104,127] 12 [1,4,6,9] (.op 0 .plain (.op 1 .held (.op 2 .plain (.op 3 .plain (.op 4 .held (.op 5 .plain (.op 6 .held (.op 7 .plain (.op 8 .plain (.op 9 .held (.op 10 .plain .nil))))))))))) Kk _ (List.Sublist.refl _) ?_
                  |simp -dsimp -implicitDefEqProofs (disch:=first|exact Kd|fail) only[go_sem,↓reduceIte,seval, -List.reduceReplicate,List.toList_toArray,hCl,hCw,hCn,hCx,hCs,Row.obj hry,Row.obj hrn,Row.obj hrl,List.getElem_map]
                · rename_i hsame
                  unfold zv
                  refine Upd.leave (H':=H) Ks ?_
                  rw[zA (p:=zc d) fun h=>(h.2.2.2.2.2.1.2 i hil).2 ((zaQ hil).2 ⟨k,hkl,hsame⟩)] at hR
                  exact fun _ hs=>hR _ hle2 hs
                · rename_i hsame
                  exact Upd.now ⟨q2 - 1,by omega,k+1,by omega,fun j h hj=>by
                    by_cases e:j=k
                    · subst e;exact hsame
                    · exact hno2 j h Ko,rfl,rfl,rfl⟩
              · obtain rfl:k=i:=by omega
                repeat' first
                  |with_reducible first|refine Nx.go ?_ |refine Bk.go (fun _=>?_) fun _=>?_ |refine Nb fun nb hnb hnb1 hnb2=>?_
                  |simp -dsimp -implicitDefEqProofs (disch:=first|exact Kd|fail) only[go_sem,↓reduceIte,seval, -List.reduceReplicate]
                exact Upd.now ⟨q - 1,by omega,k+1,by omega,fun j h hj=>by
                  by_cases e:j=k
                  · subst e
                    refine⟨hnm,fun hm=>?_⟩
                    obtain⟨t,ht,e⟩:=(zaQ h).1 hm
                    exact hno2 t Ko ht e
                  · exact hno j h Ko,rfl,rfl,rfl⟩
        · obtain rfl:i=d.names.length:=by omega
          have hnok:zbm d.names:=⟨h1d,fun i h=>hno i h h⟩
          repeat' first
            |with_reducible first|refine Nx.go ?_ |refine Bk.go (fun _=>?_) fun _=>?_ |refine Nb fun nb hnb hnb1 hnb2=>?_
            |simp -dsimp -implicitDefEqProofs (disch:=first|exact Kd|fail) only[go_sem,↓reduceIte,seval, -List.reduceReplicate,List.toList_toArray,hCl,hCw,hCn,hCx,hCs,Row.obj hry,Row.obj hrn,Row.obj hrl,List.getElem_map]
          refine Tri.loopU tok [0,1,2,3,4,5,6,7,37,42,51,54,67,70,100,104,127] Kk [1,2,3,6] (fun q G' fr H'=> ∃s:Nat,s+q=d.next.length∧(∀j,j<s→zr0 d j)∧G'=G3∧H'=(b1, .cells C [] 27)::H∧fr=[(1, .pointer (some ⟨b1,0,none⟩)),(2, .bool false),(3, .int .i64 d.label.length),(6, .int .i64 (s:Nat))]) (d.next.length) ?_ ?_
          · exact Upd.now ⟨0,by omega,fun j h=>by omega,rfl,rfl,rfl⟩
          · rintro q3 G5 fr H' hle5 hs5 ⟨s,hi3,hno3,rfl,rfl,rfl⟩
            have hE:=hs5
            try simp only[zzs] at hE
            repeat(obtain⟨hx',hE⟩:=hE)
            by_cases hsl:s<d.next.length
            · have hsv:s<rs.length:=by omega
              have hsL:s<d.label.length:=by omega
              obtain⟨b,c,e1,e2,e3⟩:=O2.rs s hsl hsv
              have hrm:=hm2 _ (List.getElem_mem hsl)
              have had:Adr an:=hrn.adr Ko
              have had2:Adr al:=hrl.adr (by rw[List.length_map];omega)
              repeat' first
                |with_reducible first|refine Nx.go ?_ |refine Bk.go (fun _=>?_) fun _=>?_ |refine Nb fun nb hnb hnb1 hnb2=>?_
                |simp -dsimp -implicitDefEqProofs (disch:=first|exact Kd|fail) only[go_sem,↓reduceIte,seval, -List.reduceReplicate,List.toList_toArray,hCl,hCw,hCn,hCx,hCs,Row.obj hry,Row.obj hrn,Row.obj hrl,List.getElem_map,e1]
                |with_reducible refine Tri.drawM tok mixed [0,1,2,3,4,5,6,7,37,42,51,54,67,70,100,104,127] 17 [1,4,7,11,14,19,22,24] (.op 0 .plain (.op 1 .held (.op 2 .plain (.op 3 .plain (.op 4 .held (.op 5 .plain (.op 6 .plain (.op 7 .held (.op 8 .plain (.op 9 .plain (.op 10 .plain (.op 11 .held (.op 12 .plain (.op 13 .plain (.op 14 .held (.op 15 .plain (.op 16 .plain (.op 17 .plain (.op 18 .plain (.op 19 .held (.op 20 .plain (.op 21 .plain (.op 22 .held (.op 23 .plain (.op 24 .held (.op 25 .plain (.op 26 .plain (.op 27 .plain .nil)))))))))))))))))))))))))))) Kk _ (List.Sublist.refl _) ?_
              all_goals try(
                have hcontra: ¬zc d:=fun h=>by
                  obtain⟨r1,r2,r3,r4⟩:=h.2.2.2.2.2.2 s hsl hsL
                  omega
                unfold zv
                refine Upd.leave (H':=H) Ks ?_
                rw[zA hcontra] at hR
                exact fun _ hs=>hR _ hle2 hs)
              obtain⟨row,hrow⟩: ∃row,row=d.next[s]:=⟨_,rfl⟩
              have hrw:(row.length:Int)=d.width∧0≤d.label[s]∧d.label[s]≤d.names.length:=by rw[hrow];omega
              rw[←hrow] at e1 e2 e3 hrm
              refine Tri.loopU tok [0,1,2,3,4,5,6,7,37,42,51,54,67,70,100,104,127] Kk [1,2,3,6,7] (fun q4 G' fr H'=> ∃k:Nat,k+q4=row.length∧(∀j (h:j<row.length),j<k→0≤row[j]∧row[j] <d.label.length)∧G'=G5∧H'=(b1, .cells C [] 27)::H∧fr=[(1, .pointer (some ⟨b1,0,none⟩)),(2, .bool false),(3, .int .i64 d.label.length),(6, .int .i64 (s:Nat)),(7, .int .i64 (k:Nat))]) (row.length) ?_ ?_
              · exact Upd.now ⟨0,by omega,fun j _ h=>by omega,rfl,rfl,rfl⟩
              · rintro q4 G6 fr H' hle6 hs6 ⟨k,hk,hno4,rfl,rfl,rfl⟩
                have hE:=hs6
                try simp only[zzs] at hE
                repeat(obtain⟨hx',hE⟩:=hE)
                by_cases hkl:k<row.length
                · have had3:Adr b:=e2.adr (by rw[List.length_map];omega)
                  repeat' first
                    |with_reducible first|refine Nx.go ?_ |refine Bk.go (fun _=>?_) fun _=>?_ |refine Nb fun nb hnb hnb1 hnb2=>?_
                    |simp -dsimp -implicitDefEqProofs (disch:=first|exact Kd|fail) only[go_sem,↓reduceIte,seval, -List.reduceReplicate,List.toList_toArray,hCl,hCw,hCn,hCx,hCs,Row.obj hry,Row.obj hrn,Row.obj hrl,List.getElem_map,e1,Row.obj e2]
                  all_goals try(exfalso;omega)
                  all_goals first
                    | (have hcontra : ¬ zc d := fun h => by
                        obtain⟨r1,r2,r3,r4⟩:=h.2.2.2.2.2.2 s hsl hsL
                        have:=r4 row[k] (by rw[←hrow];exact List.getElem_mem hkl)
                        omega
                       unfold zv
                       refine Upd.leave (H':=H) Ks ?_
                       rw[zA hcontra] at hR
                       exact fun _ hs=>hR _ hle2 hs)
                    | exact Upd.now ⟨q4 - 1, by omega, k + 1, by omega, fun j h hj => by
                        by_cases e:j=k
                        · subst e;omega
                        · exact hno4 j h Ko,rfl,rfl,rfl⟩
                · obtain rfl:k=row.length:=by omega
                  repeat' first
                    |with_reducible first|refine Nx.go ?_ |refine Bk.go (fun _=>?_) fun _=>?_ |refine Nb fun nb hnb hnb1 hnb2=>?_
                    |simp -dsimp -implicitDefEqProofs (disch:=first|exact Kd|fail) only[go_sem,↓reduceIte,seval, -List.reduceReplicate,List.toList_toArray,hCl,hCw,hCn,hCx,hCs,Row.obj hry,Row.obj hrn,Row.obj hrl,List.getElem_map]
                  all_goals try(exfalso;omega)
                  exact Upd.now ⟨q3 - 1,by omega,s+1,by omega,fun j hj=>by
                    by_cases e:j=s
                    · subst e
                      exact fun h1 h2=>⟨by rw[←hrow];omega,by omega,by omega,fun t ht=>by
                        rw[←hrow] at ht
                        obtain⟨j,hj,rfl⟩:=List.getElem_of_mem ht
                        exact hno4 j hj hj⟩
                    · exact hno3 j Ko,rfl,rfl,rfl⟩
            · obtain rfl:s=d.next.length:=by omega
              repeat' first
                |with_reducible first|refine Nx.go ?_ |refine Bk.go (fun _=>?_) fun _=>?_ |refine Nb fun nb hnb hnb1 hnb2=>?_
                |simp -dsimp -implicitDefEqProofs (disch:=first|exact Kd|fail) only[go_sem,↓reduceIte,seval, -List.reduceReplicate]
              unfold zv
              refine Upd.leave (H':=H) Ks ?_
              rw[zK (p:=zc d) ⟨h1a,h1b,h1c,hp.1,hp.2,hnok,fun s=>by
                rcases Nat.lt_or_ge s d.next.length with h|h
                · exact hno3 s h
                · exact fun h2=>by omega⟩] at hR
              exact fun _ hs=>hR _ hle2 hs
    · have hpf : (decide (zg d.of = d.of) && decide (((zk d.of).length : Int) = d.width)) = false := by
        cases h:(decide (zg d.of=d.of)&&decide (((zk d.of).length:Int)=d.width)) with
        |false=>rfl
        |true=>
          rw[Bool.and_eq_true,decide_eq_true_eq,decide_eq_true_eq] at h
          exact absurd h hp
      rw[hpf]
      repeat' first
        |with_reducible first|refine Nx.go ?_ |refine Bk.go (fun _=>?_) fun _=>?_ |refine Nb fun nb hnb hnb1 hnb2=>?_
        |simp -dsimp -implicitDefEqProofs (disch:=first|exact Kd|fail) only[go_sem,↓reduceIte,seval, -List.reduceReplicate]
      unfold zv
      refine Upd.leave (H':=H) Ks ?_
      rw[zA fun h=>hp ⟨h.2.2.2.1,h.2.2.2.2.1⟩] at hR
      exact fun _ hs=>hR G2 hle2 hs
  · rw[zA fun h=>h1 ⟨h.1,h.2.1,h.2.2.1,h.2.2.2.2.2.1.1⟩] at hR
    refine FnT.body tok [0,1,2,3,4,5,6,7,37,42,51,54,67,70,100,104,127] Tryz.func9 rfl Kk Kk (by show _≤128;simp) fun hsep=>?_
    rw[Tryz.results9]
    have hE:=hsep
    try simp only[zzs] at hE
    repeat(obtain⟨hx',hE⟩:=hE)
    repeat' first
      |with_reducible first|refine Nx.go ?_ |refine Bk.go (fun _=>?_) fun _=>?_ |refine Nb fun nb hnb hnb1 hnb2=>?_
      |simp -dsimp -implicitDefEqProofs (disch:=first|exact Kd|fail) only[go_sem,↓reduceIte,seval, -List.reduceReplicate,List.toList_toArray,hCl,hCw,hCn,hCx,hCs,hCo]
    all_goals try(exfalso;omega)
    all_goals (
      unfold zv
      refine Upd.leave (H':=H) Ks ?_
      exact fun _ hs=>hR G (PLe.refl _) hs)
end Go.Proofs.YtomdbjfdbkejoaaGreatDoor
namespace Go.Proofs.YtomdbjfdbkejoaaGreatDoor
open Go Go.V Go.Proofs
noncomputable def zf1 (d:DfaT) (n:Int):Bool:=zaF (zc d)&&decide ((d.label.length:Int)≤n)
theorem zfn {d:DfaT} (hsm:zx d) {n:Int} {G:za} {H:zb} {R:Value→za→zb→Prop} {v:Value} (hv:IsD G d v)
  (hR: ∀G',PLe G G'→Sep G' (zm H)→R (.bool (zf1 d n)) G' H):FnT Tryz.prog 10 [v, .int .i64 n] G H R:=by
 obtain⟨C,an,al,ay,cn,cl,cs,rs,rfl,O⟩:=hv.opened
 have hCl:=O.len
 have hCa:=O.all
 have hCx:=O.l
 unfold zf1 at hR
 refine FnT.sep ?_
 by_cases hok:zc d
 ·have hb:=zK hok
  rw[hb,Bool.true_and] at hR
  refine FnT.body tok [0,1,2,4] Tryz.func10 rfl Kk Kk (by show _≤14;simp) fun hsep=>?_
  rw[Tryz.results10]
  have hE:=hsep
  try simp only[zzs] at hE
  repeat(obtain⟨hx',hE⟩:=hE)
  repeat' first
   |with_reducible first|refine Nx.go ?_ |refine Bk.go (fun _=>?_) fun _=>?_ |refine Nb fun nb hnb hnb1 hnb2=>?_
   |simp -dsimp -implicitDefEqProofs (disch:=first|exact Kd|fail) only[go_sem,↓reduceIte,seval, -List.reduceReplicate,List.toList_toArray,hCl,hCa]
  refine zoS hsm O.is fun G2 hle2 hs2=>?_
  have hE:=hs2
  try simp only[zzs] at hE
  repeat(obtain⟨hx',hE⟩:=hE)
  repeat' first
   |with_reducible first|refine Nx.go ?_ |refine Bk.go (fun _=>?_) fun _=>?_ |refine Nb fun nb hnb hnb1 hnb2=>?_
   |simp -dsimp -implicitDefEqProofs (disch:=first|exact Kd|fail) only[go_sem,↓reduceIte,seval, -List.reduceReplicate,List.toList_toArray,hCl,hCa,hCx,hb]
  unfold zv
  refine Upd.leave (H':=H) Ks ?_
  exact fun _ hs=>hR G2 hle2 hs
 ·have hb:=zA hok
  rw[hb,Bool.false_and] at hR
  refine FnT.body tok [0,1,2,4] Tryz.func10 rfl Kk Kk (by show _≤14;simp) fun hsep=>?_
  rw[Tryz.results10]
  have hE:=hsep
  try simp only[zzs] at hE
  repeat(obtain⟨hx',hE⟩:=hE)
  repeat' first
   |with_reducible first|refine Nx.go ?_ |refine Bk.go (fun _=>?_) fun _=>?_ |refine Nb fun nb hnb hnb1 hnb2=>?_
   |simp -dsimp -implicitDefEqProofs (disch:=first|exact Kd|fail) only[go_sem,↓reduceIte,seval, -List.reduceReplicate,List.toList_toArray,hCl,hCa]
  refine zoS hsm O.is fun G2 hle2 hs2=>?_
  have hE:=hs2
  try simp only[zzs] at hE
  repeat(obtain⟨hx',hE⟩:=hE)
  repeat' first
   |with_reducible first|refine Nx.go ?_ |refine Bk.go (fun _=>?_) fun _=>?_ |refine Nb fun nb hnb hnb1 hnb2=>?_
   |simp -dsimp -implicitDefEqProofs (disch:=first|exact Kd|fail) only[go_sem,↓reduceIte,seval, -List.reduceReplicate,List.toList_toArray,hCl,hCa,hCx,hb]
  unfold zv
  refine Upd.leave (H':=H) Ks ?_
  exact fun _ hs=>hR G2 hle2 hs
end Go.Proofs.YtomdbjfdbkejoaaGreatDoor
namespace Go.Proofs.YtomdbjfdbkejoaaGreatDoor
open Go Go.V Go.Proofs
def zwt (G:za) (n:Nat) (f:Nat→Nat→Bool) (aw:Option Addr):Prop:= ∃wv,Row G aw wv∧wv.length=n∧ ∀i (h:i<n) (h1:i<wv.length),∃a c,wv[i]= .slice a n c∧Row G a (zdT n (f i))∧n≤c
theorem zwt.mono {G G':za} (hle:PLe G G') {n:Nat} {f:Nat→Nat→Bool} {aw:Option Addr} (h:zwt G n f aw):zwt G' n f aw:=by
 obtain⟨wv,h1,h2,h3⟩:=h
 exact⟨wv,h1.mono hle,h2,fun i hi h1=>by
  obtain⟨a,c,e1,e2,e3⟩:=h3 i hi h1
  exact⟨a,c,e1,e2.mono hle,e3⟩⟩
end Go.Proofs.YtomdbjfdbkejoaaGreatDoor
namespace Go.Proofs.YtomdbjfdbkejoaaGreatDoor
open Go Go.V Go.Proofs
end Go.Proofs.YtomdbjfdbkejoaaGreatDoor
namespace Go.Proofs.YtomdbjfdbkejoaaGreatDoor
open Go Go.V Go.Proofs
end Go.Proofs.YtomdbjfdbkejoaaGreatDoor
namespace Go.Proofs.YtomdbjfdbkejoaaGreatDoor
open Go Go.V Go.Proofs
end Go.Proofs.YtomdbjfdbkejoaaGreatDoor
namespace Go.Proofs.YtomdbjfdbkejoaaGreatDoor
open Go Go.V Go.Proofs
end Go.Proofs.YtomdbjfdbkejoaaGreatDoor
namespace Go.Proofs.YtomdbjfdbkejoaaGreatDoor
open Go Go.V Go.Proofs
end Go.Proofs.YtomdbjfdbkejoaaGreatDoor
namespace Go.Proofs.YtomdbjfdbkejoaaGreatDoor
open Go Go.V Go.Proofs
end Go.Proofs.YtomdbjfdbkejoaaGreatDoor
namespace Go.Proofs.YtomdbjfdbkejoaaGreatDoor
open Go Go.V Go.Proofs
end Go.Proofs.YtomdbjfdbkejoaaGreatDoor
namespace Go.Proofs.YtomdbjfdbkejoaaGreatDoor
open Go Go.V Go.Proofs
end Go.Proofs.YtomdbjfdbkejoaaGreatDoor
namespace Go.Proofs.YtomdbjfdbkejoaaGreatDoor
open Go Go.V Go.Proofs
end Go.Proofs.YtomdbjfdbkejoaaGreatDoor
namespace Go.Proofs.YtomdbjfdbkejoaaGreatDoor
open Go Go.V Go.Proofs
end Go.Proofs.YtomdbjfdbkejoaaGreatDoor
namespace Go.Proofs.YtomdbjfdbkejoaaGreatDoor
open Go Go.V Go.Proofs
theorem DfaT.ext' {d e:DfaT} (h1:d.of=e.of) (h2:d.width=e.width) (h3:d.next=e.next) (h4:d.label=e.label) (h5:d.names=e.names):d=e:=by
 cases d;cases e;simp only at h1 h2 h3 h4 h5;subst h1 h2 h3 h4 h5;rfl
end Go.Proofs.YtomdbjfdbkejoaaGreatDoor
namespace Go.Proofs.YtomdbjfdbkejoaaGreatDoor
open Go Go.V Go.Proofs
theorem zwu {α:Type} [DecidableEq α] (l:List α) (k:Nat) {i:Nat} (h:i< (zk (l.take k)).length) (h2:i< (zk l).length):(zk l)[i]=(zk (l.take k))[i]:=by
 have key: ∀n,∃s,zk (l.take (k+n))=zk (l.take k)++s:=fun n=>by
  induction n with
  |zero=>exact⟨[],by simp⟩
  |succ n ih=>
   obtain⟨s,hs⟩:=ih
   rcases Nat.lt_or_ge (k+n) l.length with h3|h3
   ·rw[show k+(n+1)=(k+n)+1 by omega,List.take_succ_eq_append_getElem h3,zaO]
    split
    ·exact⟨s,hs⟩
    ·exact⟨s++[l[k+n]],by rw[hs,List.append_assoc]⟩
   ·exact⟨s,by rw[List.take_of_length_le Ko,←hs,List.take_of_length_le Ko]⟩
 obtain⟨s,hs⟩:=key l.length
 rw[List.take_of_length_le Ko] at hs
 simp only[hs]
 rw[List.getElem_append_left h]
theorem zmS {α:Type} [DecidableEq α]: ∀ {a b:List α},a.Nodup→a ⊆ b→a.length≤b.length
 | [],_,_,_=>Nat.zero_le _
 |x::a,b,h,hs=>by
  have h':=List.nodup_cons.1 h
  have hx:x∈b:=hs (List.mem_cons_self ..)
  have:=zmS (a:=a) (b:=b.erase x) h'.2 fun y hy=>by
   have hne:y≠x:=fun e=>by subst e;exact h'.1 hy
   exact(List.mem_erase_of_ne hne).2 (hs (List.mem_cons_of_mem _ hy))
  rw[List.length_erase_of_mem hx] at this
  have:=List.length_pos_of_mem hx
  simp only[List.length_cons];omega
theorem zut {m:List Int} {s:Nat} (hs:s<m.length) (hnew:m[s]∉m.take s): ∃h:(zk (m.take s)).length< (zy m).length,(zy m)[(zk (m.take s)).length]=(s:Int):=by
 have ht:zk (m.take (s+1))=zk (m.take s)++[m[s]]:=by
  rw[List.take_succ_eq_append_getElem hs,zaO,if_neg fun h=>hnew ((zN _).1 h)]
 have hle:(zk (m.take (s+1))).length≤(zk m).length:=by
  have hn:=(zc2 (m.take (s+1)))
  have hsub:zk (m.take (s+1)) ⊆ zk m:=fun x hx=>(zN _).2 (List.mem_of_mem_take ((zN _).1 hx))
  exact zmS hn hsub
 have h1:(zk (m.take s)).length< (zk m).length:=by rw[ht,List.length_append,List.length_singleton] at hle;omega
 refine⟨by unfold zy;rw[List.length_map];exact h1,?_⟩
 simp only[zy,List.getElem_map]
 have hp:=zwu m (s+1) (i:=(zk (m.take s)).length) (by rw[ht,List.length_append];simp) h1
 have:(zk (m.take (s+1)))[(zk (m.take s)).length]'(by rw[ht,List.length_append];simp)=m[s]:=by
  simp only[ht,List.getElem_concat_length]
 rw[hp,this]
 obtain⟨p,hpp,_,_,hpn⟩:=zb4 hs
 rw[zH hpp,hpn.2 hnew]
end Go.Proofs.YtomdbjfdbkejoaaGreatDoor
namespace Go.Proofs.YtomdbjfdbkejoaaGreatDoor
open Go Go.V Go.Proofs
end Go.Proofs.YtomdbjfdbkejoaaGreatDoor
namespace Go.Proofs.YtomdbjfdbkejoaaGreatDoor
open Go Go.V Go.Proofs
end Go.Proofs.YtomdbjfdbkejoaaGreatDoor
namespace Go.Proofs.YtomdbjfdbkejoaaGreatDoor
open Go Go.V Go.Proofs
end Go.Proofs.YtomdbjfdbkejoaaGreatDoor
namespace Go.Proofs.YtomdbjfdbkejoaaGreatDoor
open Go Go.V Go.Proofs
section
variable {α β:Type} [DecidableEq α] [DecidableEq β]
theorem zuu {l:List α} {c:Nat} (hc:c<l.length): ∃ (n:Nat) (h:n< (zk l).length),(zg l)[c]'(by rw[zr];exact hc)=(n:Nat)∧(zk l)[n]=l[c]:=by
 obtain⟨n,hn⟩:=zab ((zN l).2 (List.getElem_mem hc))
 obtain⟨h1,h2⟩:=z6 hn
 rw[List.getElem?_eq_getElem h1,Option.some.injEq] at h2
 exact⟨n,h1,by rw[zca hc,zH hn],h2⟩
end
theorem zhs {d:DfaT} {s c:Nat} (hs:s<d.next.length) (hc:c<d.of.length):toD d (s:Nat) c=atL d.next[s] d.of[c]:=by
 unfold toD
 rw[Int.toNat_natCast,List.getD_eq_getElem?_getD,List.getElem?_eq_getElem hs,List.getD_eq_getElem?_getD,List.getElem?_eq_getElem hc];rfl
theorem zkB {m:List Int} {j:Nat} (hj:j< (zy m).length): ∃ (x:Nat) (h:j< (zk m).length) (hx:x<m.length),(zy m)[j]=(x:Nat)∧place m m[x]=some x∧m[x]=(zk m)[j]:=by
 have h:j< (zk m).length:=by unfold zy at hj;rwa [List.length_map] at hj
 obtain⟨x,hx⟩:=zab ((zN m).1 (List.getElem_mem h))
 obtain⟨h1,h2⟩:=z6 hx
 rw[List.getElem?_eq_getElem h1,Option.some.injEq] at h2
 exact⟨x,h,h1,by simp only[zy,List.getElem_map];exact zH hx,by rw[h2];exact hx,h2⟩
theorem zxb {d:DfaT} {m:List Int} (hst:zbv d m) {s:Nat} (hs:s<m.length): ∃ (j x:Nat) (hj:j< (zy m).length) (hx:x<d.next.length) (hx2:x<d.label.length) (hs1:s<d.next.length) (hs2:s<d.label.length),(zg m)[s]'(by rw[zr];exact hs)=(j:Nat)∧(zy m)[j]=(x:Nat)∧d.label[s]=d.label[x]∧zeP (zg m) d.next[s] d.next[x]:=by
 obtain⟨hok,hml,hsp⟩:=hst
 have hnl:=hok.2.2.1
 obtain⟨j,hj,e1,e2⟩:=zuu hs
 have hjh:j< (zy m).length:=by unfold zy;rwa [List.length_map]
 obtain⟨x,h,hx,e3,e4,e5⟩:=zkB hjh
 have hpl:place m m[s]=some x:=by rw[←e2,←e5];exact e4
 obtain⟨f1,f2⟩:=hsp s x hs Ko Ko Ko Ko hpl
 exact⟨j,x,hjh,by omega,by omega,by omega,by omega,e1,e3,f1,f2⟩
theorem zyi {d:DfaT} {m:List Int} (hst:zbv d m) (hl:d.of.length=256) {s c:Nat} (hs:s<m.length) (hc:c<256):toD (ofD d m) (atL (zg m) (s:Nat)) c=atL (zg m) (toD d (s:Nat) c):=by
 obtain⟨j,x,hj,hx,hx2,hs1,hs2,e1,e2,e3,⟨e4,e5⟩⟩:=zxb hst hs
 obtain⟨hk1,hk2,hk3,hk4,hk5,hk6,hk7⟩:=id hst.1
 have hnm:s< (zg m).length:=by rw[zr];exact hs
 have hcd:c<d.of.length:=by omega
 have hjn:j< (ofD d m).next.length:=by simp only[ofD,List.length_map];exact hj
 have g1:atL (zg m) ((s:Nat):Int)=(j:Nat):=by rw[zU (by simpa using hnm)];simp only[Int.toNat_natCast];exact e1
 rw[g1,zhs hjn (show c< (ofD d m).of.length from hcd),zhs hs1 hcd]
 have g2:(ofD d m).next[j]=(d.next[x]).map (atL (zg m)):=by
  simp only[ofD,List.getElem_map,zee]
  rw[e2,Int.toNat_natCast,List.getD_eq_getElem?_getD,List.getElem?_eq_getElem hx];rfl
 rw[g2]
 show atL _ d.of[c]=_
 have hoc:=zbs hst.1 (List.getElem_mem hcd)
 obtain⟨y,hy⟩:=Int.eq_ofNat_of_zero_le hoc.1
 rw[hy] at hoc⊢
 have w1:=(hk7 s hs1 hs2).1
 have hys:y< (d.next[s]).length:=by omega
 have hyx:y< (d.next[x]).length:=by omega
 rw[zU (l:=(d.next[x]).map (atL (zg m))) (by simpa using hyx),zU (l:=d.next[s]) (by simpa using hys)]
 simp only[Int.toNat_natCast,List.getElem_map]
 exact(e5 y hys).symm
theorem zoT {d:DfaT} {m:List Int} (hst:zbv d m) {s:Nat} (hs:s<m.length):atL (ofD d m).label (atL (zg m) (s:Nat))=atL d.label (s:Nat):=by
 obtain⟨j,x,hj,hx,hx2,hs1,hs2,e1,e2,e3,_⟩:=zxb hst hs
 have hnm:s< (zg m).length:=by rw[zr];exact hs
 have g1:atL (zg m) ((s:Nat):Int)=(j:Nat):=by rw[zU (by simpa using hnm)];simp only[Int.toNat_natCast];exact e1
 have hjn:j< (ofD d m).label.length:=by simp only[ofD,List.length_map];exact hj
 rw[g1,zU (by simpa using hjn),zU (by simpa using hs2)]
 simp only[Int.toNat_natCast,ofD,List.getElem_map]
 rw[e2,Int.toNat_natCast,List.getD_eq_getElem?_getD,List.getElem?_eq_getElem hx2,e3];rfl
theorem zuv {m:List Int} (h:0<m.length):atL (zg m) 0=0:=by
 have hnm:0< (zg m).length:=by rw[zr];exact h
 rw[zU (by simpa using hnm)]
 show(zg m)[0]=0
 rw[zft h,List.take_succ_eq_append_getElem h,List.take_zero,List.nil_append]
 have h1:zk [m[0]]=[m[0]]:=by rw[show[m[0]]=([]:List Int)++[m[0]] from rfl,zaO,zgh,if_neg (List.not_mem_nil)]
 rw[h1]
 have h2:place [m[0]] m[0]=some 0:=zeo (ks:=[]) (List.not_mem_nil)
 rw[zH h2];rfl
theorem zzc {d:DfaT} {m:List Int} (hst:zbv d m) (hl:d.of.length=256) (w:List UInt8):zaj (ofD d m) w=atL (zg m) (zaj d w):=by
 have hml:m.length=d.label.length:=hst.2.1
 have hk1:=hst.1.1
 have key: ∀i,i≤w.length→zaj (ofD d m) (w.take i)=atL (zg m) (zaj d (w.take i)):=by
  intro i
  induction i with
  |zero=>intro _;rw[List.take_zero];exact(zuv Ko).symm
  |succ i ih=>
   intro h
   rw[zdA (ofD d m) w h,zdA d w h,ih Ko]
   obtain⟨h1,h2⟩:=za6 hst.1 hl (w.take i)
   obtain⟨t,ht⟩:=Int.eq_ofNat_of_zero_le h1
   rw[ht] at h2⊢
   exact zyi hst hl Ko w[i].toNat_lt
 have:=key w.length (Nat.le_refl _)
 rwa [List.take_length] at this
theorem zyj {d:DfaT} {m:List Int} (hst:zbv d m) (hl:d.of.length=256) (w:List UInt8):zX (ofD d m) w=zX d w:=by
 unfold zX
 rw[zzc hst hl]
 obtain⟨h1,h2⟩:=za6 hst.1 hl w
 obtain⟨t,ht⟩:=Int.eq_ofNat_of_zero_le h1
 rw[ht] at h2⊢
 exact zoT hst (by have:=hst.2.1;omega)
theorem zgr (d:DfaT) (m:List Int):(ofD d m).label.length=(zk m).length:=by simp only[ofD,List.length_map,zy]
theorem zkC {d:DfaT} {m:List Int} (hst:zbv d m):zc (ofD d m):=by
 obtain⟨hk1,hk2,hk3,hk4,hk5,hk6,hk7⟩:=id hst.1
 have hml:m.length=d.label.length:=hst.2.1
 have htl:=zai m
 have hpos:0< (zk m).length:=by
  have:=(zN m).2 (List.getElem_mem (l:=m) (n:=0) Ko)
  exact List.length_pos_of_mem this
 have hll:=zgr d m
 refine⟨by omega,by omega,by simp only[ofD,List.length_map],hk4,hk5,hk6,fun j h h2=>?_⟩
 have hj:j< (zy m).length:=by simp only[ofD,List.length_map] at h;exact h
 obtain⟨x,hjt,hx,e1,e2,e3⟩:=zkB hj
 have hxn:x<d.next.length:=by omega
 have hxl:x<d.label.length:=by omega
 obtain⟨hw1,hw2,hw3,hw4⟩:=hk7 x hxn hxl
 have g2:(ofD d m).next[j]=(d.next[x]).map (atL (zg m)):=by
  simp only[ofD,List.getElem_map,zee]
  rw[e1,Int.toNat_natCast,List.getD_eq_getElem?_getD,List.getElem?_eq_getElem hxn];rfl
 have g3:(ofD d m).label[j]=d.label[x]:=by
  simp only[ofD,List.getElem_map]
  rw[e1,Int.toNat_natCast,List.getD_eq_getElem?_getD,List.getElem?_eq_getElem hxl];rfl
 rw[g2,g3]
 refine⟨by rw[List.length_map];exact hw1,hw2,hw3,fun t ht=>?_⟩
 obtain⟨y,hy,rfl⟩:=List.mem_map.1 ht
 have hyb:=hw4 y hy
 have hyn:y.toNat< (zg m).length:=by rw[zr];omega
 rw[zU hyn]
 have:=zbd (List.getElem_mem hyn)
 omega
theorem zlA {d:DfaT} {m:List Int} (hst:zbv d m) {s t:Nat} (hs:s<m.length) (ht:t<m.length) (h1:s<d.label.length) (h2:t<d.label.length) (h3:s<d.next.length) (h4:t<d.next.length) (e:m[s]=m[t]):d.label[s]=d.label[t]∧zeP (zg m) d.next[s] d.next[t]:=by
 obtain⟨x,hx⟩:=zab (List.getElem_mem hs)
 obtain⟨hx1,_⟩:=z6 hx
 have hx':place m m[t]=some x:=by rw[←e];exact hx
 have hml:m.length=d.label.length:=hst.2.1
 have hnl:=hst.1.2.2.1
 obtain⟨a1,a2,a3⟩:=hst.2.2 s x hs h1 Ko h3 Ko hx
 obtain⟨b1,b2,b3'⟩:=hst.2.2 t x ht h2 Ko h4 Ko hx'
 refine⟨a1.trans b1.symm,a2.trans b2.symm,fun k hk=>?_⟩
 rw[a3 k hk,b3' k Ko]
end Go.Proofs.YtomdbjfdbkejoaaGreatDoor
namespace Go.Proofs.YtomdbjfdbkejoaaGreatDoor
open Go Go.V Go.Proofs
def zZ (n:Nat):List Int:=(List.range n).map fun i:Nat=>(i:Int)
theorem zaq (n:Nat):(zZ n).length=n:=by unfold zZ;rw[List.length_map,List.length_range]
theorem zbj {n i:Nat} (h:i<n):(zZ n)[i]'(by rw[zaq];exact h)=(i:Int):=by unfold zZ;rw[List.getElem_map,List.getElem_range]
theorem zmT (n:Nat):zZ (n+1)=zZ n++[(n:Int)]:=by unfold zZ;rw[List.range_succ,List.map_append];rfl
theorem zda {n:Nat} {x:Int}:x∈zZ n↔0≤x∧x<n:=by
 unfold zZ
 rw[List.mem_map]
 constructor
 ·rintro⟨i,hi,rfl⟩
  have:=List.mem_range.1 hi
  omega
 ·rintro⟨h0,h1⟩
  obtain⟨i,rfl⟩:=Int.eq_ofNat_of_zero_le h0
  exact⟨i,List.mem_range.2 Ko,rfl⟩
theorem zoU {n:Nat} {W X:List Int} (h:W++X=zZ n):W=zZ W.length∧W.length≤n:=by
 have hl:W.length≤n:=by have:=congrArg List.length h;rw[List.length_append,zaq] at this;omega
 refine⟨List.ext_getElem (by rw[zaq]) fun i h1 h2=>?_,hl⟩
 rw[zbj h1]
 have h3:i< (W++X).length:=by rw[List.length_append];omega
 have e1:(W++X)[i]'h3=W[i]:=List.getElem_append_left h1
 rw[←e1]
 simp only[h]
 exact zbj Ko
theorem zwv (a b:List Int): ∃X,zk (a++b)=zk a++X:=by
 induction b using zgI with
 |h0=>exact⟨[],by rw[List.append_nil,List.append_nil]⟩
 |h1 l k ih=>
  obtain⟨X,e⟩:=ih
  rw[←List.append_assoc,zaO]
  split
  ·exact⟨X,e⟩
  ·exact⟨X++[k],by rw[e,List.append_assoc]⟩
theorem zmU (m:List Int) (L:Nat): ∃X,zk m=zk (m.take L)++X:=by
 have:=zwv (m.take L) (m.drop L)
 rwa [List.take_append_drop] at this
def mN (m:List Int) (L:Nat):Nat:=(zk (m.take L)).length
theorem zjC {m:List Int} {L:Nat} (h:L<m.length):mN m (L+1)=mN m L+if m[L]∈m.take L then 0 else 1:=zfw m h
theorem zkD {m:List Int} (hm:zg m=m) {s:Nat} (h:s<m.length):m[s]=zz (zk m) m[s]:=by
 have:=zca h
 rw[←this]
 simp only[hm]
theorem zf2 {m:List Int} (hm:zg m=m) {L:Nat} {x:Int} (hx:x∈m.take L):0≤x∧x<mN m L:=by
 obtain⟨i,hi,e⟩:=List.getElem_of_mem ((zN _).2 hx)
 obtain⟨X,eX⟩:=zmU m L
 have hi2:i< (zk m).length:=by rw[eX,List.length_append];omega
 have e2:(zk m)[i]=x:=by
  rw[←e]
  have:(zk (m.take L)++X)[i]'(by rw[List.length_append];omega)=(zk (m.take L))[i]:=List.getElem_append_left hi
  rw[←this]
  simp only[eX]
 obtain⟨s,hs,rfl⟩:=List.getElem_of_mem (List.mem_of_mem_take hx)
 have hf:zz (zk m) m[s]=(i:Nat):=by
  rw[←e2]
  exact zH (zdx (zc2 m) hi2)
 rw[zkD hm hs,hf]
 unfold mN
 omega
theorem zic {m:List Int} (hm:zg m=m) {s:Nat} (h:s<m.length) (hn:m[s]∉m.take s):m[s]=(mN m s:Nat):=by
 have h1:=(zf2 hm (L:=s+1) (x:=m[s]) (zdj Ko Ko))
 rw[zjC h,if_neg hn] at h1
 have h3: ∀i:Nat,i<mN m s→(i:Int)∈m.take s:=fun i hi=>by
  have e1:(zk (m.take s))[i]'hi∈m.take s:=(zN _).1 (List.getElem_mem hi)
  have e2:(zk (m.take s))[i]'hi=(i:Nat):=by
   obtain⟨X,eX⟩:=zmU m s
   have hi2:i< (zk m).length:=by rw[eX,List.length_append];unfold mN at hi;omega
   have e3:(zk m)[i]=(zk (m.take s))[i]'hi:=by
    have:(zk (m.take s)++X)[i]'(by rw[List.length_append];unfold mN at hi;omega)=(zk (m.take s))[i]'hi:=List.getElem_append_left hi
    rw[←this]
    simp only[eX]
   obtain⟨t,ht,et⟩:=List.getElem_of_mem (List.mem_of_mem_take e1)
   rw[←et,zkD hm ht,et,←e3]
   exact zH (zdx (zc2 m) hi2)
  rw[e2] at e1
  exact e1
 obtain⟨v,hv⟩:=Int.eq_ofNat_of_zero_le h1.1
 have: ¬v<mN m s:=fun hlt=>hn (by rw[hv];exact h3 v hlt)
 omega
theorem zP {m:List Int} {s:Nat} (h:s<m.length):atL m (s:Nat)=m[s]:=by
 rw[zU (by rw[Int.toNat_natCast];exact h)]
 simp only[Int.toNat_natCast]
theorem zmV: ∀ {ts W:List Int},(∀t∈ts,t∈W)→addN W ts=W
 | [],W,_=>rfl
 |t::ts,W,h=>by
  rw[zcu]
  have:add1 W t=W:=by unfold add1;rw[if_pos (h t (List.mem_cons_self ..))]
  rw[this]
  exact zmV fun x hx=>h x (List.mem_cons_of_mem _ hx)
theorem zkE {m:List Int} (hm:zg m=m): ∀ (ts:List Int) {L L2:Nat},L2≤m.length→addN (zZ L) ts=zZ L2→L≤L2∧addN (zZ (mN m L)) (ts.map (atL m))=zZ (mN m L2)
 | [],L,L2,_,h=>by
  have:L=L2:=by have:=congrArg List.length h;rw[zh7,zaq,zaq] at this;exact this
  subst this
  exact⟨Nat.le_refl _,rfl⟩
 |t::ts,L,L2,h2,h=>by
  rw[zcu] at h
  rw[List.map_cons,zcu]
  by_cases ht:t∈zZ L
  ·have e1:add1 (zZ L) t=zZ L:=by unfold add1;rw[if_pos ht]
   rw[e1] at h
   obtain⟨g1,g2⟩:=zkE hm ts h2 h
   have hb:=zda.1 ht
   obtain⟨s,rfl⟩:=Int.eq_ofNat_of_zero_le hb.1
   have hs:s<m.length:=by omega
   have e2:add1 (zZ (mN m L)) (atL m (s:Nat))=zZ (mN m L):=by
    unfold add1
    rw[if_pos]
    rw[zP hs]
    exact zda.2 (zf2 hm (zdj Ko Ko))
   rw[e2]
   exact⟨g1,g2⟩
  ·have e1:add1 (zZ L) t=zZ L++[t]:=by unfold add1;rw[if_neg ht]
   rw[e1] at h
   obtain⟨X,eX⟩:=zh8 ts (zZ L++[t])
   rw[eX] at h
   obtain⟨g1,g2⟩:=zoU h
   rw[List.length_append,zaq,List.length_singleton] at g1 g2
   rw[g1] at eX h
   have hL:L<m.length:=by omega
   rw[zmT] at g1
   have htL:t=(L:Nat):=by
    have:=List.append_cancel_left g1
    simpa using this
   rw[h] at eX
   obtain⟨k1,k2⟩:=zkE hm ts h2 eX
   refine⟨by omega,?_⟩
   subst htL
   have e2:add1 (zZ (mN m L)) (atL m (L:Nat))=zZ (mN m (L+1)):=by
    rw[zP hL,zjC hL]
    unfold add1
    by_cases hin:m[L]∈m.take L
    ·rw[if_pos (zda.2 (zf2 hm hin)),if_pos hin];rfl
    ·rw[if_neg hin,zmT,if_neg,zic hm hL hin]
     intro hc
     have:=zda.1 hc
     rw[zic hm hL hin] at this
     omega
   rw[e2]
   exact k2
theorem zlB {d:DfaT} (hr:zM d=zZ d.label.length) {j:Nat} (hj:j≤d.label.length): ∃L,L≤d.label.length∧(j<d.label.length→j<L)∧bw (zJ d) [0] j=zZ L:=by
 have hw:bw (zJ d) [0] d.label.length=zZ d.label.length:=hr
 obtain⟨X,eX⟩:=zf0 (zJ d) [0] j (d.label.length - j)
 rw[Nat.add_sub_cancel' hj,hw] at eX
 obtain⟨g1,g2⟩:=zoU eX.symm
 refine⟨_,g2,fun hlt=>?_,g1⟩
 apply Classical.byContradiction
 intro hn
 have:=zdB (on:=zJ d) (W0:=[0]) (i:=j) Ko (d.label.length - j)
 rw[Nat.add_sub_cancel' hj,hw] at this
 have h2:=congrArg List.length this
 rw[zaq] at h2
 omega
theorem zmW {d:DfaT} {m:List Int} (hm:zg m=m) {i s:Nat} (hi:i< (zy m).length) (he:(zy m)[i]=(s:Nat)) (hs:s<d.next.length):zJ (ofD d m) (i:Nat)=d.next[s].map (atL m):=by
 unfold zJ
 rw[Int.toNat_natCast,List.getD_eq_getElem?_getD]
 show(((zy m).map fun s=>zee d m s.toNat)[i]?).getD []=_
 rw[List.getElem?_map,List.getElem?_eq_getElem hi]
 show zee d m (zy m)[i].toNat=_
 rw[he]
 unfold zee
 rw[Int.toNat_natCast,List.getD_eq_getElem?_getD,List.getElem?_eq_getElem hs,hm]
 rfl
theorem zqN (m:List Int):mN m 0=0:=by unfold mN;rw[List.take_zero];rfl
theorem zuw (m:List Int):mN m m.length=(zk m).length:=by unfold mN;rw[List.take_length]
theorem zlC {d:DfaT} (hr:zM d=zZ d.label.length) {m:List Int} (hm:zg m=m) (hst:zbv d m):zM (ofD d m)=zZ (zk m).length:=by
 obtain⟨hok,hml,_⟩:=id hst
 have hk1:=hok.1
 have hk3:=hok.2.2.1
 have key: ∀j,j≤d.label.length→ ∃L,L≤d.label.length∧(j<d.label.length→j<L)∧bw (zJ d) [0] j=zZ L∧bw (zJ (ofD d m)) [0] (mN m j)=zZ (mN m L):=fun j=>by
  induction j with
  |zero=>
   intro _
   obtain⟨L,g1,g2,g3⟩:=zlB hr (Nat.zero_le _)
   refine⟨L,g1,g2,g3,?_⟩
   have hL:L=1:=by have:=congrArg List.length g3;rw[zaq] at this;exact this.symm
   subst hL
   rw[zqN,zjC (show 0<m.length by omega),zqN,if_neg (by rw[List.take_zero];exact List.not_mem_nil)]
   rfl
  |succ j ih=>
   intro hj
   obtain⟨L,g1,g2,g3,g4⟩:=ih Ko
   obtain⟨L',k1,k2,k3⟩:=zlB hr hj
   have hjL:j<L:=g2 Ko
   have hjm:j<m.length:=by omega
   have hjn:j<d.next.length:=by omega
   refine⟨L',k1,k2,k3,?_⟩
   have hlen:j< (bw (zJ d) [0] j).length:=by rw[g3,zaq];exact hjL
   have hget:(bw (zJ d) [0] j)[j]'hlen=(j:Nat):=by simp only[g3];exact zbj hjL
   have hstep:addN (zZ L) d.next[j]=zZ L':=by
    rw[←k3,zcl hlen,hget,zae hjn,g3]
   obtain⟨hLL,hadd⟩:=zkE hm d.next[j] Ko hstep
   rw[zjC hjm]
   by_cases hin:m[j]∈m.take j
   ·rw[if_pos hin,Nat.add_zero,g4]
    obtain⟨j0,hj0,e0⟩:=(zaQ hjm).1 hin
    have hj0m:j0<m.length:=by omega
    obtain⟨_,hsl,hsr⟩:=zlA hst hj0m hjm Ko Ko Ko hjn e0
    have hall: ∀t∈d.next[j].map (atL m),t∈zZ (mN m L):=fun t ht=>by
     obtain⟨x,hx,rfl⟩:=List.mem_map.1 ht
     obtain⟨k,hk,rfl⟩:=List.getElem_of_mem hx
     have hk0:k<d.next[j0].length:=by omega
     have e:=hsr k hk0
     rw[hm] at e
     rw[←e]
     have hj0len:j0< (bw (zJ d) [0] j0).length:=by
      obtain⟨L0,_,a2,a3⟩:=zlB hr (show j0≤d.label.length by omega)
      rw[a3,zaq];exact a2 Ko
     have hin2:d.next[j0][k]∈bw (zJ d) [0] (j0+1):=by
      rw[zcl hj0len]
      have hg0:(bw (zJ d) [0] j0)[j0]'hj0len=(j0:Nat):=by
       obtain⟨L0,_,a2,a3⟩:=zlB hr (show j0≤d.label.length by omega)
       simp only[a3]
       exact zbj (a2 Ko)
      rw[hg0,zae Ko]
      exact zgn.2 (.inr (List.getElem_mem hk0))
     obtain⟨Y,eY⟩:=zf0 (zJ d) [0] (j0+1) (j - (j0+1))
     rw[Nat.add_sub_cancel' Ko,g3] at eY
     have hin3:d.next[j0][k]∈zZ L:=by rw[eY];exact List.mem_append_left _ hin2
     obtain⟨p0,p1⟩:=zda.1 hin3
     obtain⟨v,hv⟩:=Int.eq_ofNat_of_zero_le p0
     rw[hv] at p1⊢
     rw[zP (show v<m.length by omega)]
     exact zda.2 (zf2 hm (zdj Ko Ko))
    rw[zmV hall] at hadd
    exact hadd
   ·rw[if_neg hin]
    obtain⟨q1,q2⟩:=zut hjm hin
    have hnew:=zic hm hjm hin
    have hlt:mN m j<mN m L:=by
     have:=zf2 hm (L:=L) (zdj hjL Ko:m[j]∈m.take L)
     rw[hnew] at this
     omega
    have hlen2:mN m j< (bw (zJ (ofD d m)) [0] (mN m j)).length:=by rw[g4,zaq];exact hlt
    have hget2:(bw (zJ (ofD d m)) [0] (mN m j))[mN m j]'hlen2=(mN m j:Nat):=by simp only[g4];exact zbj hlt
    have hq:zJ (ofD d m) (mN m j:Nat)=d.next[j].map (atL m):=zmW hm q1 q2 hjn
    rw[zcl hlen2,hget2,hq,g4]
    exact hadd
 obtain⟨L,g1,_,g3,g4⟩:=key d.label.length (Nat.le_refl _)
 have hL:L=d.label.length:=by
  have hw:bw (zJ d) [0] d.label.length=zZ d.label.length:=hr
  rw[hw] at g3
  have:=congrArg List.length g3
  rw[zaq,zaq] at this
  exact this.symm
 subst hL
 rw[←hml,zuw] at g4
 show bw (zJ (ofD d m)) [0] (ofD d m).label.length=_
 rw[zgr]
 exact g4
end Go.Proofs.YtomdbjfdbkejoaaGreatDoor
namespace Go.Proofs.YtomdbjfdbkejoaaGreatDoor
open Go Go.V Go.Proofs
theorem zi5 {d:DfaT} (h:d.next.length=d.label.length) {s t:Nat} (hs:s<d.label.length) (ht:t<d.label.length):atL (lvl d 0) (s:Nat)=atL (lvl d 0) (t:Nat)↔atL d.label (s:Nat)=atL d.label (t:Nat):=by
 rw[zP (by rw[zal h];omega),zP (by rw[zal h];omega),zP hs,zP ht]
 exact zhY h hs ht
theorem zi6 {d:DfaT} (h:d.next.length=d.label.length) (i:Nat) {s t:Nat} (hs:s<d.label.length) (ht:t<d.label.length):atL (lvl d (i+1)) (s:Nat)=atL (lvl d (i+1)) (t:Nat)↔atL (lvl d i) (s:Nat)=atL (lvl d i) (t:Nat)∧ ∀c:Nat,c<d.width.toNat→atL (lvl d i) (atL (zJ d (s:Nat)) c)=atL (lvl d i) (atL (zJ d (t:Nat)) c):=by
 rw[zP (by rw[zal h];omega),zP (by rw[zal h];omega),zP (by rw[zal h];omega),zP (by rw[zal h];omega),zae Ko,zae Ko]
 exact zeS h i Ko Ko
structure HomP (A B:DfaT) (f:Nat→Nat):Prop where
 w:A.width=B.width
 dom: ∀s:Nat,s<A.label.length→f s<B.label.length
 lab: ∀s:Nat,s<A.label.length→atL A.label (s:Nat)=atL B.label (f s:Nat)
 nxt: ∀s:Nat,s<A.label.length→ ∀k:Nat,k<A.width.toNat→ ∃t:Nat,t<A.label.length∧atL (zJ A (s:Nat)) k=(t:Nat)∧atL (zJ B (f s:Nat)) k=(f t:Nat)
theorem zjD {A B:DfaT} {f:Nat→Nat} (hA:A.next.length=A.label.length) (hB:B.next.length=B.label.length) (h:HomP A B f): ∀ (i:Nat) {s t:Nat},s<A.label.length→t<A.label.length→(atL (lvl A i) (s:Nat)=atL (lvl A i) (t:Nat)↔atL (lvl B i) (f s:Nat)=atL (lvl B i) (f t:Nat))
 |0,s,t,hs,ht=>by rw[zi5 hA hs ht,zi5 hB (h.dom s hs) (h.dom t ht),h.lab s hs,h.lab t ht]
 |i+1,s,t,hs,ht=>by
  rw[zi6 hA i hs ht,zi6 hB i (h.dom s hs) (h.dom t ht),zjD hA hB h i hs ht,h.w]
  refine and_congr Iff.rfl ?_
  constructor
  ·intro g c hc
   obtain⟨x,hx,e1,e2⟩:=h.nxt s hs c (by rw[h.w];exact hc)
   obtain⟨y,hy,e3,e4⟩:=h.nxt t ht c (by rw[h.w];exact hc)
   have:=g c hc
   rw[e1,e3,zjD hA hB h i hx hy] at this
   rw[e2,e4]
   exact this
  ·intro g c hc
   obtain⟨x,hx,e1,e2⟩:=h.nxt s hs c (by rw[h.w];exact hc)
   obtain⟨y,hy,e3,e4⟩:=h.nxt t ht c (by rw[h.w];exact hc)
   have:=g c hc
   rw[e2,e4,←zjD hA hB h i hx hy] at this
   rw[e1,e3]
   exact this
theorem zmi {l:List Int} (h:l.Nodup):zk l=l:=by
 induction l using zgI with
 |h0=>rfl
 |h1 l k ih=>
  rw[List.nodup_append] at h
  obtain⟨h1,_,h3⟩:=h
  rw[zaO,ih h1,if_neg fun hk=>h3 k hk k (List.mem_singleton.2 rfl) rfl]
theorem zlD (n:Nat):(zZ n).Nodup:=by
 rw[List.nodup_iff_pairwise_ne,List.pairwise_iff_getElem]
 intro i j hi hj hij
 rw[zaq] at hi hj
 rw[zbj hi,zbj hj]
 omega
theorem zlE {n:Nat} {x:Int} (h:0≤x∧x<n):zz (zZ n) x=x:=zi4 h
theorem zux (n:Nat):zg (zZ n)=zZ n:=by
 unfold zg
 rw[zmi (zlD n)]
 refine List.ext_getElem (by rw[List.length_map]) fun i h1 h2=>?_
 rw[List.getElem_map]
 exact zlE (zda.1 (List.getElem_mem _))
theorem zww {l:List Int} (hn:zg l=l) (hd:l.Nodup):l=zZ l.length:=by
 have hk: ∀s,s≤l.length→mN l s=s:=fun s=>by
  intro hs
  unfold mN
  rw[zmi (List.Sublist.nodup (List.take_sublist _ _) hd),List.length_take]
  omega
 refine List.ext_getElem (by rw[zaq]) fun i h1 h2=>?_
 rw[zbj h1]
 have hni:l[i]∉l.take i:=fun hm=>by
  obtain⟨j,hj,e⟩:=(zaQ h1).1 hm
  have:=(List.getElem_inj hd).1 e
  omega
 rw[zic hn h1 hni,hk i Ko]
theorem zAv {d:DfaT} (hok:zc d):ofD d (zZ d.label.length)=d:=by
 obtain⟨hk1,hk2,hk3,hk4,hk5,hk6,hk7⟩:=id hok
 have hh:zy (zZ d.label.length)=zZ d.label.length:=by
  unfold zy
  rw[zmi (zlD _)]
  refine List.ext_getElem (by rw[List.length_map]) fun i h1 h2=>?_
  rw[List.getElem_map]
  exact zlE (zda.1 (List.getElem_mem _))
 refine DfaT.ext' rfl rfl ?_ ?_ rfl
 ·show(zy (zZ d.label.length)).map _=_
  rw[hh]
  refine List.ext_getElem (by rw[List.length_map,zaq];omega) fun i h1 h2=>?_
  rw[List.getElem_map,zbj Ko]
  unfold zee
  rw[Int.toNat_natCast,List.getD_eq_getElem?_getD,List.getElem?_eq_getElem h2,zux]
  show d.next[i].map _=_
  refine(List.map_congr_left fun x hx=>?_).trans (List.map_id _)
  obtain⟨g1,g2⟩:=(hk7 i h2 Ko).2.2.2 x hx
  obtain⟨v,rfl⟩:=Int.eq_ofNat_of_zero_le g1
  rw[zP (by rw[zaq];omega)]
  exact zbj Ko
 ·show(zy (zZ d.label.length)).map _=_
  rw[hh]
  refine List.ext_getElem (by rw[List.length_map,zaq]) fun i h1 h2=>?_
  rw[List.getElem_map,zbj h2,Int.toNat_natCast,List.getD_eq_getElem?_getD,List.getElem?_eq_getElem h2]
  rfl
end Go.Proofs.YtomdbjfdbkejoaaGreatDoor
namespace Go.Proofs.YtomdbjfdbkejoaaGreatDoor
open Go Go.V Go.Proofs
theorem zid {m:List Int} (hm:zg m=m) {s:Nat} (hs:s<m.length): ∃v:Nat,v< (zk m).length∧m[s]=(v:Nat):=by
 have h:=zf2 hm (L:=m.length) (x:=m[s]) (by rw[List.take_length];exact List.getElem_mem hs)
 rw[zuw] at h
 obtain⟨v,hv⟩:=Int.eq_ofNat_of_zero_le h.1
 exact⟨v,by omega,hv⟩
theorem zie {m:List Int} (hm:zg m=m) {p:Nat} (hp:p< (zk m).length): ∃ (x:Nat) (h:p< (zy m).length) (hx:x<m.length),(zy m)[p]=(x:Nat)∧m[x]=(p:Nat):=by
 have hph:p< (zy m).length:=by unfold zy;rwa [List.length_map]
 obtain⟨x,h,hx,e3,e4,e5⟩:=zkB hph
 refine⟨x,hph,hx,e3,?_⟩
 rw[zkD hm hx,e5]
 exact zH (zdx (zc2 m) h)
theorem zzd {d:DfaT} {m:List Int} (hm:zg m=m) (hst:zbv d m):HomP d (ofD d m) (fun s=>(atL m (s:Nat)).toNat):=by
 obtain⟨hok,hml,_⟩:=id hst
 obtain⟨hk1,hk2,hk3,hk4,hk5,hk6,hk7⟩:=id hok
 refine⟨rfl,fun s hs=>?_,fun s hs=>?_,fun s hs k hk=>?_⟩
 ·obtain⟨v,hv,e⟩:=zid hm (show s<m.length by omega)
  rw[zP Ko,e,zgr,Int.toNat_natCast]
  exact hv
 ·obtain⟨v,hv,e⟩:=zid hm (show s<m.length by omega)
  have h:=zoT hst (s:=s) Ko
  rw[hm] at h
  have e2:atL m (s:Nat)=(v:Nat):=by rw[zP Ko,e]
  rw[e2] at h⊢
  rw[Int.toNat_natCast,h]
 ·obtain⟨v,hv,e⟩:=zid hm (show s<m.length by omega)
  have e2:atL m (s:Nat)=(v:Nat):=by rw[zP Ko,e]
  obtain⟨x,hph,hx,e3,e4⟩:=zie hm hv
  have hsn:s<d.next.length:=by omega
  have hxn:x<d.next.length:=by omega
  obtain⟨_,hsl,hsr⟩:=zlA hst (show s<m.length by omega) hx Ko Ko hsn hxn (by rw[e,e4])
  obtain⟨w1,_,_,w4⟩:=hk7 s hsn Ko
  have hkl:k<d.next[s].length:=by omega
  obtain⟨t0,t1⟩:=w4 _ (List.getElem_mem hkl)
  obtain⟨t,ht⟩:=Int.eq_ofNat_of_zero_le t0
  refine⟨t,by omega,?_,?_⟩
  ·rw[zae hsn,zP hkl,ht]
  ·have hr:=hsr k hkl
   rw[hm,ht] at hr
   show atL (zJ (ofD d m) ((atL m (s:Nat)).toNat:Nat)) k=((atL m (t:Nat)).toNat:Nat)
   rw[e2,Int.toNat_natCast,zmW hm hph e3 hxn]
   have hkx:k<d.next[x].length:=by omega
   rw[zP (by rw[List.length_map];exact hkx),List.getElem_map,←hr]
   obtain⟨u,hu,eu⟩:=zid hm (show t<m.length by omega)
   rw[zP (show t<m.length by omega),eu,Int.toNat_natCast]
theorem zze {d:DfaT} (hok:zc d):zbh (ofD d (zbh d 65536)) 65536=zZ (ofD d (zbh d 65536)).label.length:=by
 have hst:=zdQ hok
 have e0:=zeW hok 65536
 obtain⟨m,hmd⟩: ∃m,m=zbh d 65536:=⟨_,rfl⟩
 rw[←hmd] at hst e0⊢
 have hm:zg m=m:=by rw[e0];exact zcH d 65536
 have hml:=hst.2.1
 have hoS:=zkC hst
 have hA:=hok.2.2.1
 have hB:=hoS.2.2.1
 have hh:=fun(x y:Nat) (hx:x<d.label.length) (hy:y<d.label.length)=>zjD hA hB (zzd hm hst) 65536 (s:=x) (t:=y) hx hy
 have hlen:(lvl (ofD d m) 65536).length=(ofD d m).label.length:=by rw[zal hB,hB]
 rw[zeW hoS]
 have key:=zww (zcH (ofD d m) 65536) (by
  rw[List.nodup_iff_pairwise_ne,List.pairwise_iff_getElem]
  intro p q hp hq hpq e
  have hp':=hp
  have hq':=hq
  rw[hlen,zgr] at hp' hq'
  obtain⟨x,_,hx,_,ex⟩:=zie hm hp'
  obtain⟨y,_,hy,_,ey⟩:=zie hm hq'
  have h1:=hh x y Ko Ko
  simp only[zP hx,zP hy,ex,ey,Int.toNat_natCast] at h1
  rw[zP hp,zP hq] at h1
  have h2:=h1.2 e
  rw[←e0,zP hx,zP hy,ex,ey] at h2
  omega)
 rw[hlen] at key
 exact key
theorem zeh {d:DfaT} (hok:zc d):zM (zL d)=zZ (zL d).label.length:=by
 have h:=zsl hok
 have hl:(zL d).label.length=(zM d).length:=(zcw d (zM d)).2
 rw[hl]
 exact h
theorem zes {d:DfaT} (hok:zc d):zc (zau d).1∧(zau d).2=0∧zau (zau d).1=((zau d).1,0)∧zbh (zau d).1 65536=zZ (zau d).1.label.length∧(zau d).1.label.length=(zk (zbh (zL d) 65536)).length∧(zau d).1.label.length≤(zM d).length:=by
 have htk:zc (zL d):=zeH hok (zbL hok)
 have hst:=zdQ htk
 have haf:=zze htk
 have hm:zg (zbh (zL d) 65536)=zbh (zL d) 65536:=by rw[zeW htk];exact zcH _ _
 have hqr:=zlC (zeh hok) hm hst
 have hoS:=zkC hst
 rw[zdC hok]
 show zc (ofD (zL d) (zbh (zL d) 65536))∧(0 :Int)=0∧zau (ofD (zL d) (zbh (zL d) 65536))=(ofD (zL d) (zbh (zL d) 65536),0)∧_
 have hl:=zgr (zL d) (zbh (zL d) 65536)
 refine⟨hoS,rfl,?_,haf,hl,?_⟩
 ·rw[zdC hoS]
  obtain⟨S,hS⟩: ∃S,S=ofD (zL d) (zbh (zL d) 65536):=⟨_,rfl⟩
  rw[←hS] at hoS haf hqr hl⊢
  have htr:zL S=S:=by
   unfold zL
   rw[hqr,←hl]
   exact zyg hoS
  rw[htr,haf,zAv hoS]
 ·show(ofD (zL d) (zbh (zL d) 65536)).label.length≤_
  rw[hl]
  have h1:=zai (zbh (zL d) 65536)
  have h2:=hst.2.1
  have h3:(zL d).label.length=(zM d).length:=(zcw d (zM d)).2
  omega
end Go.Proofs.YtomdbjfdbkejoaaGreatDoor
namespace Go.Proofs.YtomdbjfdbkejoaaGreatDoor
open Go Go.V Go.Proofs
theorem zwx {d:DfaT} (hok:zc d):HomP (zL d) d (fun i=>(atL (zM d) (i:Nat)).toNat):=by
 obtain⟨hk1,hk2,hk3,hk4,hk5,hk6,hk7⟩:=id hok
 have hO:=zdl hok
 have hK:=zbL hok
 have hl:(zL d).label.length=(zM d).length:=(zcw d (zM d)).2
 have hat: ∀i:Nat,(hi:i< (zM d).length)→ ∃v:Nat,v<d.label.length∧(zM d)[i]=(v:Nat):=fun i hi=>by
  obtain⟨g1,g2⟩:=hO.2 _ (List.getElem_mem hi)
  obtain⟨v,hv⟩:=Int.eq_ofNat_of_zero_le g1
  exact⟨v,by omega,hv⟩
 refine⟨rfl,fun s hs=>?_,fun s hs=>?_,fun s hs k hk=>?_⟩
 ·rw[hl] at hs
  obtain⟨v,hv,e⟩:=hat s hs
  rw[zP hs,e,Int.toNat_natCast]
  exact hv
 ·have hs2:=hs
  rw[hl] at hs
  obtain⟨v,hv,e⟩:=hat s hs
  have h:=zfd (d:=d) hs
  rw[zP hs2,zP hs,e,Int.toNat_natCast,zP hv]
  rw[e,Int.toNat_natCast,List.getD_eq_getElem?_getD,List.getElem?_eq_getElem hv] at h
  exact h
 ·rw[hl] at hs
  obtain⟨v,hv,e⟩:=hat s hs
  have hvn:v<d.next.length:=by omega
  obtain⟨w1,_,_,w4⟩:=hk7 v hvn Ko
  have hk:k<d.width.toNat:=hk
  have hkl:k<d.next[v].length:=by omega
  have hin:d.next[v][k]∈zM d:=by
   refine hK.2 _ (List.getElem_mem hs) _ ?_
   rw[e,zae hvn]
   exact List.getElem_mem hkl
  obtain⟨t,ht,f1,f2⟩:=zgq hin
  refine⟨t,by omega,?_,?_⟩
  ·show atL (zJ (zah d (zM d)) (s:Nat)) k=_
   rw[zlz hs,e]
   unfold zc9
   rw[zae hvn,zP (by rw[List.length_map];exact hkl),List.getElem_map,f1]
  ·show atL (zJ d ((atL (zM d) (s:Nat)).toNat:Nat)) k=((atL (zM d) (t:Nat)).toNat:Nat)
   rw[zP hs,e,Int.toNat_natCast,zae hvn,zP hkl,zP ht,f2]
   have:=(w4 _ (List.getElem_mem hkl)).1
   omega
end Go.Proofs.YtomdbjfdbkejoaaGreatDoor
namespace Go.Proofs.YtomdbjfdbkejoaaGreatDoor
open Go Go.V Go.Proofs
theorem zsm {d:DfaT} (hok:zc d) (hof:d.of.length=256) (w:List UInt8):zX (zau d).1 w=zX d w:=by
 have htk:zc (zL d):=zeH hok (zbL hok)
 rw[zdC hok]
 show zX (ofD (zL d) (zbh (zL d) 65536)) w=_
 rw[zyj (zdQ htk) hof,←zmR hok hof (zbL hok)]
 rfl
end Go.Proofs.YtomdbjfdbkejoaaGreatDoor
namespace Go.Proofs.YtomdbjfdbkejoaaGreatDoor
open Go Go.V Go.Proofs
def zfz (d:DfaT) (s:Int) (w:List UInt8):Int:=w.foldl (fun s b=>toD d s b.toNat) s
def zdR (d:DfaT) (s:Int) (w:List UInt8):Int:=atL d.label (zfz d s w)
theorem zdD (d:DfaT) (u v:List UInt8):zaj d (u++v)=zfz d (zaj d u) v:=by unfold zaj zfz;rw[List.foldl_append]
theorem zc0 (d:DfaT) (u v:List UInt8):zX d (u++v)=zdR d (zaj d u) v:=by unfold zX zdR;rw[zdD]
def zcX (d:DfaT):Prop:= ∀s t:Nat,s<d.label.length→t<d.label.length→(∀w,zdR d s w=zdR d t w)→s=t
theorem zif {d:DfaT} (hok:zc d) (hof:d.of.length=256) {k:Nat} (hk:k<d.width.toNat): ∃b:UInt8,d.of.getD b.toNat 0=(k:Nat):=by
 obtain⟨hk1,hk2,hk3,hk4,hk5,hk6,hk7⟩:=id hok
 obtain⟨x,_,hx,_,e⟩:=zie hk4 (p:=k) Ko
 have hb:(UInt8.ofNat x).toNat=x:=by rw[UInt8.toNat_ofNat'];omega
 exact⟨UInt8.ofNat x,by rw[hb,List.getD_eq_getElem?_getD,List.getElem?_eq_getElem hx];exact e⟩
theorem zei {d:DfaT} {b:UInt8} {k:Nat} (h:d.of.getD b.toNat 0=(k:Nat)) (s:Int):toD d s b.toNat=atL (zJ d s) (k:Nat):=by
 unfold toD zJ
 rw[h]
theorem zkF {d:DfaT} (hok:zc d) (hof:d.of.length=256): ∀ (i:Nat) {s t:Nat},s<d.label.length→t<d.label.length→(∀w,zdR d s w=zdR d t w)→atL (lvl d i) (s:Nat)=atL (lvl d i) (t:Nat)
 |0,s,t,hs,ht,h=>(zi5 hok.2.2.1 hs ht).2 (h [])
 |i+1,s,t,hs,ht,h=>(zi6 hok.2.2.1 i hs ht).2 ⟨zkF hok hof i hs ht h,fun c hc=>by
   obtain⟨b,hb⟩:=zif hok hof hc
   obtain⟨x0,x1⟩:=zhm hok hof (s:=(s:Nat)) Ko b.toNat_lt
   obtain⟨y0,y1⟩:=zhm hok hof (s:=(t:Nat)) Ko b.toNat_lt
   obtain⟨x,hx⟩:=Int.eq_ofNat_of_zero_le x0
   obtain⟨y,hy⟩:=Int.eq_ofNat_of_zero_le y0
   have hw: ∀w,zdR d x w=zdR d y w:=fun w=>by
    have:=h (b::w)
    unfold zdR zfz at this⊢
    rw[List.foldl_cons,List.foldl_cons,hx,hy] at this
    exact this
   rw[←zei hb,←zei hb,hx,hy]
   exact zkF hok hof i Ko Ko hw⟩
theorem zwy {d:DfaT} (hok:zc d) (hof:d.of.length=256) (h:zbh d 65536=zZ d.label.length):zcX d:=fun s t hs ht hw=>by
 have:=zkF hok hof 65536 hs ht hw
 rw[←zeW hok,h,zP (by rw[zaq];exact hs),zP (by rw[zaq];exact ht),zbj hs,zbj ht] at this
 omega
def zaW (R:Int→Int→Prop):List Int→List Int→Prop
 | [],[]=>True
 |a::l,b::m=>R a b∧zaW R l m
 |_,_=>False
section all2
variable {R:Int→Int→Prop}
theorem zaW.len: ∀ {a b:List Int},zaW R a b→a.length=b.length
 | [],[],_=>rfl
 |_::_,_::_,h=>by rw[List.length_cons,List.length_cons,zaW.len h.2]
 | [],_::_,h=>h.elim
 |_::_,[],h=>h.elim
theorem zaW.get: ∀ {a b:List Int},zaW R a b→ ∀ {i:Nat} (h1:i<a.length) (h2:i<b.length),R a[i] b[i]
 | [],_,_,_,h1,_=>absurd h1 (Nat.not_lt_zero _)
 |_::_,[],_,_,_,h2=>absurd h2 (Nat.not_lt_zero _)
 |_::_,_::_,h,0,_,_=>h.1
 |_::_,_::_,h,i+1,h1,h2=>zaW.get h.2 (Nat.lt_of_succ_lt_succ h1) (Nat.lt_of_succ_lt_succ h2)
theorem zaW.of_get: ∀ {a b:List Int},a.length=b.length→(∀ (i:Nat) (h1:i<a.length) (h2:i<b.length),R a[i] b[i])→zaW R a b
 | [],[],_,_=>trivial
 |_::_,_::_,e,h=>⟨h 0 (Nat.zero_lt_succ _) (Nat.zero_lt_succ _),zaW.of_get (Nat.succ.inj e) fun i h1 h2=>h (i+1) (Nat.succ_lt_succ h1) (Nat.succ_lt_succ h2)⟩
 | [],_::_,e,_=>by cases e
 |_::_,[],e,_=>by cases e
theorem zaW.app: ∀ {a b:List Int} {x y:Int},zaW R a b→R x y→zaW R (a++[x]) (b++[y])
 | [],[],_,_,_,h=>⟨h,trivial⟩
 |_::_,_::_,_,_,h,h2=>⟨h.1,zaW.app h.2 h2⟩
 | [],_::_,_,_,h,_=>h.elim
 |_::_,[],_,_,h,_=>h.elim
theorem zaW.memL: ∀ {a b:List Int} {x:Int},zaW R a b→x∈a→ ∃y,y∈b∧R x y
 | [],_,_,_,h=>by cases h
 |_::_,[],_,h,_=>h.elim
 |c::_,d::_,x,h,hx=>by
  rcases List.mem_cons.1 hx with rfl|hx
  ·exact⟨d,List.mem_cons_self ..,h.1⟩
  ·obtain⟨y,h1,h2⟩:=zaW.memL h.2 hx
   exact⟨y,List.mem_cons_of_mem _ h1,h2⟩
theorem zaW.memR: ∀ {a b:List Int} {y:Int},zaW R a b→y∈b→ ∃x,x∈a∧R x y
 |_,[],_,_,h=>by cases h
 | [],_::_,_,h,_=>h.elim
 |c::_,d::_,x,h,hx=>by
  rcases List.mem_cons.1 hx with rfl|hx
  ·exact⟨c,List.mem_cons_self ..,h.1⟩
  ·obtain⟨y,h1,h2⟩:=zaW.memR h.2 hx
   exact⟨y,List.mem_cons_of_mem _ h1,h2⟩
variable (hf: ∀x y y',R x y→R x y'→y=y') (hg: ∀x x' y,R x y→R x' y→x=x')
include hf hg
theorem zaW.add1 {W V:List Int} {x y:Int} (h:zaW R W V) (hxy:R x y):zaW R (add1 W x) (add1 V y):=by
 have hm:x∈W↔y∈V:=by
  constructor
  ·intro hx
   obtain⟨z,h1,h2⟩:=h.memL hx
   rwa [hf _ _ _ hxy h2]
  ·intro hy
   obtain⟨z,h1,h2⟩:=h.memR hy
   rwa [hg _ _ _ hxy h2]
 unfold Proofs.YtomdbjfdbkejoaaGreatDoor.add1
 by_cases hx:x∈W
 ·rw[if_pos hx,if_pos (hm.1 hx)];exact h
 ·rw[if_neg hx,if_neg fun e=>hx (hm.2 e)];exact h.app hxy
theorem zaW.addN: ∀ {ts us W V:List Int},zaW R ts us→zaW R W V→zaW R (addN W ts) (addN V us)
 | [],[],_,_,_,h=>h
 |t::ts,u::us,W,V,h1,h=>by
  rw[zcu,zcu]
  exact zaW.addN (ts:=ts) (us:=us) h1.2 (h.add1 hf hg h1.1)
 | [],_::_,_,_,h,_=>h.elim
 |_::_,[],_,_,h,_=>h.elim
theorem zaW.bw {onA onB:Int→List Int} (hs: ∀x y,R x y→zaW R (onA x) (onB y)) {W0 V0:List Int} (h0:zaW R W0 V0): ∀j,zaW R (bw onA W0 j) (bw onB V0 j)
 |0=>h0
 |j+1=>by
  have ih:=zaW.bw hs h0 j
  have hl:=ih.len
  by_cases h:j< (Proofs.YtomdbjfdbkejoaaGreatDoor.bw onA W0 j).length
  ·rw[zcl h,zcl (show j< (Proofs.YtomdbjfdbkejoaaGreatDoor.bw onB V0 j).length by omega)]
   exact zaW.addN hf hg (hs _ _ (ih.get h Ko)) ih
  ·rw[zer Ko,zer Ko];exact ih
end all2
def zfe (A B:DfaT) (x y:Int):Prop:= ∃w,zaj A w=x∧zaj B w=y
theorem zoV {A B:DfaT} (hB:zc B) (hof:B.of.length=256) (pB:zcX B) (ht: ∀w,zX A w=zX B w) (x y y':Int) (h1:zfe A B x y) (h2:zfe A B x y'):y=y':=by
 obtain⟨u,e1,e2⟩:=h1
 obtain⟨v,e3,e4⟩:=h2
 have hu:=za6 hB hof u
 have hv:=za6 hB hof v
 rw[e2] at hu
 rw[e4] at hv
 obtain⟨p,rfl⟩:=Int.eq_ofNat_of_zero_le hu.1
 obtain⟨q,rfl⟩:=Int.eq_ofNat_of_zero_le hv.1
 have:=pB p q Ko Ko fun w=>by
  rw[←e2,←e4,←zc0,←zc0,←ht,←ht,zc0,zc0,e1,e3]
 rw[this]
theorem zmX {A B:DfaT} {x y:Int} (h:zfe A B x y):zfe B A y x:=by
 obtain⟨w,e1,e2⟩:=h
 exact⟨w,e2,e1⟩
theorem zi7 {d:DfaT} (hok:zc d) {s:Int} (hs:0≤s∧s<d.label.length):(zJ d s).length=d.width.toNat:=by
 obtain⟨v,rfl⟩:=Int.eq_ofNat_of_zero_le hs.1
 have h3:=hok.2.2.1
 have h7:=(hok.2.2.2.2.2.2 v Ko Ko).1
 rw[zae Ko]
 omega
theorem zoW {A B:DfaT} (hA:zc A) (hB:zc B) (ho:A.of=B.of):A.width=B.width:=by
 have h1:=hA.2.2.2.2.1
 have h2:=hB.2.2.2.2.1
 rw[ho] at h1
 omega
theorem zuy {A B:DfaT} (hA:zc A) (hB:zc B) (hof:A.of.length=256) (ho:A.of=B.of) (x y:Int) (h:zfe A B x y):zaW (zfe A B) (zJ A x) (zJ B y):=by
 obtain⟨w,rfl,rfl⟩:=h
 have hofB:B.of.length=256:=by rw[←ho];exact hof
 have l1:=zi7 hA (za6 hA hof w)
 have l2:=zi7 hB (za6 hB hofB w)
 have hww:=zoW hA hB ho
 refine zaW.of_get Ko fun i h1 h2=>?_
 obtain⟨b,hb⟩:=zif hA hof (k:=i) Ko
 refine⟨w++[b],?_,?_⟩
 ·rw[zdD]
  show toD A (zaj A w) b.toNat=_
  rw[zei hb,zP h1]
 ·rw[zdD]
  show toD B (zaj B w) b.toNat=_
  rw[zei (by rw[←ho];exact hb),zP h2]
theorem zsn {d:DfaT} (hok:zc d) (hof:d.of.length=256) {s:Int} (h:s∈zM d): ∃w,zaj d w=s:=by
 refine zfN (on:=zJ d) (W0:=[0]) (X:=fun s=> ∃w,zaj d w=s) (fun x hx=>⟨[],(List.mem_singleton.1 hx).symm⟩) (fun x hX t ht=>?_) _ s h
 obtain⟨w,rfl⟩:=hX
 obtain⟨k,hk,rfl⟩:=List.getElem_of_mem ht
 have hl:=zi7 hok (za6 hok hof w)
 obtain⟨b,hb⟩:=zif hok hof (k:=k) Ko
 refine⟨w++[b],?_⟩
 rw[zdD]
 show toD d (zaj d w) b.toNat=_
 rw[zei hb,zP hk]
theorem zlF {d:DfaT} (hok:zc d) (hof:d.of.length=256) (hr:zM d=zZ d.label.length) {s:Nat} (h:s<d.label.length): ∃w,zaj d w=(s:Nat):=zsn hok hof (by rw[hr];exact zda.2 Ko)
theorem zwz {A B:DfaT} (hA:zc A) (hB:zc B) (hof:A.of.length=256) (ho:A.of=B.of) (hn:A.names=B.names) (rA:zM A=zZ A.label.length) (rB:zM B=zZ B.label.length) (pA:zcX A) (pB:zcX B) (ht: ∀w,zX A w=zX B w):A=B:=by
 have hofB:B.of.length=256:=by rw[←ho];exact hof
 have hf:=zoV hB hofB pB ht
 have hg: ∀x x' y,zfe A B x y→zfe A B x' y→x=x':=fun x x' y h1 h2=>zoV hA hof pA (fun w=>(ht w).symm) y x x' (zmX h1) (zmX h2)
 have hst:=zuy hA hB hof ho
 have h0:zaW (zfe A B) [0] [0]:=⟨⟨[],rfl,rfl⟩,trivial⟩
 have key:=zaW.bw hf hg hst h0 (A.label.length+B.label.length)
 have eA:bw (zJ A) [0] (A.label.length+B.label.length)=zZ A.label.length:=by
  have h1:bw (zJ A) [0] A.label.length=zZ A.label.length:=rA
  rw[zdB (by rw[h1,zaq];exact Nat.le_refl _),h1]
 have eB:bw (zJ B) [0] (A.label.length+B.label.length)=zZ B.label.length:=by
  have h1:bw (zJ B) [0] B.label.length=zZ B.label.length:=rB
  rw[Nat.add_comm,zdB (by rw[h1,zaq];exact Nat.le_refl _),h1]
 rw[eA,eB] at key
 have hl:=key.len
 rw[zaq,zaq] at hl
 have own: ∀i:Nat,i<A.label.length→zfe A B (i:Nat) (i:Nat):=fun i hi=>by
  have:=key.get (i:=i) (by rw[zaq];exact hi) (by rw[zaq];omega)
  rwa [zbj hi,zbj Ko] at this
 have hA3:=hA.2.2.1
 have hB3:=hB.2.2.1
 refine DfaT.ext' ho (zoW hA hB ho) ?_ ?_ hn
 ·refine List.ext_getElem Ko fun i h1 h2=>?_
  have hr:=hst _ _ (own i Ko)
  rw[zae h1,zae h2] at hr
  refine List.ext_getElem hr.len fun k k1 k2=>?_
  have hk:=hr.get k1 k2
  have hb:=(hA.2.2.2.2.2.2 i h1 Ko).2.2.2 _ (List.getElem_mem k1)
  obtain⟨v,hv⟩:=Int.eq_ofNat_of_zero_le hb.1
  rw[hv] at hk⊢
  exact hf _ _ _ (own v Ko) hk
 ·refine List.ext_getElem hl fun i h1 h2=>?_
  obtain⟨w,e1,e2⟩:=own i h1
  have:=ht w
  unfold zX at this
  rw[e1,e2,zP h1,zP h2] at this
  exact this
end Go.Proofs.YtomdbjfdbkejoaaGreatDoor
namespace Go.Proofs.YtomdbjfdbkejoaaGreatDoor
open Go Go.V Go.Proofs
abbrev Tx:=List UInt8
def zdf (l:List Tx):Prop:=l.Pairwise fun a b=>a<b
def zkG:List Tx→Tx→List Tx
 | [],s=>[s]
 |x::l,s=>if x<s then x::zkG l s else s::x::l
def zmj (l:List Tx) (s:Tx):List Tx:=if s∈l then l else zkG l s
theorem tri {a b:Tx} (h: ¬a<b) (h2: ¬b<a):a=b:=List.le_antisymm (List.not_lt.1 h2) (List.not_lt.1 h)
theorem zkH {x s:Tx}: ∀ {l:List Tx},x∈zkG l s↔x∈l∨x=s
 | []=>by simp [zkG]
 |y::l=>by
  unfold zkG
  split
  ·rw[List.mem_cons,zkH,List.mem_cons]
   constructor
   ·rintro(h|h|h)
    ·exact .inl (.inl h)
    ·exact .inl (.inr h)
    ·exact .inr h
   ·rintro((h|h)|h)
    ·exact .inl h
    ·exact .inr (.inl h)
    ·exact .inr (.inr h)
  ·rw[List.mem_cons]
   constructor
   ·rintro(h|h)
    ·exact .inr h
    ·exact .inl h
   ·rintro(h|h)
    ·exact .inr h
    ·exact .inl h
theorem zyk {x s:Tx} {l:List Tx}:x∈zmj l s↔x∈l∨x=s:=by
 unfold zmj
 split
 ·rename_i h
  constructor
  ·exact fun h=> .inl h
  ·rintro(h2|rfl)
   ·exact h2
   ·exact h
 ·exact zkH
theorem zjZ {s:Tx}: ∀ {l:List Tx},zdf l→s∉l→zdf (zkG l s)
 | [],_,_=>List.pairwise_singleton _ _
 |y::l,h,hs=>by
  obtain⟨h1,h2⟩:=List.pairwise_cons.1 h
  unfold zkG
  split
  ·rename_i hys
   refine List.pairwise_cons.2 ⟨fun x hx=>?_,zjZ h2 fun h=>hs (List.mem_cons_of_mem _ h)⟩
   rcases zkH.1 hx with hx|rfl
   ·exact h1 x hx
   ·exact hys
  ·rename_i hys
   have hsy:s<y:=by
    by_cases h3:s<y
    ·exact h3
    ·exact absurd (tri h3 hys) fun e=>hs (e▸List.mem_cons_self)
   refine List.pairwise_cons.2 ⟨fun x hx=>?_,h⟩
   rcases List.mem_cons.1 hx with rfl|hx
   ·exact hsy
   ·exact List.lt_trans hsy (h1 x hx)
theorem zso {s:Tx} {l:List Tx} (h:zdf l):zdf (zmj l s):=by
 unfold zmj
 split
 ·exact h
 ·rename_i hs;exact zjZ h hs
theorem zi8: ∀ {a b:List Tx},zdf a→zdf b→(∀x,x∈a↔x∈b)→a=b
 | [],[],_,_,_=>rfl
 | [],y::b,_,_,h=>absurd ((h y).2 List.mem_cons_self) List.not_mem_nil
 |x::a,[],_,_,h=>absurd ((h x).1 List.mem_cons_self) List.not_mem_nil
 |x::a,y::b,h1,h2,h=>by
  obtain⟨p1,p2⟩:=List.pairwise_cons.1 h1
  obtain⟨q1,q2⟩:=List.pairwise_cons.1 h2
  have hxy:x=y:=by
   rcases List.mem_cons.1 ((h x).1 List.mem_cons_self) with e|hx
   ·exact e
   ·rcases List.mem_cons.1 ((h y).2 List.mem_cons_self) with e|hy
    ·exact e.symm
    ·exact absurd (q1 x hx) (List.lt_asymm (p1 y hy))
  subst hxy
  rw[zi8 p2 q2 fun z=>?_]
  constructor
  ·intro hz
   rcases List.mem_cons.1 ((h z).1 (List.mem_cons_of_mem _ hz)) with rfl|hz2
   ·exact absurd (p1 z hz) (List.lt_irrefl z)
   ·exact hz2
  ·intro hz
   rcases List.mem_cons.1 ((h z).2 (List.mem_cons_of_mem _ hz)) with rfl|hz2
   ·exact absurd (q1 z hz) (List.lt_irrefl z)
   ·exact hz2
theorem zdf.nodup {l:List Tx} (h:zdf l):l.Nodup:=List.Pairwise.imp (fun{a b} h e=>by subst e;exact List.lt_irrefl _ h) h
def zgU (l:List Tx):List Tx:=l.mergeSort fun x y=>decide (x≤y)
theorem zfo (l:List Tx):(zgU l).length=l.length:=List.length_mergeSort _
theorem zmY {x:Tx} {l:List Tx}:x∈zgU l↔x∈l:=List.mem_mergeSort
theorem zoX {l:List Tx} (h:l.Nodup):zdf (zgU l):=by
 have h1:(zgU l).Pairwise fun a b=>decide (a≤b)=true:=List.pairwise_mergeSort (fun a b c h1 h2=>by
  rw[decide_eq_true_eq] at h1 h2⊢
  exact List.le_trans h1 h2) (fun a b=>by
  rw[Bool.or_eq_true,decide_eq_true_eq,decide_eq_true_eq]
  exact List.le_total a b) l
 have h2:(zgU l).Nodup:=(List.mergeSort_perm l _).nodup_iff.2 h
 unfold zdf
 refine List.Pairwise.imp₂ (fun a b h1 h2=>?_) h1 h2
 rw[decide_eq_true_eq] at h1
 by_cases h3:a<b
 ·exact h3
 ·exact absurd (List.le_antisymm h1 (List.not_lt.1 h3)) h2
theorem zwA (l:List Int) (x:Int) (hlen:l.length≤2000000) {G:za} {H:zb} {R:Value→za→zb→Prop} {v:Value} (hv:Sl G (Value.int .i64) v l) (hR:R (.int .i64 (zz l x)) G H):FnT Tryz.prog 125 [v, .int .i64 x] G H R:=by
 obtain⟨a,cap,rfl,hrow,hcap⟩:=hv
 refine FnT.body tok [0,1,4,5,7,8,9,16] Tryz.func125 rfl Kk Kk (by show _≤19;simp) fun hsep=>?_
 rw[Tryz.results125]
 have hE:=hsep
 try simp only[zzs] at hE
 repeat(obtain⟨hx',hE⟩:=hE)
 repeat' first
  |with_reducible first|refine Nx.go ?_ |refine Bk.go (fun _=>?_) fun _=>?_ |refine Nb fun nb hnb hnb1 hnb2=>?_
  |simp -dsimp -implicitDefEqProofs (disch:=first|exact Kd|fail) only[go_sem,↓reduceIte,seval]
 refine Tri.loopU tok [0,1,4,5,7,8,9,16] Kk [0,1,4,7,8] (fun n G' fr H'=> ∃i:Nat,i+n=l.length∧(∀j (h:j<l.length),j<i→l[j]≠x)∧G'=G∧H'=H∧fr=[(0, .slice a l.length cap),(1, .int .i64 x),(4, .int .i64 0),(7, .int .i64 l.length),(8, .int .i64 i)]) (l.length) (Upd.now ?_) ?_
 ·exact⟨0,by omega,fun j _ h=>by omega,rfl,rfl,rfl⟩
 ·rintro n G' fr H' hle hs ⟨i,hi,hno,rfl,rfl,rfl⟩
  by_cases hil:i<l.length
  ·have had:Adr a:=hrow.adr (by rw[List.length_map];omega)
   repeat' first
    |with_reducible first|refine Nx.go ?_ |refine Bk.go (fun _=>?_) fun _=>?_ |refine Nb fun nb hnb hnb1 hnb2=>?_
    |simp -dsimp -implicitDefEqProofs (disch:=first|exact Kd|fail) only[go_sem,↓reduceIte,seval,Row.obj hrow,List.getElem_map]
   ·rename_i he
    have hp:place l x=some i:=by
     unfold place
     rw[List.findIdx?_eq_some_iff_getElem]
     exact⟨hil,by simp [he],fun j hj=>by have:=hno j Ko hj;simp;exact fun e=>this e.symm⟩
    rw[zH hp] at hR
    all_goals refine Upd.finL ?_ hR ?_
    any_goals first|exact Ks|skip
    rfl
   ·rename_i he
    exact Upd.now ⟨n - 1,by omega,i+1,by omega,fun j h hj=>by
     by_cases e:j=i
     ·subst e;exact fun e=>he e.symm
     ·exact hno j h Ko,rfl,rfl,rfl⟩
  ·obtain rfl:i=l.length:=by omega
   have hp:place l x=none:=zcC fun hm=>by
    obtain⟨j,hj,e⟩:=List.getElem_of_mem hm
    exact hno j hj hj e
   rw[zdL hp] at hR
   repeat' first
    |with_reducible first|refine Nx.go ?_ |refine Bk.go (fun _=>?_) fun _=>?_ |refine Nb fun nb hnb hnb1 hnb2=>?_
    |simp -dsimp -implicitDefEqProofs (disch:=first|exact Kd|fail) only[go_sem,↓reduceIte,seval]
   all_goals refine Upd.finL ?_ hR ?_
   any_goals first|exact Ks|skip
   rfl
theorem zhe (l:List Int) (x:Int) (hlen:l.length≤2000000) {G:za} {H:zb} {R:Value→za→zb→Prop} {v:Value} (hv:Sl G (Value.int .i64) v l) (hR:R (.bool (decide (x∈l))) G H):FnT Tryz.prog 98 [v, .int .i64 x] G H R:=by
 have hv0:=hv
 obtain⟨a,cap,rfl,hrow,hcap⟩:=hv
 refine FnT.body tok [0,1,4] Tryz.func98 rfl Kk Kk (by show _≤9;simp) fun hsep=>?_
 rw[Tryz.results98]
 have hE:=hsep
 try simp only[zzs] at hE
 repeat(obtain⟨hx',hE⟩:=hE)
 repeat' first
  |with_reducible first|refine Nx.go ?_ |refine Bk.go (fun _=>?_) fun _=>?_
  |simp -dsimp -implicitDefEqProofs (disch:=first|exact Kd|fail) only[go_sem,↓reduceIte,seval]
  |with_reducible refine zwA l x hlen hv0 ?_
 all_goals refine Upd.finL ?_ hR ?_
 any_goals first|exact Ks|skip
 simp only[Value.bool.injEq]
 rw[Bool.eq_iff_iff,decide_eq_true_eq,decide_eq_true_eq]
 constructor
 ·intro h
  cases hp:place l x with
  |none=>rw[zdL hp] at h;omega
  |some n=>
   obtain⟨h1,h2⟩:=z6 hp
   rw[List.getElem?_eq_getElem h1,Option.some.injEq] at h2
   exact h2▸List.getElem_mem _
 ·intro h
  obtain⟨n,hn⟩:=zab h
  rw[zH hn];omega
end Go.Proofs.YtomdbjfdbkejoaaGreatDoor
namespace Go.Proofs.YtomdbjfdbkejoaaGreatDoor
open Go Go.V Go.Proofs
end Go.Proofs.YtomdbjfdbkejoaaGreatDoor
namespace Go.Proofs.YtomdbjfdbkejoaaGreatDoor
open Go Go.V Go.Proofs
def zgs (d:DfaT) (k:Nat):List Tx:=(d.label.take k).foldl (fun l x=>if 0<x then zmj l (zaT d x) else l) []
theorem zj0 {d:DfaT} {k:Nat} (h:k<d.label.length):zgs d (k+1)=if 0<d.label[k] then zmj (zgs d k) (zaT d d.label[k]) else zgs d k:=by
 unfold zgs
 rw[List.take_succ_eq_append_getElem h,List.foldl_append,List.foldl_cons,List.foldl_nil]
def zcx (d:DfaT) (k:Nat):List Tx:=((List.range k).filter fun i:Nat=>decide ((((i:Nat):Int)+1)∈d.label)).map fun i=>d.names.getD i []
def za7 (d:DfaT):List Tx:=zgU (zcx d d.names.length)
theorem zsp {d:DfaT} {k:Nat} (h:k<d.names.length):zcx d (k+1)=if ((k:Int)+1)∈d.label then zcx d k++[d.names[k]] else zcx d k:=by
 unfold zcx
 rw[List.range_succ,List.filter_append,List.map_append]
 by_cases hk:((k:Int)+1)∈d.label
 ·rw[if_pos hk,List.filter_cons_of_pos (by simpa using hk),List.filter_nil,List.map_singleton,List.getD_eq_getElem?_getD,List.getElem?_eq_getElem h];rfl
 ·rw[if_neg hk,List.filter_cons_of_neg (by simpa using hk),List.filter_nil,List.map_nil,List.append_nil]
theorem zmZ (d:DfaT) (k:Nat):(zcx d k).length≤k:=by
 unfold zcx
 rw[List.length_map]
 exact Nat.le_trans (List.length_filter_le _ _) (by rw[List.length_range];exact Nat.le_refl _)
theorem zig {d:DfaT} {x:Tx}: ∀k,k≤d.label.length→(x∈zgs d k↔ ∃i,∃h:i<d.label.length,i<k∧0<d.label[i]∧x=zaT d d.label[i])
 |0,_=>by
  constructor
  ·intro h;cases h
  ·rintro⟨i,_,h,_⟩;omega
 |k+1,hk=>by
  rw[zj0 Ko]
  have ih:=zig (d:=d) (x:=x) k Ko
  by_cases h0:0<d.label[k]
  ·rw[if_pos h0,zyk,ih]
   constructor
   ·rintro(⟨i,h1,h2,h3,h4⟩|h)
    ·exact⟨i,h1,by omega,h3,h4⟩
    ·exact⟨k,by omega,by omega,h0,h⟩
   ·rintro⟨i,h1,h2,h3,h4⟩
    by_cases e:i=k
    ·subst e;exact .inr h4
    ·exact .inl ⟨i,h1,by omega,h3,h4⟩
  ·rw[if_neg h0,ih]
   constructor
   ·rintro⟨i,h1,h2,h3,h4⟩
    exact⟨i,h1,by omega,h3,h4⟩
   ·rintro⟨i,h1,h2,h3,h4⟩
    by_cases e:i=k
    ·subst e;exact absurd h3 h0
    ·exact⟨i,h1,by omega,h3,h4⟩
theorem zd4 (d:DfaT): ∀k,k≤d.label.length→zdf (zgs d k)
 |0,_=>List.Pairwise.nil
 |k+1,hk=>by
  rw[zj0 Ko]
  split
  ·exact zso (zd4 d k Ko)
  ·exact zd4 d k Ko
theorem zp6 {d:DfaT} (hok:zc d):d.names.Nodup:=by
 obtain⟨_,h⟩:=hok.2.2.2.2.2.1
 rw[List.nodup_iff_pairwise_ne,List.pairwise_iff_getElem]
 intro i j hi hj hij e
 refine(h j hj).2 ?_
 rw[←e,List.mem_take_iff_getElem]
 exact⟨i,by omega,rfl⟩
theorem zp7 {d:DfaT} (hok:zc d):(zcx d d.names.length).Nodup:=by
 unfold zcx
 have hn:=zp6 hok
 rw[List.nodup_iff_pairwise_ne,List.pairwise_map]
 have h1:((List.range d.names.length).filter fun i:Nat=>decide ((((i:Nat):Int)+1)∈d.label)).Nodup:=List.nodup_range.filter _
 rw[List.nodup_iff_pairwise_ne] at h1
 refine List.Pairwise.imp_of_mem (fun{a b} ha hb hne e=>?_) h1
 have ha':=List.mem_range.1 (List.mem_filter.1 ha).1
 have hb':=List.mem_range.1 (List.mem_filter.1 hb).1
 rw[List.getD_eq_getElem?_getD,List.getD_eq_getElem?_getD,List.getElem?_eq_getElem ha',List.getElem?_eq_getElem hb'] at e
 exact hne ((List.getElem_inj hn).1 e)
theorem ze1 {d:DfaT} {k:Nat} (h:k<d.names.length):zaT d ((k:Int)+1)=d.names[k]:=by
 unfold zaT
 rw[if_pos Ko,show(((k:Int)+1) - 1).toNat=k by omega,List.getD_eq_getElem?_getD,List.getElem?_eq_getElem h];rfl
theorem zqO {d:DfaT} (hok:zc d):zgs d d.label.length=za7 d:=by
 refine zi8 (zd4 d _ (Nat.le_refl _)) (zoX (zp7 hok)) fun x=>?_
 rw[zig _ (Nat.le_refl _)]
 unfold za7
 rw[zmY]
 unfold zcx
 rw[List.mem_map]
 obtain⟨hk1,hk2,hk3,hk4,hk5,hk6,hk7⟩:=hok
 constructor
 ·rintro⟨i,h1,_,h3,rfl⟩
  obtain⟨_,w2,w3,_⟩:=hk7 i Ko h1
  obtain⟨n,hn⟩: ∃n:Nat,d.label[i]=(n:Int)+1:=⟨(d.label[i] - 1).toNat,by omega⟩
  have hnl:n<d.names.length:=by omega
  refine⟨n,List.mem_filter.2 ⟨List.mem_range.2 hnl,by rw[decide_eq_true_eq,←hn];exact List.getElem_mem _⟩,?_⟩
  rw[hn,ze1 hnl,List.getD_eq_getElem?_getD,List.getElem?_eq_getElem hnl];rfl
 ·rintro⟨n,hn,rfl⟩
  obtain⟨h1,h2⟩:=List.mem_filter.1 hn
  have hnl:=List.mem_range.1 h1
  rw[decide_eq_true_eq] at h2
  obtain⟨i,hi,e⟩:=List.getElem_of_mem h2
  refine⟨i,hi,hi,by rw[e];omega,?_⟩
  rw[e,ze1 hnl,List.getD_eq_getElem?_getD,List.getElem?_eq_getElem hnl];rfl
theorem zi9 (d:DfaT):(za7 d).length≤d.names.length:=by unfold za7;rw[zfo];exact zmZ d _
noncomputable def zd5 (d:DfaT):List Tx:=if zaF (zc d)=true then za7 d else[]
theorem zih {d:DfaT} (h:zc d):zd5 d=za7 d:=by unfold zd5;rw[if_pos (zK h)]
theorem zuz {d:DfaT} (h: ¬zc d):zd5 d=[]:=by unfold zd5;rw[if_neg (by rw[zA h];decide)]
theorem zuA (d:DfaT):(zd5 d).length≤d.names.length:=by
 unfold zd5;split
 ·exact zi9 d
 ·exact Nat.zero_le _
theorem zm0 {d:DfaT} {x:Tx} (h:x∈zd5 d):x∈d.names:=by
 unfold zd5 at h
 split at h
 ·have h:=zmY.1 h
  unfold zcx at h
  obtain⟨n,hn,rfl⟩:=List.mem_map.1 h
  have hnl:=List.mem_range.1 (List.mem_filter.1 hn).1
  rw[List.getD_eq_getElem?_getD,List.getElem?_eq_getElem hnl]
  exact List.getElem_mem _
 ·cases h
def znr:Go.Shelf.Ren:=⟨fun|190=>99|125=>127|258=>126|128=>156|129=>157|302=>147|303=>148|304=>149|305=>150|306=>151|307=>152|308=>153|309=>154|310=>155|333=>164|329=>165|330=>166|334=>167|335=>168|336=>169|344=>172|n=>n,fun|31=>25|9=>9|3=>3|46=>86|0=>0|51=>32|53=>99|4=>4|183=>172|182=>171|131=>177|5=>5|218=>190|222=>194|228=>198|229=>199|n=>n,fun n=>n⟩
theorem zm1:Lays.n190 Tryz.prog znr where
 mixed:=by kernel_rfl
 f125:=Tryz.func127.trans (congrArg some Kk)
 f128:=Tryz.func156.trans (congrArg some Kk)
 f129:=Tryz.func157.trans (congrArg some Kk)
 f190:=Tryz.func99.trans (congrArg some Kk)
 f258:=Tryz.func126.trans (congrArg some Kk)
 f302:=Tryz.func147.trans (congrArg some Kk)
 f303:=Tryz.func148.trans (congrArg some Kk)
 f304:=Tryz.func149.trans (congrArg some Kk)
 f305:=Tryz.func150.trans (congrArg some Kk)
 f306:=Tryz.func151.trans (congrArg some Kk)
 f307:=Tryz.func152.trans (congrArg some Kk)
 f308:=Tryz.func153.trans (congrArg some Kk)
 f309:=Tryz.func154.trans (congrArg some Kk)
 f310:=Tryz.func155.trans (congrArg some Kk)
 f329:=Tryz.func165.trans (congrArg some Kk)
 f330:=Tryz.func166.trans (congrArg some Kk)
 f333:=Tryz.func164.trans (congrArg some Kk)
 f334:=Tryz.func167.trans (congrArg some Kk)
 f335:=Tryz.func168.trans (congrArg some Kk)
 f336:=Tryz.func169.trans (congrArg some Kk)
 f344:=Tryz.func172.trans (congrArg some Kk)
 t0:=Tryz.underlying0
 a0:=Tryz.isAgg0
 z0:=Tryz.sizeOf0
 v0:=Tryz.zeroValue0
 t3:=Tryz.underlying3
 a3:=Tryz.isAgg3
 z3:=Tryz.sizeOf3
 v3:=Tryz.zeroValue3
 t4:=Tryz.underlying4
 a4:=Tryz.isAgg4
 z4:=Tryz.sizeOf4
 v4:=Tryz.zeroValue4
 t5:=Tryz.underlying5
 a5:=Tryz.isAgg5
 z5:=Tryz.sizeOf5
 v5:=Tryz.zeroValue5
 t9:=Tryz.underlying9
 a9:=Tryz.isAgg9
 z9:=Tryz.sizeOf9
 v9:=Tryz.zeroValue9
 t31:=Tryz.underlying25
 a31:=Tryz.isAgg25
 z31:=Tryz.sizeOf25
 v31:=Tryz.zeroValue25
 t46:=Tryz.underlying86
 a46:=Tryz.isAgg86
 z46:=Tryz.sizeOf86
 v46:=Tryz.zeroValue86
 t51:=Tryz.underlying32
 a51:=Tryz.isAgg32
 z51:=Tryz.sizeOf32
 v51:=Tryz.zeroValue32
 t53:=Tryz.underlying99
 a53:=Tryz.isAgg99
 z53:=Tryz.sizeOf99
 v53:=Tryz.zeroValue99
 t131:=Tryz.underlying177
 a131:=Tryz.isAgg177
 z131:=Tryz.sizeOf177
 v131:=Tryz.zeroValue177
 t182:=Tryz.underlying171
 a182:=Tryz.isAgg171
 z182:=Tryz.sizeOf171
 v182:=Tryz.zeroValue171
 t183:=Tryz.underlying172
 a183:=Tryz.isAgg172
 z183:=Tryz.sizeOf172
 v183:=Tryz.zeroValue172
 t218:=Tryz.underlying190
 a218:=Tryz.isAgg190
 z218:=Tryz.sizeOf190
 v218:=Tryz.zeroValue190
 t222:=Tryz.underlying194
 a222:=Tryz.isAgg194
 z222:=Tryz.sizeOf194
 v222:=Tryz.zeroValue194
 t228:=Tryz.underlying198
 a228:=Tryz.isAgg198
 z228:=Tryz.sizeOf198
 v228:=Tryz.zeroValue198
 t229:=Tryz.underlying199
 a229:=Tryz.isAgg199
 z229:=Tryz.sizeOf199
 v229:=Tryz.zeroValue199
theorem zj1:V.Callee Tryz.prog 99:=⟨_,_,Tryz.func99,rfl,by kernel_rfl⟩
theorem zyl {l:List Tx} (hl:l.length≤9000000) {b cap:Nat} {sp:List Value} {G:za} {H:zb} {R:Value→za→zb→Prop}
  (hR:R (.tuple #[]) G ((b, .cells ((zgU l).map str) sp 9)::H)):FnT Tryz.prog 99 [.slice (some ⟨b,0,none⟩) l.length cap] G ((b, .cells (l.map str) sp 9)::H) R:=
 FnT.sort zj1 (zfo l) (fun w hH hb=>Any.slices_Sort_string zm1 b 0 cap l w hH hb Ko) hR
theorem zwB {a:Option Addr} {cap:Nat} {G:za} {H:zb} {R:Value→za→zb→Prop} (hR:R (.tuple #[]) G H):FnT Tryz.prog 99 [.slice a 0 cap] G H R:=
 FnT.sort0 zj1 (fun w=>Any.slices_Sort_string_none zm1 a cap w) hR
end Go.Proofs.YtomdbjfdbkejoaaGreatDoor
namespace Go.Proofs.YtomdbjfdbkejoaaGreatDoor
open Go Go.V Go.Proofs
theorem zuB {d:DfaT} (hsm:zx d) {G:za} {H:zb} {R:Value→za→zb→Prop} {v:Value} (hv:IsD G d v)
  (hR: ∀G' v',PLe G G'→Sep G' (zm H)→Sl G' str v' (zd5 d)→R v' G' H):FnT Tryz.prog 65 [v] G H R:=by
 obtain⟨C,an,al,ay,cn,cl,cs,rs,rfl,O⟩:=hv.opened
 obtain⟨hm1,hm2,hm3,hm4,hm5⟩:=id hsm
 have hCl:=O.len
 have hCa:=O.all
 have hCx:=O.l
 have hCs:=O.s
 refine FnT.sep ?_
 by_cases hok:zc d
 ·have hb:=zK hok
  have hn64:=hok.2.2.2.2.2.1.1
  rw[zih hok] at hR
  refine FnT.body tok [0,1,2,3,4,5,8,10,11,12,13,21] Tryz.func65 rfl Kk Kk (by show _≤30;simp) fun hsep=>?_
  rw[Tryz.results65]
  have hE:=hsep
  try simp only[zzs] at hE
  repeat(obtain⟨hx',hE⟩:=hE)
  repeat' first
   |with_reducible first|refine Nx.go ?_ |refine Bk.go (fun _=>?_) fun _=>?_ |refine Nb fun nb hnb hnb1 hnb2=>?_ |refine Nr fun nb nsp ncap hnb hncap hnb1 hnb2=>?_
   |simp -dsimp -implicitDefEqProofs (disch:=first|exact Kd|fail) only[go_sem,↓reduceIte,seval, -List.reduceReplicate,List.toList_toArray,hCl,hCa,hCx,hCs,hb]
   |with_reducible refine zaE hsm O.is ?_
  obtain⟨b1,e0⟩: ∃x,x=nb:=⟨_,rfl⟩
  subst e0
  refine Tri.loopU tok [0,1,2,3,4,5,8,10,11,12,13,21] Kk [1,2,3,10,11,12] (fun q G' fr H'=> ∃ (i:Nat) (vs:Value) (ks:zb),i+q=d.names.length∧G'=G∧zS [] 9 1 vs (zcx d i).length ((zcx d i).map str) ks∧H'=(b1, .cells C [] 27):: (ks++H)∧fr=[(1, .pointer (some ⟨b1,0,none⟩)),(2, .slice none 0 0),(3,vs),(10, .slice ay d.names.length cs),(11, .int .i64 d.names.length),(12, .int .i64 (i:Nat))]) (d.names.length) ?_ ?_
  ·exact Upd.now ⟨0,_,[],by omega,rfl, .inl ⟨none,rfl,rfl,rfl,rfl⟩,rfl,rfl⟩
  ·rintro q G1 fr H' hle hs ⟨i,vs,ks,hiq,rfl,hks,rfl,rfl⟩
   have hul:=zmZ d i
   by_cases hil:i<d.names.length
   ·have had:Adr ay:=O.ry.adr (by rw[List.length_map];omega)
    have hsc:=zsp hil
    by_cases hin:((i:Int)+1)∈d.label
    ·rw[if_pos hin] at hsc
     have hdi:=decide_eq_true hin
     rcases hks with ⟨aa,rfl,hi0,hx,rfl⟩| ⟨bl,cc,sp,rfl,rfl,hx,hcl⟩
     ·have hE:=hs
      try simp only[zzs] at hE
      repeat(obtain⟨hx',hE⟩:=hE)
      repeat' first
       |with_reducible first|refine Nx.go ?_ |refine Bk.go (fun _=>?_) fun _=>?_ |refine Nb fun nb hnb hnb1 hnb2=>?_ |refine Nr fun nb nsp ncap hnb hncap hnb1 hnb2=>?_
       |simp -dsimp -implicitDefEqProofs (disch:=first|exact Kd|fail) only[go_sem,↓reduceIte,seval, -List.reduceReplicate,List.toList_toArray,hCl,hCa,hCx,hCs,Row.obj O.ry,List.getElem_map,List.replicate_one,hdi]
       |with_reducible refine zhe d.label _ hm3 O.label ?_
      refine Upd.leave (H':=(b1, .cells C [] 27):: ([(nb, .cells [str d.names[i]] nsp 9)]++H)) Ks ?_
      exact⟨q - 1,by omega,i+1,_,_,by omega,rfl, .inr ⟨nb,ncap,nsp,by rw[hsc,List.length_append,hi0];rfl,by rw[hsc,List.map_append,hx];rfl,by rw[List.length_map,Nat.mul_one],by rw[hsc,List.map_append,hx];simp at hncap⊢;omega⟩,rfl,rfl⟩
     ·rw[List.length_map,Nat.mul_one] at hx hcl
      have hE:=hs
      try simp only[zzs] at hE
      repeat(obtain⟨hx',hE⟩:=hE)
      repeat' first
       |with_reducible first|refine Nx.go ?_ |refine Bk.go (fun _=>?_) fun _=>?_ |refine Nb fun nb hnb hnb1 hnb2=>?_ |refine Nr fun nb nsp ncap hnb hncap hnb1 hnb2=>?_
       |simp -dsimp -implicitDefEqProofs (disch:=first|exact Kd|fail) only[go_sem,↓reduceIte,seval, -List.reduceReplicate,List.toList_toArray,hCl,hCa,hCx,hCs,Row.obj O.ry,List.getElem_map,List.length_map,List.replicate_one,hdi]
       |with_reducible refine zhe d.label _ hm3 O.label ?_
      refine Upd.leave (H':=(b1, .cells C [] 27):: ([(nb, .cells ((zcx d i).map str++[str d.names[i]]) nsp 9)]++H)) Ks ?_
      exact⟨q - 1,by omega,i+1,_,_,by omega,rfl, .inr ⟨nb,ncap,nsp,by rw[hsc,List.length_append];rfl,by rw[hsc,List.map_append];rfl,by rw[List.length_map,Nat.mul_one],by rw[hsc];simp at hncap⊢;omega⟩,rfl,rfl⟩
    ·rw[if_neg hin] at hsc
     have hdi:=decide_eq_false hin
     have hE:=hs
     try simp only[zzs] at hE
     repeat(obtain⟨hx',hE⟩:=hE)
     repeat' first
      |with_reducible first|refine Nx.go ?_ |refine Bk.go (fun _=>?_) fun _=>?_ |refine Nb fun nb hnb hnb1 hnb2=>?_ |refine Nr fun nb nsp ncap hnb hncap hnb1 hnb2=>?_
      |simp -dsimp -implicitDefEqProofs (disch:=first|exact Kd|fail) only[go_sem,↓reduceIte,seval, -List.reduceReplicate,List.toList_toArray,hCl,hCa,hCx,hCs,Row.obj O.ry,List.getElem_map,List.replicate_one,hdi]
      |with_reducible refine zhe d.label _ hm3 O.label ?_
     exact Upd.now ⟨q - 1,by omega,i+1,vs,ks,by omega,rfl,by rw[hsc];exact hks,rfl,rfl⟩
   ·obtain rfl:i=d.names.length:=by omega
    rcases hks with ⟨aa,rfl,hi0,hx,rfl⟩| ⟨bl,cc,sp,rfl,rfl,hx,hcl⟩
    ·have hE:=hs
     try simp only[zzs] at hE
     repeat(obtain⟨hx',hE⟩:=hE)
     have h0:zcx d d.names.length=[]:=List.eq_nil_of_length_eq_zero Ko
     have hus:za7 d=[]:=List.eq_nil_of_length_eq_zero (by unfold za7;rw[zfo,h0];rfl)
     repeat' first
      |with_reducible first|refine Nx.go ?_ |refine Bk.go (fun _=>?_) fun _=>?_ |refine Nb fun nb hnb hnb1 hnb2=>?_ |refine Nr fun nb nsp ncap hnb hncap hnb1 hnb2=>?_
      |simp -dsimp -implicitDefEqProofs (disch:=first|exact Kd|fail) only[go_sem,↓reduceIte,seval, -List.reduceReplicate,List.toList_toArray,hCl,hCa]
      |with_reducible refine zwB ?_
     unfold zv
     refine Upd.leave (H':=H) Ks ?_
     exact fun _ hs=>hR G1 _ (PLe.refl _) hs ⟨_,0,by rw[hus];rfl,by rw[hus];exact Row.nil _ _,by rw[hus];exact Nat.le_refl _⟩
    ·rw[List.length_map,Nat.mul_one] at hx hcl
     have hE:=hs
     try simp only[zzs] at hE
     repeat(obtain⟨hx',hE⟩:=hE)
     repeat' first
      |with_reducible first|refine Nx.go ?_ |refine Bk.go (fun _=>?_) fun _=>?_ |refine Nb fun nb hnb hnb1 hnb2=>?_ |refine Nr fun nb nsp ncap hnb hncap hnb1 hnb2=>?_
      |simp -dsimp -implicitDefEqProofs (disch:=first|exact Kd|fail) only[go_sem,↓reduceIte,seval, -List.reduceReplicate,List.toList_toArray,hCl,hCa]
     refine FnT.leave (H':=(bl, .cells ((zcx d d.names.length).map str) sp 9):: (b1, .cells C [] 27)::H) ?_ Ks
     refine zyl Ko ?_
     repeat' first
      |with_reducible first|refine Nx.go ?_ |refine Bk.go (fun _=>?_) fun _=>?_ |refine Nb fun nb hnb hnb1 hnb2=>?_ |refine Nr fun nb nsp ncap hnb hncap hnb1 hnb2=>?_
      |simp -dsimp -implicitDefEqProofs (disch:=first|exact Kd|fail) only[go_sem,↓reduceIte,seval, -List.reduceReplicate,List.toList_toArray,hCl,hCa]
     unfold zv
     refine Upd.go (H':=(bl, .cells ((zgU (zcx d d.names.length)).map str) sp 9)::H) Ks (Upd.shareRow Ka fun G9 hle9 hs9 hr9=>?_)
     exact fun _ hs=>hR G9 _ hle9 hs ⟨some ⟨bl,0,none⟩,cc,by unfold za7;rw[zfo],hr9,by unfold za7;rw[zfo];omega⟩
 ·have hb:=zA hok
  rw[zuz hok] at hR
  refine FnT.body tok [0,1,2,3,4,5,8,10,11,12,13,21] Tryz.func65 rfl Kk Kk (by show _≤30;simp) fun hsep=>?_
  rw[Tryz.results65]
  have hE:=hsep
  try simp only[zzs] at hE
  repeat(obtain⟨hx',hE⟩:=hE)
  repeat' first
   |with_reducible first|refine Nx.go ?_ |refine Bk.go (fun _=>?_) fun _=>?_ |refine Nb fun nb hnb hnb1 hnb2=>?_ |refine Nr fun nb nsp ncap hnb hncap hnb1 hnb2=>?_
   |simp -dsimp -implicitDefEqProofs (disch:=first|exact Kd|fail) only[go_sem,↓reduceIte,seval, -List.reduceReplicate,List.toList_toArray,hCl,hCa,hCx,hCs,hb]
   |with_reducible refine zaE hsm O.is ?_
  unfold zv
  refine Upd.leave (H':=H) Ks ?_
  exact fun _ hs=>hR G _ (PLe.refl _) hs (Sl.nil _ _)
end Go.Proofs.YtomdbjfdbkejoaaGreatDoor
