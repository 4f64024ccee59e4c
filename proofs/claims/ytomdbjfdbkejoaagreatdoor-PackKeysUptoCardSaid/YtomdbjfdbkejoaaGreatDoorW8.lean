/- A part of the proof, joined of several texts: the verification layer, contracts of functions, plain law. -/
import Derived.Test.YtomdbjfdbkejoaaGreatDoorW7
set_option maxHeartbeats 64000000
set_option linter.unusedSimpArgs false
set_option linter.unusedVariables false
set_option linter.unusedSectionVars false
namespace Go.Proofs.YtomdbjfdbkejoaaGreatDoor
open Go Go.V Go.Proofs
theorem zko (xs ys:List (List UInt8)) (hlen:xs.length≤2000000) {G:za} {H:zb} {R:Value→za→zb→Prop} {v w:Value} (hv:Sl G str v xs) (hw:Sl G str w ys) (hR:R (.bool (decide (xs=ys))) G H):FnT Tryz.prog 37 [v,w] G H R:=by
 obtain⟨a,cap,rfl,hrow,hcap⟩:=hv
 obtain⟨a',cap',rfl,hrow',hcap'⟩:=hw
 refine FnT.body tok [0,1,4,5,10,12,13,14,24] Tryz.func37 rfl Kk Kk (by show _≤26;simp) fun hsep=>?_
 rw[Tryz.results37]
 have hE:=hsep
 try simp only[zzs] at hE
 repeat(obtain⟨hx',hE⟩:=hE)
 repeat' first
  |with_reducible first|refine Nx.go ?_ |refine Bk.go (fun _=>?_) fun _=>?_ |refine Nb fun nb hnb hnb1 hnb2=>?_
  |simp -dsimp -implicitDefEqProofs (disch:=first|exact Kd|fail) only[go_sem,↓reduceIte,seval]
 ·rename_i hne
  have hxy:xs.length=ys.length:=by omega
  refine Tri.loopU tok [0,1,4,5,10,12,13,14,24] Kk [0,1,4,12,13] (fun n G' l H'=> ∃i:Nat,i+n=xs.length∧(∀j (h:j<xs.length),j<i→xs[j]=ys[j])∧G'=G∧H'=H∧l=[(0, .slice a xs.length cap),(1, .slice a' ys.length cap'),(4, .bool false),(12, .int .i64 xs.length),(13, .int .i64 i)]) (xs.length) (Upd.now ?_) ?_
  ·exact⟨0,by omega,fun j _ h=>by omega,rfl,rfl,rfl⟩
  ·rintro n G' l H' hle hs ⟨i,hi,hno,rfl,rfl,rfl⟩
   by_cases hil:i<xs.length
   ·have hil':i<ys.length:=by omega
    repeat' first
     |with_reducible first|refine Nx.go ?_ |refine Bk.go (fun _=>?_) fun _=>?_ |refine Nb fun nb hnb hnb1 hnb2=>?_
     |with_reducible refine Tri.drawH tok mixed [0,1,4,5,10,12,13,14,24] 6 [3,7] (.op 0 .plain (.op 1 .plain (.op 2 .plain (.op 3 .held (.op 4 .plain (.op 5 .plain (.op 6 .plain (.op 7 .held (.op 8 .plain .nil))))))))) Kk [0,1] ?_
     |simp -dsimp -implicitDefEqProofs (disch:=first|exact Kd|fail) only[go_sem,↓reduceIte,seval,Row.obj hrow,Row.obj hrow',List.getElem_map]
    ·rename_i he
     exact Upd.now ⟨n - 1,by omega,i+1,by omega,fun j h hj=>by
      by_cases e:j=i
      ·subst e;exact he
      ·exact hno j h Ko,rfl,rfl,rfl⟩
    ·rename_i he
     rw[decide_eq_false (fun e=>he (by subst e;rfl))] at hR
     all_goals refine Upd.finL ?_ hR ?_
     any_goals first|exact Ks|skip
     rfl
   ·obtain rfl:i=xs.length:=by omega
    rw[decide_eq_true (List.ext_getElem hxy fun j h1 h2=>hno j h1 h1)] at hR
    repeat' first
     |with_reducible first|refine Nx.go ?_ |refine Bk.go (fun _=>?_) fun _=>?_ |refine Nb fun nb hnb hnb1 hnb2=>?_
     |simp -dsimp -implicitDefEqProofs (disch:=first|exact Kd|fail) only[go_sem,↓reduceIte,seval]
    all_goals refine Upd.finL ?_ hR ?_
    any_goals first|exact Ks|skip
    rfl
 ·rename_i hne
  rw[decide_eq_false (fun e=>hne (by subst e;rfl))] at hR
  all_goals refine Upd.finL ?_ hR ?_
  any_goals first|exact Ks|skip
  rfl
theorem zox {xs ys:List (List Int)} (hlen:xs.length≤2000000) (hxl: ∀x∈xs,x.length≤2000000) {ax ay:Option Addr} {cx cy:Nat} {rs rs':List Value} {G:za} {H:zb} {R:Value→za→zb→Prop}
  (hrx:Row G ax rs) (hrl:rs.length=xs.length) (hrs: ∀i (h:i<xs.length) (h2:i<rs.length),∃b c,rs[i]= .slice b xs[i].length c∧Row G b (xs[i].map (Value.int .i64))∧xs[i].length≤c)
  (hry:Row G ay rs') (hrl':rs'.length=ys.length) (hrs': ∀i (h:i<ys.length) (h2:i<rs'.length),∃b c,rs'[i]= .slice b ys[i].length c∧Row G b (ys[i].map (Value.int .i64))∧ys[i].length≤c)
  (hR:R (.bool (decide (xs=ys))) G H):FnT Tryz.prog 38 [.slice ax xs.length cx, .slice ay ys.length cy, .func (.func 36) #[] #[]] G H R:=by
 by_cases hxy:xs.length=ys.length
 ·refine FnT.body tok [0,1,2,6,7,8,9,14,15,16,17,18,30] Tryz.func38 rfl Kk Kk (by show _≤32;simp) fun hsep=>?_
  rw[Tryz.results38]
  have hE:=hsep
  try simp only[zzs] at hE
  repeat(obtain⟨hx',hE⟩:=hE)
  repeat' first
   |with_reducible first|refine Nx.go ?_ |refine Bk.go (fun _=>?_) fun _=>?_ |refine Nb fun nb hnb hnb1 hnb2=>?_
   |simp -dsimp -implicitDefEqProofs (disch:=first|exact Kd|fail) only[go_sem,↓reduceIte,seval]
  all_goals try(exfalso;omega)
  refine Tri.loopU tok [0,1,2,6,7,8,9,14,15,16,17,18,30] Kk [0,1,2,6,15,16,17] (fun n G' l H'=> ∃i:Nat,i+n=xs.length∧(∀j (h:j<xs.length),j<i→xs[j]=(ys[j]'(hxy▸h)))∧G'=G∧H'=H∧l=[(0, .slice ax xs.length cx),(1, .slice ay ys.length cy),(2, .func (.func 36) #[] #[]),(6, .bool false),(15, .slice ax xs.length cx),(16, .int .i64 xs.length),(17, .int .i64 i)]) (xs.length) (Upd.now ?_) ?_
  ·exact⟨0,by omega,fun j _ h=>by omega,rfl,rfl,rfl⟩
  ·rintro n G' l H' hle hs ⟨i,hi,hno,rfl,rfl,rfl⟩
   by_cases hil:i<xs.length
   ·have hil':i<ys.length:=by omega
    obtain⟨b,c,e1,e2,e3⟩:=hrs i hil Ko
    obtain⟨b',c',f1,f2,f3⟩:=hrs' i hil' Ko
    have had:Adr ax:=hrx.adr Ko
    have had2:Adr ay:=hry.adr Ko
    have hs1:Sl G' (Value.int .i64) (.slice b xs[i].length c) xs[i]:=⟨b,c,rfl,e2,e3⟩
    have hs2:Sl G' (Value.int .i64) (.slice b' ys[i].length c') ys[i]:=⟨b',c',rfl,f2,f3⟩
    repeat' first
     |with_reducible first|refine Nx.go ?_ |refine Bk.go (fun _=>?_) fun _=>?_ |refine Nb fun nb hnb hnb1 hnb2=>?_
     |simp -dsimp -implicitDefEqProofs (disch:=first|exact Kd|fail) only[go_sem,↓reduceIte,seval,Row.obj hrx,Row.obj hry,e1,f1]
     |with_reducible refine zhk xs[i] ys[i] (hxl _ (List.getElem_mem hil)) hs1 hs2 ?_
    ·rename_i he
     exact Upd.now ⟨n - 1,by omega,i+1,by omega,fun j h hj=>by
      by_cases e:j=i
      ·subst e;exact he
      ·exact hno j h Ko,rfl,rfl,rfl⟩
    ·rename_i he
     rw[decide_eq_false (fun e=>he (by subst e;rfl))] at hR
     all_goals refine Upd.finL ?_ hR ?_
     any_goals first|exact Ks|skip
     rfl
   ·obtain rfl:i=xs.length:=by omega
    rw[decide_eq_true (List.ext_getElem hxy fun j h1 h2=>hno j h1 h1)] at hR
    repeat' first
     |with_reducible first|refine Nx.go ?_ |refine Bk.go (fun _=>?_) fun _=>?_ |refine Nb fun nb hnb hnb1 hnb2=>?_
     |simp -dsimp -implicitDefEqProofs (disch:=first|exact Kd|fail) only[go_sem,↓reduceIte,seval]
    all_goals refine Upd.finL ?_ hR ?_
    any_goals first|exact Ks|skip
    rfl
 ·rw[decide_eq_false fun h=>hxy (congrArg List.length h)] at hR
  refine FnT.body tok [0,1,2,6,7,8,9,14,15,16,17,18,30] Tryz.func38 rfl Kk Kk (by show _≤32;simp) fun hsep=>?_
  rw[Tryz.results38]
  have hE:=hsep
  try simp only[zzs] at hE
  repeat(obtain⟨hx',hE⟩:=hE)
  repeat' first
   |with_reducible first|refine Nx.go ?_ |refine Bk.go (fun _=>?_) fun _=>?_ |refine Nb fun nb hnb hnb1 hnb2=>?_
   |simp -dsimp -implicitDefEqProofs (disch:=first|exact Kd|fail) only[go_sem,↓reduceIte,seval]
  all_goals try(exfalso;omega)
  all_goals refine Upd.finL ?_ hR ?_
  any_goals first|exact Ks|skip
  rfl
theorem zx3 {d e:DfaT} (hsm:zx d) {G:za} {H:zb} {R:Value→za→zb→Prop} {v w:Value} (hv:IsD G d v) (hw:IsD G e w) (hR:R (.bool (zaF (d=e))) G H):FnT Tryz.prog 21 [v,w] G H R:=by
 obtain⟨C,an,al,ay,cn,cl,cs,rs,rfl,O⟩:=hv.opened
 obtain⟨C',an',al',ay',cn',cl',cs',rs',rfl,O'⟩:=hw.opened
 obtain⟨hm1,hm2,hm3,hm4,hm5⟩:=id hsm
 have hCl:=O.len
 have hCw:=O.w
 have hCn:=O.n
 have hCx:=O.l
 have hCs:=O.s
 have hCo:=O.of
 have hDl:=O'.len
 have hDw:=O'.w
 have hDn:=O'.n
 have hDx:=O'.l
 have hDs:=O'.s
 have hDo:=O'.of
 have heq:eqT T 9 22 (zbO d.of) (zbO e.of)=some (decide (d.of=e.of)):=zhS (d:=7) (t:=22) (e:=5) (n:=256) (k:= .u8) rfl rfl rfl O.ofl O'.ofl
 by_cases h1:d.of=e.of
 ·by_cases h2:d.width=e.width
  ·by_cases h3:d.label=e.label
   ·by_cases h4:d.names=e.names
    ·by_cases h5:d.next=e.next
     ·rw[zK (DfaT.ext2 h1 h2 h5 h3 h4)] at hR
      refine FnT.body tok [0,1,2,3,4] Tryz.func21 rfl Kk Kk (by show _≤38;simp) fun hsep=>?_
      rw[Tryz.results21]
      have hE:=hsep
      try simp only[zzs] at hE
      repeat(obtain⟨hx',hE⟩:=hE)
      repeat' first
       |with_reducible first|refine Nx.go ?_ |refine Bk.go (fun _=>?_) fun _=>?_ |refine Nb fun nb hnb hnb1 hnb2=>?_
       |simp -dsimp -implicitDefEqProofs (disch:=first|exact Kd|fail) only[go_sem,↓reduceIte,seval, -List.reduceReplicate,List.toList_toArray,hCl,hCw,hCn,hCx,hCs,hCo,hDl,hDw,hDn,hDx,hDs,hDo,heq,decide_eq_true h1,decide_eq_true h2,decide_eq_true h3,decide_eq_true h4,decide_eq_true h5]
       |with_reducible refine zhk _ _ hm3 O.label O'.label ?_
       |with_reducible refine zko _ _ hm4 O.names O'.names ?_
       |with_reducible refine zox hm1 hm2 O.rn O.rnl O.rs O'.rn O'.rnl O'.rs ?_
      all_goals refine Upd.finL ?_ hR ?_
      any_goals first|exact Ks|skip
      all_goals rfl
     ·rw[zA fun h=>h5 (congrArg DfaT.next h)] at hR
      refine FnT.body tok [0,1,2,3,4] Tryz.func21 rfl Kk Kk (by show _≤38;simp) fun hsep=>?_
      rw[Tryz.results21]
      have hE:=hsep
      try simp only[zzs] at hE
      repeat(obtain⟨hx',hE⟩:=hE)
      repeat' first
       |with_reducible first|refine Nx.go ?_ |refine Bk.go (fun _=>?_) fun _=>?_ |refine Nb fun nb hnb hnb1 hnb2=>?_
       |simp -dsimp -implicitDefEqProofs (disch:=first|exact Kd|fail) only[go_sem,↓reduceIte,seval, -List.reduceReplicate,List.toList_toArray,hCl,hCw,hCn,hCx,hCs,hCo,hDl,hDw,hDn,hDx,hDs,hDo,heq,decide_eq_true h1,decide_eq_true h2,decide_eq_true h3,decide_eq_true h4,decide_eq_false h5]
       |with_reducible refine zhk _ _ hm3 O.label O'.label ?_
       |with_reducible refine zko _ _ hm4 O.names O'.names ?_
       |with_reducible refine zox hm1 hm2 O.rn O.rnl O.rs O'.rn O'.rnl O'.rs ?_
      all_goals refine Upd.finL ?_ hR ?_
      any_goals first|exact Ks|skip
      all_goals rfl
    ·rw[zA fun h=>h4 (congrArg DfaT.names h)] at hR
     refine FnT.body tok [0,1,2,3,4] Tryz.func21 rfl Kk Kk (by show _≤38;simp) fun hsep=>?_
     rw[Tryz.results21]
     have hE:=hsep
     try simp only[zzs] at hE
     repeat(obtain⟨hx',hE⟩:=hE)
     repeat' first
      |with_reducible first|refine Nx.go ?_ |refine Bk.go (fun _=>?_) fun _=>?_ |refine Nb fun nb hnb hnb1 hnb2=>?_
      |simp -dsimp -implicitDefEqProofs (disch:=first|exact Kd|fail) only[go_sem,↓reduceIte,seval, -List.reduceReplicate,List.toList_toArray,hCl,hCw,hCn,hCx,hCs,hCo,hDl,hDw,hDn,hDx,hDs,hDo,heq,decide_eq_true h1,decide_eq_true h2,decide_eq_true h3,decide_eq_false h4]
      |with_reducible refine zhk _ _ hm3 O.label O'.label ?_
      |with_reducible refine zko _ _ hm4 O.names O'.names ?_
     all_goals refine Upd.finL ?_ hR ?_
     any_goals first|exact Ks|skip
     all_goals rfl
   ·rw[zA fun h=>h3 (congrArg DfaT.label h)] at hR
    refine FnT.body tok [0,1,2,3,4] Tryz.func21 rfl Kk Kk (by show _≤38;simp) fun hsep=>?_
    rw[Tryz.results21]
    have hE:=hsep
    try simp only[zzs] at hE
    repeat(obtain⟨hx',hE⟩:=hE)
    repeat' first
     |with_reducible first|refine Nx.go ?_ |refine Bk.go (fun _=>?_) fun _=>?_ |refine Nb fun nb hnb hnb1 hnb2=>?_
     |simp -dsimp -implicitDefEqProofs (disch:=first|exact Kd|fail) only[go_sem,↓reduceIte,seval, -List.reduceReplicate,List.toList_toArray,hCl,hCw,hCn,hCx,hCs,hCo,hDl,hDw,hDn,hDx,hDs,hDo,heq,decide_eq_true h1,decide_eq_true h2,decide_eq_false h3]
     |with_reducible refine zhk _ _ hm3 O.label O'.label ?_
    all_goals refine Upd.finL ?_ hR ?_
    any_goals first|exact Ks|skip
    all_goals rfl
  ·rw[zA fun h=>h2 (congrArg DfaT.width h)] at hR
   refine FnT.body tok [0,1,2,3,4] Tryz.func21 rfl Kk Kk (by show _≤38;simp) fun hsep=>?_
   rw[Tryz.results21]
   have hE:=hsep
   try simp only[zzs] at hE
   repeat(obtain⟨hx',hE⟩:=hE)
   repeat' first
    |with_reducible first|refine Nx.go ?_ |refine Bk.go (fun _=>?_) fun _=>?_ |refine Nb fun nb hnb hnb1 hnb2=>?_
    |simp -dsimp -implicitDefEqProofs (disch:=first|exact Kd|fail) only[go_sem,↓reduceIte,seval, -List.reduceReplicate,List.toList_toArray,hCl,hCw,hCn,hCx,hCs,hCo,hDl,hDw,hDn,hDx,hDs,hDo,heq,decide_eq_true h1,decide_eq_false h2]
   all_goals refine Upd.finL ?_ hR ?_
   any_goals first|exact Ks|skip
   all_goals rfl
 ·rw[zA fun h=>h1 (congrArg DfaT.of h)] at hR
  refine FnT.body tok [0,1,2,3,4] Tryz.func21 rfl Kk Kk (by show _≤38;simp) fun hsep=>?_
  rw[Tryz.results21]
  have hE:=hsep
  try simp only[zzs] at hE
  repeat(obtain⟨hx',hE⟩:=hE)
  repeat' first
   |with_reducible first|refine Nx.go ?_ |refine Bk.go (fun _=>?_) fun _=>?_ |refine Nb fun nb hnb hnb1 hnb2=>?_
   |simp -dsimp -implicitDefEqProofs (disch:=first|exact Kd|fail) only[go_sem,↓reduceIte,seval, -List.reduceReplicate,List.toList_toArray,hCl,hCw,hCn,hCx,hCs,hCo,hDl,hDw,hDn,hDx,hDs,hDo,heq,decide_eq_false h1]
  all_goals refine Upd.finL ?_ hR ?_
  any_goals first|exact Ks|skip
  all_goals rfl
end Go.Proofs.YtomdbjfdbkejoaaGreatDoor
namespace Go.Proofs.YtomdbjfdbkejoaaGreatDoor
open Go Go.V Go.Proofs
def d3:DfaT:=⟨List.replicate 256 0,1,[[0]],[1],[[120]]⟩
theorem zz0:zdp [120]=true:=zep.2 ⟨by decide,by decide,fun i h=>by
 match i,(show i<1 from h) with
 |0,_=>exact(by decide:zgi 120 true=true)⟩
theorem zoy:zc d3:=by
 refine⟨by decide,by decide,rfl,by decide+kernel,by decide+kernel,?_,fun s h1 h2=>?_⟩
 ·refine⟨by decide,fun i h=>?_⟩
  have h1:i<1:=h
  match i,h1 with
  |0,_=>exact⟨zz0,(by decide: ¬([120]:List UInt8)∈([]:List (List UInt8)))⟩
 have e: ∀s:Fin 1,((d3.next[s.val]'s.isLt).length:Int)=d3.width∧0≤d3.label[s.val]'s.isLt∧d3.label[s.val]'s.isLt≤d3.names.length∧ ∀t∈d3.next[s.val]'s.isLt,0≤t∧t<d3.label.length:=by decide+kernel
 exact e ⟨s,h1⟩
theorem zoz:zx d3:=⟨by decide,by decide,by decide,by decide,by decide⟩
theorem zyX:Fit d3:=⟨zoy,List.length_replicate,fun x hx=>by
 have:x=0:=List.eq_of_mem_replicate hx
 omega⟩
theorem zlo:(zaJ d3).length=18:=by
 unfold zaJ
 rw[List.length_append,zaZ]
 have:(za5 d3).length=14:=by decide+kernel
 omega
theorem zAL:zf zI 256 [Value.int .i64 1]=zd d3 (.slice none 0 0) (.slice none 0 0) (.slice none 0 0):=by
 have h0:zI=u8L d3.of++[Value.int .i64 0,Value.slice none 0 0,Value.slice none 0 0,Value.slice none 0 0]:=by
  unfold d3 u8L
  rw[List.map_replicate]
 rw[h0]
 exact zfX (d:=d3) List.length_replicate
theorem zp1:V.Callee Tryz.prog 5:=⟨_,_,Tryz.func5,rfl,by kernel_rfl⟩
theorem zme {G:za} {H:zb} {R:Value→za→zb→Prop} (hR: ∀G',PLe G G'→Sep G' (zm H)→R (.bool true) G' H):FnT Tryz.prog 11 [] G H R:=by
 have hd:d3.of.length=256:=List.length_replicate
 have hr1: ∀x:Value,List.replicate 1 x=[x]:=fun _=>rfl
 have hl2: ∀a b c:Value,(zd d3 a b c).length=260:=fun a b c=>zat hd _ _ _
 have ht2: ∀a b c:Value,List.take 260 (zd d3 a b c)=zd d3 a b c:=fun a b c=>zdM hd _ _ _
 have hputN: ∀a b c x:Value,zf (zd d3 a b c) 257 [x]=zd d3 x b c:=fun a b c x=>zcG hd _ _ _ _
 have hputL: ∀a b c x:Value,zf (zd d3 a b c) 258 [x]=zd d3 a x c:=fun a b c x=>zbK hd _ _ _ _
 have hputS: ∀a b c x:Value,zf (zd d3 a b c) 259 [x]=zd d3 a b x:=fun a b c x=>zeQ hd _ _ _ _
 have hputz: ∀a b c:Value,zf zI 0 (zd d3 a b c)=zd d3 a b c:=fun a b c=>by
  unfold zf
  rw[List.take_zero,List.nil_append,List.drop_of_length_le (by rw[zn,hl2];omega),List.append_nil]
 have hone: ∀ (a:Option Addr) (n c:Nat) (a':Option Addr) (n' c':Nat) (a2:Option Addr) (n2 c2:Nat),(zd d3 (.slice a n c) (.slice a' n' c') (.slice a2 n2 c2)).all zaL=true:=fun _ _ _ _ _ _ _ _ _=>zbe rfl rfl rfl
 refine FnT.sep ?_
 refine FnT.body tok [0,1,2,3,4,5] Tryz.func11 rfl Kk Kk (by show _≤45;simp) fun hsep=>?_
 rw[Tryz.results11]
 have hE:=hsep
 try simp only[zzs] at hE
 repeat(obtain⟨hx',hE⟩:=hE)
 repeat' first
  |with_reducible first|refine Nx.go ?_ |refine Bk.go (fun _=>?_) fun _=>?_ |refine Nb fun nb hnb hnb1 hnb2=>?_ |refine Nr fun nb nsp ncap hnb hncap hnb1 hnb2=>?_
  |simp -dsimp -implicitDefEqProofs (disch:=first|exact Kd|fail) only[go_sem,↓reduceIte,seval, -List.reduceReplicate,List.toList_toArray,hr1,zn,zAL,hl2,ht2,hputN,hputL,hputS,hputz,hone]
 rename_i c1 y11 y12 y13 c2 y21 y22 y23 c3 y31 y32 y33 c4 y41 y42 y43
 obtain⟨b1,e0⟩: ∃x,x=nb:=⟨_,rfl⟩
 subst e0
 obtain⟨D,hD⟩: ∃D,D=zd d3 (.slice (some ⟨c2,0,none⟩) 1 1) (.slice (some ⟨c3,0,none⟩) 1 1) (.slice (some ⟨c4,0,none⟩) 1 1):=⟨_,rfl⟩
 rw[←hD]
 refine FnT.pre zp1 (Upd.go (H':=(c4, .cells [Value.string {data:= #[120]}] [] 9):: (c3, .cells [.int .i64 1] [] 3):: (c2, .cells [.slice (some ⟨c1,0,none⟩) 1 1] [] 24):: (c1, .cells [.int .i64 0] [] 3):: (b1, .cells D [] 27)::H) Ks ?_)
 refine Upd.trans (Upd.shareRow Ka fun G1 hle1 hs1 r5=>?_)
 refine Upd.trans (Upd.shareRow hs1.1.1 fun G2 hle2 hs2 r4=>?_)
 refine Upd.trans (Upd.shareRow hs2.1.1 fun G3 hle3 hs3 r3=>?_)
 refine Upd.shareRow hs3.1.1 fun G4 hle4 hs4 r2=>?_
 have k3:=hle4
 have k2:=hle3.trans k3
 have k1:=hle2.trans k2
 have k0:=hle1.trans k1
 have hI:IsD G4 d3 (.agg D.toArray):=by
  rw[hD]
  refine⟨hd,fun x hx=>?_,_,_,_,rfl,⟨some ⟨c2,0,none⟩,1,_,rfl,r3.mono k3,rfl,by decide,fun i h h2=>?_⟩,⟨some ⟨c3,0,none⟩,1,rfl,r4.mono k2,by decide⟩,⟨some ⟨c4,0,none⟩,1,rfl,r5.mono k1,by decide⟩⟩
  ·have:x=0:=List.eq_of_mem_replicate hx
   omega
  ·have h3:i<1:=h
   match i,h3 with
   |0,_=>exact⟨_,_,rfl,r2,Nat.le_refl 1⟩
 have hDl:D.length=260:=by rw[hD];exact hl2 _ _ _
 have hD1:=zmc hI
 have hDt:List.take 260 D=D:=List.take_of_length_le Ko
 have hDp:=zmd hDl
 clear hD
 refine zv0 zoz hI fun G5 v5 hle5 hs5 hsl5=>?_
 rw[zmM zoy] at hsl5⊢
 have hsl5:Sl G5 zB v5 (zaJ d3):=hsl5
 have hsl0:=hsl5
 obtain⟨a5,c5,rfl,hr5,hc5⟩:=hsl5
 rw[zlo] at *
 have hE:=hs5
 try simp only[zzs] at hE
 repeat(obtain⟨hx',hE⟩:=hE)
 repeat' first
  |with_reducible first|refine Nx.go ?_ |refine Bk.go (fun _=>?_) fun _=>?_ |refine Nb fun nb hnb hnb1 hnb2=>?_ |refine Nr fun nb nsp ncap hnb hncap hnb1 hnb2=>?_
  |simp -dsimp -implicitDefEqProofs (disch:=first|exact Kd|fail) only[go_sem,↓reduceIte,seval, -List.reduceReplicate,List.toList_toArray,hDl,hD1,hDt,hDp]
 refine zx2 (by rw[zlo];omega) hsl0 fun G6 v6 hle6 hs6 hI6=>?_
 rw[zmL zyX] at hI6⊢
 have hI6:IsD G6 d3 v6:=hI6
 obtain⟨C2,an2,al2,ay2,cn2,cl2,cs2,rs2,rfl,O2⟩:=hI6.opened
 have hC2l:=O2.len
 have hone2:=zmc O2.is
 have hput2:=zmd hC2l
 have htk2:List.take 260 C2=C2:=List.take_of_length_le Ko
 have hr6:=Row.midB (n:=4) (m:=0) (c:=c5) (l:=zaJ d3) (hr5.mono hle6) (by rw[zlo];exact hc5) (by rw[zlo];omega) Ko
 rw[List.drop_zero,(zeq d3).2.1] at hr6
 have hrd6:=Row.rdSlAll (n:=4) hr6 (by rw[List.length_map];rfl)
 have hfl:zcs=[68,66,76,49]:=rfl
 have hE:=hs6
 try simp only[zzs] at hE
 repeat(obtain⟨hx',hE⟩:=hE)
 repeat' first
  |with_reducible first|refine Nx.go ?_ |refine Bk.go (fun _=>?_) fun _=>?_ |refine Nb fun nb hnb hnb1 hnb2=>?_ |refine Nr fun nb nsp ncap hnb hncap hnb1 hnb2=>?_
  |simp -dsimp -implicitDefEqProofs (disch:=first|exact Kd|fail) only[go_sem,↓reduceIte,seval, -List.reduceReplicate,List.toList_toArray,hDl,hD1,hDt,hDp,hC2l,hone2,hput2,htk2,zn,hrd6,hfl,List.length_map]
  |with_reducible refine zx3 zoz O2.is (hI.mono (hle5.trans hle6)) ?_
  |with_reducible refine ztB (b:=[]) (Nat.zero_le _) (Sl.nil _ _) ?_
 ·unfold zv
  refine Upd.leave (H':=H) Ks ?_
  rw[show decide (((zcR []:Nat):Int)=2166136261)=true from rfl]
  exact fun _ hs=>hR G6 (k0.trans (hle5.trans hle6)) hs
 ·rename_i h
  rw[zK trivial] at h;cases h
 ·rename_i h;exact absurd rfl h
end Go.Proofs.YtomdbjfdbkejoaaGreatDoor
namespace Go.Proofs.YtomdbjfdbkejoaaGreatDoor
open Go Go.V Go.Proofs
section
variable {α:Type} [DecidableEq α] {β:Type} [DecidableEq β]
theorem zlp (l:List α):zg (zg l)=zg l:=
 zfl (zr l) fun i j hi hj=>by
  rw[zr] at hi hj
  exact zcF hi hj
theorem zfw (l:List α) {i:Nat} (h:i<l.length):(zk (l.take (i+1))).length=(zk (l.take i)).length+if l[i]∈l.take i then 0 else 1:=by
 rw[List.take_succ_eq_append_getElem h,zaO]
 simp only[zN]
 split
 ·rfl
 ·rw[List.length_append];rfl
theorem zhb {a:List α} {b:List β} (hlen:b.length=a.length) (hf: ∀i j (hi:i<b.length) (hj:j<b.length),b[i]=b[j]→a[i]'(hlen▸hi)=a[j]'(hlen▸hj)):
  ∀k,k≤a.length→(zk (a.take k)).length≤(zk (b.take k)).length∧((zk (a.take k)).length=(zk (b.take k)).length→ ∀i (hi:i<k) (h1:i<a.length) (h2:i<b.length),a[i]∈a.take i→b[i]∈b.take i)
 |0,_=>⟨Nat.le_refl _,fun _ i hi=>by omega⟩
 |k+1,hk=>by
  obtain⟨h1,h2⟩:=zhb hlen hf k Ko
  have hka:k<a.length:=hk
  have hkb:k<b.length:=by omega
  rw[zfw a hka,zfw b hkb]
  have hin:b[k]∈b.take k→a[k]∈a.take k:=fun h=>by
   rw[zaQ] at h⊢
   obtain⟨j,hj,e⟩:=h
   exact⟨j,hj,hf j k Ko hkb e⟩
  by_cases hb:b[k]∈b.take k
  ·rw[if_pos (hin hb),if_pos hb]
   refine⟨by omega,fun e i hi g1 g2 g3=>?_⟩
   rcases Nat.lt_or_ge i k with h|h
   ·exact h2 Ko i h g1 g2 g3
   ·obtain rfl:i=k:=by omega
    exact hb
  ·rw[if_neg hb]
   by_cases ha:a[k]∈a.take k
   ·rw[if_pos ha]
    exact⟨by omega,fun e=>by omega⟩
   ·rw[if_neg ha]
    refine⟨by omega,fun e i hi g1 g2 g3=>?_⟩
    rcases Nat.lt_or_ge i k with h|h
    ·exact h2 Ko i h g1 g2 g3
    ·obtain rfl:i=k:=by omega
     exact(ha g3).elim
theorem zx4 {a:List α} {b:List β} (hlen:b.length=a.length) (hf: ∀i j (hi:i<b.length) (hj:j<b.length),b[i]=b[j]→a[i]'(hlen▸hi)=a[j]'(hlen▸hj)) (he:(zk a).length=(zk b).length):zg b=zg a:=by
 have hm:=(zhb hlen hf a.length (Nat.le_refl _)).2
 have hbt:b.take a.length=b:=by rw[←hlen,List.take_length]
 rw[List.take_length,hbt] at hm
 have hm:=hm he
 have key: ∀i,∀ (hi:i<a.length) (p:Nat) (hp:p<a.length),p≤i→a[p]∉a.take p→a[p]=a[i]→b[i]'(hlen▸hi)=b[p]'(hlen▸hp):=by
  intro i hi p hp hpi hnew hap
  obtain⟨q,hq1,hq2,⟨hq3,hq4⟩,hq5⟩:=zb4 (l:=b) (i:=i) (hlen▸hi)
  have hqn:b[q]∉b.take q:=by
   obtain⟨q',g1,g2,⟨g3,g4⟩,g5⟩:=zb4 (l:=b) (i:=q) hq3
   rw[←hq4] at hq1
   rw[hq1] at g1
   cases g1
   exact g5.1 rfl
  have hqa:q<a.length:=by omega
  have haq:a[q]∉a.take q:=fun h=>hqn (hm q hqa hqa hq3 h)
  have hab:a[q]=a[i]:=hf q i hq3 (hlen▸hi) hq4
  have:q=p:=by
   rcases Nat.lt_trichotomy q p with h|h|h
   ·exact(hnew ((zaQ hp).2 ⟨q,h,by rw[hab,hap]⟩)).elim
   ·exact h
   ·exact(haq ((zaQ hqa).2 ⟨p,h,by rw[hab,hap]⟩)).elim
  subst this
  exact hq4.symm
 refine zfl hlen fun i j hi hj=>⟨hf i j hi hj,fun e=>?_⟩
 have hia:i<a.length:=hlen▸hi
 have hja:j<a.length:=hlen▸hj
 obtain⟨p,h1,h2,⟨h3,h4⟩,h5⟩:=zb4 hia
 obtain⟨p',g1,g2,⟨g3,g4⟩,g5⟩:=zb4 hja
 have:p'=p:=by
  rw[←e,h1] at g1
  exact(Option.some.inj g1).symm
 subst this
 have hnew:a[p']∉a.take p':=by
  obtain⟨q',k1,k2,⟨k3,k4⟩,k5⟩:=zb4 h3
  rw[←h4] at h1
  rw[h1] at k1
  cases k1
  exact k5.1 rfl
 rw[key i hia p' h3 h2 hnew h4,key j hja p' h3 g2 hnew g4]
end
def zmf (d:DfaT) (l:List Int) (k:Nat):List Int:=d.next.map fun r=>atL l (atL r k)
theorem zoA (d:DfaT) (l:List Int) (k:Nat):(zmf d l k).length=d.next.length:=by simp [zmf]
def rdk (d:DfaT) (l:List Int):Nat→List Int
 |0=>l
 |k+1=>zg ((rdk d l k).zip (zmf d l k))
def rdD (d:DfaT) (l:List Int):List Int:=rdk d l d.width.toNat
def lvl (d:DfaT):Nat→List Int
 |0=>zg d.label
 |i+1=>rdD d (lvl d i)
theorem zho {d:DfaT} {l:List Int} (h:l.length=d.next.length): ∀k,(rdk d l k).length=d.next.length
 |0=>h
 |k+1=>by
  show(zg _).length=_
  rw[zr,List.length_zip,zho h k,zoA];omega
theorem zv1 {d:DfaT} {l:List Int} (h:zg l=l): ∀k,zg (rdk d l k)=rdk d l k
 |0=>h
 |k+1=>zlp _
theorem zqG {d:DfaT} {l:List Int} (h:l.length=d.next.length): ∀k,∀i j (hi:i<d.next.length) (hj:j<d.next.length),
  ((rdk d l k)[i]'(by rw[zho h];exact hi)=(rdk d l k)[j]'(by rw[zho h];exact hj)↔l[i]'(h▸hi)=l[j]'(h▸hj)∧ ∀c,c<k→atL l (atL d.next[i] c)=atL l (atL d.next[j] c))
 |0,i,j,hi,hj=>⟨fun e=>⟨e,fun c hc=>by omega⟩,fun e=>e.1⟩
 |k+1,i,j,hi,hj=>by
  have hz:((rdk d l k).zip (zmf d l k)).length=d.next.length:=by rw[List.length_zip,zho h k,zoA];omega
  have h1:=zcF (l:=(rdk d l k).zip (zmf d l k)) (i:=i) (j:=j) Ko Ko
  refine Iff.trans h1 ?_
  rw[List.getElem_zip,List.getElem_zip,Prod.mk.injEq,zqG h k i j hi hj]
  simp only[zmf,List.getElem_map]
  constructor
  ·rintro⟨⟨e1,e2⟩,e3⟩
   refine⟨e1,fun c hc=>?_⟩
   rcases Nat.lt_or_ge c k with g|g
   ·exact e2 c g
   ·obtain rfl:c=k:=by omega
    exact e3
  ·rintro⟨e1,e2⟩
   exact⟨⟨e1,fun c hc=>e2 c Ko⟩,e2 k Ko⟩
theorem zal {d:DfaT} (h:d.next.length=d.label.length): ∀i,(lvl d i).length=d.next.length
 |0=>by rw[h];exact zr _
 |i+1=>zho (zal h i) _
theorem zcH (d:DfaT): ∀i,zg (lvl d i)=lvl d i
 |0=>zlp _
 |i+1=>zv1 (zcH d i) _
theorem zhY {d:DfaT} (h:d.next.length=d.label.length) {s t:Nat} (hs:s<d.label.length) (ht:t<d.label.length):((lvl d 0)[s]'(by rw[zal h];omega)=(lvl d 0)[t]'(by rw[zal h];omega))↔d.label[s]=d.label[t]:=zcF hs ht
theorem zeS {d:DfaT} (h:d.next.length=d.label.length) (i:Nat) {s t:Nat} (hs:s<d.next.length) (ht:t<d.next.length):((lvl d (i+1))[s]'(by rw[zal h];omega)=(lvl d (i+1))[t]'(by rw[zal h];omega))↔
  (lvl d i)[s]'(by rw[zal h];omega)=(lvl d i)[t]'(by rw[zal h];omega)∧ ∀c,c<d.width.toNat→atL (lvl d i) (atL d.next[s] c)=atL (lvl d i) (atL d.next[t] c):=zqG (zal h i) _ s t hs ht
theorem zoB {d:DfaT} {i:Nat} (h:lvl d (i+1)=lvl d i): ∀j,lvl d (i+j)=lvl d i
 |0=>rfl
 |j+1=>by
  show rdD d (lvl d (i+j))=_
  rw[zoB h j];exact h
theorem zmN {d:DfaT} {i j:Nat} (h:lvl d (i+1)=lvl d i) (hj:i≤j):lvl d j=lvl d i:=by
 obtain⟨c,rfl⟩:=Nat.exists_eq_add_of_le hj
 exact zoB h c
theorem zv2 {d:DfaT} (h:d.next.length=d.label.length) {i:Nat} (hn:lvl d (i+1)≠lvl d i):(zk (lvl d i)).length< (zk (lvl d (i+1))).length:=by
 have hlen:(lvl d (i+1)).length=(lvl d i).length:=by rw[zal h,zal h]
 have hf: ∀x y (hx:x< (lvl d (i+1)).length) (hy:y< (lvl d (i+1)).length),(lvl d (i+1))[x]=(lvl d (i+1))[y]→(lvl d i)[x]'(hlen▸hx)=(lvl d i)[y]'(hlen▸hy):=fun x y hx hy e=>by
  rw[zal h] at hx hy
  exact((zeS h i hx hy).1 e).1
 have h1:=(zhb hlen hf _ (Nat.le_refl _)).1
 rw[List.take_length,←hlen,List.take_length] at h1
 rcases Nat.lt_or_ge (zk (lvl d i)).length (zk (lvl d (i+1))).length with g|g
 ·exact g
 ·have:=zx4 hlen hf Ko
  rw[zcH,zcH] at this
  exact(hn this).elim
def znD (d:DfaT) (n:Nat):Prop:=n<d.label.length∧lvl d (n+1)=lvl d n∧ ∀i,i<n→lvl d (i+1)≠lvl d i
theorem zqH {d:DfaT} (h:d.next.length=d.label.length) (h1:1≤d.label.length): ∃n,znD d n:=by
 have key: ∀m,(∃n,n<m∧lvl d (n+1)=lvl d n∧ ∀i,i<n→lvl d (i+1)≠lvl d i)∨((∀i,i<m→lvl d (i+1)≠lvl d i)∧m+1≤(zk (lvl d m)).length):=by
  intro m
  induction m with
  |zero=>
   refine .inr ⟨fun i hi=>by omega,?_⟩
   have:0< (lvl d 0).length:=by rw[zal h];omega
   have hm:=(zN (lvl d 0)).2 (List.getElem_mem this)
   exact List.length_pos_of_mem hm
  |succ m ih=>
   rcases ih with ⟨n,h1,h2,h3⟩| ⟨h1,h2⟩
   ·exact .inl ⟨n,by omega,h2,h3⟩
   ·by_cases he:lvl d (m+1)=lvl d m
    ·exact .inl ⟨m,by omega,he,h1⟩
    ·refine .inr ⟨fun i hi=>?_,?_⟩
     ·rcases Nat.lt_or_ge i m with g|g
      ·exact h1 i g
      ·obtain rfl:i=m:=by omega
       exact he
     ·have:=zv2 h he;omega
 rcases key d.label.length with ⟨n,h1,h2,h3⟩| ⟨_,h2⟩
 ·exact⟨n,h1,h2,h3⟩
 ·have:=zai (lvl d d.label.length)
  rw[zal h] at this
  omega
theorem zkp {d:DfaT} (h:d.next.length=d.label.length) {i:Nat} {s t:Nat} (hs:s<d.next.length) (ht:t<d.next.length): ∀j,i≤j→(lvl d j)[s]'(by rw[zal h];omega)=(lvl d j)[t]'(by rw[zal h];omega)→(lvl d i)[s]'(by rw[zal h];omega)=(lvl d i)[t]'(by rw[zal h];omega)
  | 0, hj, e => by obtain rfl : i = 0 := by omega
                   exact e
  |j+1,hj,e=>by
    rcases Nat.lt_or_ge i (j+1) with g|g
    · exact zkp h hs ht j Ko ((zeS h j hs ht).1 e).1
    · obtain rfl:i=j+1:=by omega
      exact e
end Go.Proofs.YtomdbjfdbkejoaaGreatDoor
namespace Go.Proofs.YtomdbjfdbkejoaaGreatDoor
open Go Go.V Go.Proofs
def zo {α:Type} (f:Nat→α) (i:Nat) (x:α):Nat→α:=fun j=>if j=i then x else f j
theorem zby {α:Type} (f:Nat→α) (i:Nat) (x:α):zo f i x i=x:=if_pos rfl
theorem zba {α:Type} (f:Nat→α) {i j:Nat} (x:α) (h:j≠i):zo f i x j=f j:=if_neg h
theorem zfc: ∀ {n:Nat} {l:List Nat},l.Nodup→(∀s∈l,s<n)→l.length≤n
 |0,l,_,h=>by
  cases l with
  |nil=>exact Nat.le_refl _
  |cons x l=>exact absurd (h x (List.mem_cons_self ..)) (Nat.not_lt_zero _)
 |n+1,l,hnd,h=>by
  have h1:(l.filter fun x=>decide (x≠n)).length≤n:=zfc (hnd.filter _) fun s hs=>by
   rw[List.mem_filter,decide_eq_true_eq] at hs
   have:=h s hs.1
   omega
  have h2: ∀ {l:List Nat},l.Nodup→l.length≤(l.filter fun x=>decide (x≠n)).length+1:=by
   intro l hl
   induction l with
   |nil=>simp
   |cons x l ih=>
    rw[List.nodup_cons] at hl
    by_cases e:x=n
    ·have hf:l.filter (fun y=>decide (y≠n))=l:=List.filter_eq_self.2 fun y hy=>by
      rw[decide_eq_true_eq]
      intro e2;subst e2;subst e;exact hl.1 hy
     rw[List.filter_cons,if_neg (by simp [e]),hf];simp
    ·rw[List.filter_cons,if_pos (by simp [e])]
     have:=ih hl.2
     simp only[List.length_cons];omega
  have:=h2 hnd
  omega
structure PInv (n nb:Nat) (st pl bl fr to mk:Nat→Nat):Prop where
 st_lt: ∀i,i<n→st i<n
 pl_lt: ∀s,s<n→pl s<n
 pl_st: ∀i,i<n→pl (st i)=i
 st_pl: ∀s,s<n→st (pl s)=s
 bl_lt: ∀s,s<n→bl s<nb
 lo: ∀s,s<n→fr (bl s)≤pl s
 hi: ∀s,s<n→pl s<to (bl s)
 ne: ∀b,b<nb→fr b<to b
 le: ∀b,b<nb→to b≤n
 mk_le: ∀b,b<nb→fr b+mk b≤to b
 own: ∀b i,b<nb→fr b≤i→i<to b→bl (st i)=b
section
variable {n nb:Nat} {st pl bl fr to mk:Nat→Nat}
theorem PInv.nb_le (h:PInv n nb st pl bl fr to mk):nb≤n:=by
 -- each block has a first state
 have key: ∀m,m≤nb→ ∃l:List Nat,l.length=m∧l.Nodup∧ ∀s∈l,s<n∧bl s<m:=by
  intro m
  induction m with
  |zero=>exact fun _=>⟨[],rfl,List.nodup_nil,fun s hs=>by cases hs⟩
  |succ m ih=>
   intro hm
   obtain⟨l,h1,h2,h3⟩:=ih Ko
   have hf:=h.ne m Ko
   have ht:=h.le m Ko
   have ho:=h.own m (fr m) Ko (Nat.le_refl _) hf
   refine⟨st (fr m)::l,by simp [h1],List.nodup_cons.2 ⟨fun hx=>?_,h2⟩,fun s hs=>?_⟩
   ·have:=(h3 _ hx).2;omega
   ·rcases List.mem_cons.1 hs with rfl|hs
    ·exact⟨h.st_lt _ Ko,by omega⟩
    ·have:=h3 s hs;exact⟨this.1,by omega⟩
 obtain⟨l,h1,h2,h3⟩:=key nb (Nat.le_refl _)
 rw[←h1]
 exact zfc h2 fun s hs=>(h3 s hs).1
def Mkd (pl bl fr mk:Nat→Nat) (s:Nat):Prop:=pl s<fr (bl s)+mk (bl s)
theorem PInv.mark (h:PInv n nb st pl bl fr to mk) {s:Nat} (hs:s<n) (hm: ¬Mkd pl bl fr mk s):
  PInv n nb (zo (zo st (fr (bl s)+mk (bl s)) s) (pl s) (st (fr (bl s)+mk (bl s)))) (zo (zo pl (st (fr (bl s)+mk (bl s))) (pl s)) s (fr (bl s)+mk (bl s))) bl fr to (zo mk (bl s) (mk (bl s)+1))∧
  (∀x,x<n→(Mkd (zo (zo pl (st (fr (bl s)+mk (bl s))) (pl s)) s (fr (bl s)+mk (bl s))) bl fr (zo mk (bl s) (mk (bl s)+1)) x↔Mkd pl bl fr mk x∨x=s)):=by
 unfold Mkd at hm
 have hb:=h.bl_lt s hs
 have hlo:=h.lo s hs
 have hhi:=h.hi s hs
 have hle:=h.le _ hb
 have hps:=h.pl_lt s hs
 have hsp:=h.st_pl s hs
 have hmk:=h.mk_le _ hb
 obtain⟨p,hp⟩: ∃p,p=fr (bl s)+mk (bl s):=⟨_,rfl⟩
 rw[←hp] at hm hmk⊢
 have hpn:p<n:=by omega
 obtain⟨t,ht⟩: ∃t,t=st p:=⟨_,rfl⟩
 rw[←ht]
 have htn:t<n:=by rw[ht];exact h.st_lt p hpn
 have hpt:pl t=p:=by rw[ht];exact h.pl_st p hpn
 have hbt:bl t=bl s:=by rw[ht];exact h.own _ p hb Ko Ko
 have hne:t≠s→pl s≠p:=fun e e2=>e (by rw[ht,←e2,hsp])
 refine⟨⟨fun i hi=>?_,fun x hx=>?_,fun i hi=>?_,fun x hx=>?_,h.bl_lt,fun x hx=>?_,fun x hx=>?_,h.ne,h.le,fun b hb2=>?_,fun b i hb2 h1 h2=>?_⟩,fun x hx=>?_⟩
 ·unfold zo;split
  ·exact htn
  ·split
   ·exact hs
   ·exact h.st_lt i hi
 ·unfold zo;split
  ·exact hpn
  ·split
   ·exact hps
   ·exact h.pl_lt x hx
 ·have h0:=h.pl_st i hi
  unfold zo
  by_cases e1:i=pl s
  ·rw[if_pos e1]
   by_cases e2:t=s
   ·rw[if_pos e2,←hpt,e2,e1]
   ·rw[if_neg e2,if_pos rfl,e1]
  ·rw[if_neg e1]
   by_cases e2:i=p
   ·rw[if_pos e2,if_pos rfl,e2]
   ·rw[if_neg e2]
    have e3:st i≠s:=fun e=>e1 (by rw[←e,h0])
    have e4:st i≠t:=fun e=>e2 (by rw[←h0,e,hpt])
    rw[if_neg e3,if_neg e4,h0]
 ·have h0:=h.st_pl x hx
  unfold zo
  by_cases e1:x=s
  ·rw[if_pos e1]
   by_cases e2:p=pl s
   ·rw[if_pos e2,e1,ht,e2,hsp]
   ·rw[if_neg e2,if_pos rfl,e1]
  ·rw[if_neg e1]
   by_cases e2:x=t
   ·rw[if_pos e2,if_pos rfl,e2]
   ·rw[if_neg e2]
    have e3:pl x≠pl s:=fun e=>e1 (by rw[←h0,e,hsp])
    have e4:pl x≠p:=fun e=>e2 (by rw[←h0,e,ht])
    rw[if_neg e3,if_neg e4,h0]
 ·have h0:=h.lo x hx
  unfold zo
  by_cases e1:x=s
  ·rw[if_pos e1,e1];omega
  ·rw[if_neg e1]
   by_cases e2:x=t
   ·rw[if_pos e2,e2,hbt];omega
   ·rw[if_neg e2];exact h0
 ·have h0:=h.hi x hx
  unfold zo
  by_cases e1:x=s
  ·rw[if_pos e1,e1];omega
  ·rw[if_neg e1]
   by_cases e2:x=t
   ·rw[if_pos e2,e2,hbt];omega
   ·rw[if_neg e2];exact h0
 ·have h0:=h.mk_le b hb2
  unfold zo
  by_cases e1:b=bl s
  ·rw[if_pos e1,e1];omega
  ·rw[if_neg e1];exact h0
 ·have h0:=h.own b i hb2 h1 h2
  unfold zo
  by_cases e1:i=pl s
  ·rw[if_pos e1,hbt];rw[e1,hsp] at h0;exact h0
  ·rw[if_neg e1]
   by_cases e2:i=p
   ·rw[if_pos e2];rw[e2,←ht,hbt] at h0;exact h0
   ·rw[if_neg e2];exact h0
 ·have hpx:=h.pl_lt x hx
  have hxp:=h.st_pl x hx
  unfold Mkd zo
  by_cases e1:x=s
  ·rw[if_pos e1,e1,if_pos rfl]
   exact⟨fun _=> .inr rfl,fun _=>by omega⟩
  ·rw[if_neg e1]
   by_cases e2:x=t
   ·rw[if_pos e2,e2,hbt,if_pos rfl,hpt]
    have:=hne (by rw[←e2];exact e1)
    exact⟨fun _=>by omega,fun h=>by rcases h with h|h <;> omega⟩
   ·rw[if_neg e2]
    have e4:pl x≠p:=fun e=>e2 (by rw[←hxp,e,ht])
    by_cases e3:bl x=bl s
    ·rw[if_pos e3,e3]
     exact⟨fun _=> .inl Ko,fun h=>by rcases h with h|h <;> omega⟩
    ·rw[if_neg e3]
     exact⟨.inl,fun h=>by rcases h with h|h <;> omega⟩
theorem PInv.part (h:PInv n nb st pl bl fr to mk) {b:Nat} (hb:b<nb) (h1:1≤mk b) (h2:mk b<to b - fr b):
  PInv n (nb+1) st pl (fun s=>if bl s=b∧pl s<fr b+mk b then nb else bl s) (zo (zo fr b (fr b+mk b)) nb (fr b)) (zo to nb (fr b+mk b)) (zo (zo mk b 0) nb 0):=by
 have hne:=h.ne b hb
 have hle:=h.le b hb
 refine⟨h.st_lt,h.pl_lt,h.pl_st,h.st_pl,fun s hs=>?_,fun s hs=>?_,fun s hs=>?_,fun c hc=>?_,fun c hc=>?_,fun c hc=>?_,fun c i hc g1 g2=>?_⟩
 ·have:=h.bl_lt s hs
  show(if _ then _ else _) <_
  split <;> omega
 ·have h3:=h.bl_lt s hs
  have h4:=h.lo s hs
  show zo _ nb _ (if _ then _ else _)≤_
  unfold zo
  split
  ·rename_i e;rw[if_pos rfl,←e.1];exact h4
  ·rename_i e
   rw[if_neg Ko]
   by_cases e2:bl s=b
   ·rw[if_pos e2]
    have: ¬pl s<fr b+mk b:=fun h=>e ⟨e2,h⟩
    omega
   ·rw[if_neg e2];exact h4
 ·have h3:=h.bl_lt s hs
  have h4:=h.hi s hs
  show _<zo _ nb _ (if _ then _ else _)
  unfold zo
  split
  ·rename_i e;rw[if_pos rfl];exact e.2
  ·rename_i e
   rw[if_neg Ko];exact h4
 ·have:=h.ne c
  unfold zo
  by_cases e:c=nb
  ·rw[if_pos e,if_pos e];omega
  ·rw[if_neg e,if_neg e]
   by_cases e2:c=b
   ·rw[if_pos e2,e2];omega
   ·rw[if_neg e2];exact this Ko
 ·have:=h.le c
  unfold zo
  by_cases e:c=nb
  ·rw[if_pos e];omega
  ·rw[if_neg e];exact this Ko
 ·have h3:=h.mk_le c
  have h4:=h.ne c
  unfold zo
  by_cases e:c=nb
  ·rw[if_pos e,if_pos e,if_pos e];omega
  ·rw[if_neg e,if_neg e,if_neg e]
   by_cases e2:c=b
   ·rw[if_pos e2,if_pos e2,e2];omega
   ·rw[if_neg e2,if_neg e2];exact h3 Ko
 ·have h3:=h.own c i
  have h4:=h.own b i hb
  have hin:=h.le c
  unfold zo at g1 g2
  show(if _ then _ else _)=_
  by_cases e:c=nb
  ·rw[if_pos e] at g1 g2
   rw[if_pos ⟨h4 g1 Ko,by rw[h.pl_st i Ko];exact g2⟩,e]
  ·rw[if_neg e] at g1 g2
   by_cases e2:c=b
   ·rw[if_pos e2] at g1
    rw[e2] at g2
    rw[if_neg (by rw[h.pl_st i Ko];omega),h4 Ko g2,e2]
   ·rw[if_neg e2] at g1
    have h5:=h3 Ko g1 g2
    rw[if_neg (by rw[h5];omega),h5]
theorem PInv.clear (h:PInv n nb st pl bl fr to mk) (b:Nat):PInv n nb st pl bl fr to (zo mk b 0):=by
 refine⟨h.st_lt,h.pl_lt,h.pl_st,h.st_pl,h.bl_lt,h.lo,h.hi,h.ne,h.le,fun c hc=>?_,h.own⟩
 have h3:=h.mk_le c hc
 have h4:=h.ne c hc
 unfold zo
 split <;> omega
end
def zcI (ws:List (Nat×Nat)) (x:Nat×Nat):List (Nat×Nat):=if x∈ws then ws else ws++[x]
theorem zhZ (ws:List (Nat×Nat)) (x:Nat×Nat):x∈zcI ws x:=by
 unfold zcI;split
 ·assumption
 ·simp
theorem zkq {ws:List (Nat×Nat)} {x y:Nat×Nat} (h:y∈ws):y∈zcI ws x:=by
 unfold zcI;split
 ·exact h
 ·exact List.mem_append_left _ h
theorem zmg {ws:List (Nat×Nat)} {x y:Nat×Nat} (h:y∈zcI ws x):y∈ws∨y=x:=by
 unfold zcI at h;split at h
 ·exact .inl h
 ·rcases List.mem_append.1 h with h|h
  ·exact .inl h
  ·exact .inr (List.mem_singleton.1 h)
theorem zlq {ws:List (Nat×Nat)} {x:Nat×Nat} (h:ws.Nodup):(zcI ws x).Nodup:=by
 unfold zcI;split
 ·exact h
 ·rename_i hx
  exact List.nodup_append.2 ⟨h,by simp,fun a ha b hb=>by rw[List.mem_singleton] at hb;subst hb;intro e;subst e;exact hx ha⟩
theorem zkr (ws:List (Nat×Nat)) (x:Nat×Nat):(zcI ws x).length≤ws.length+1:=by
 unfold zcI;split <;> simp
def zcg (small:Bool) (old fresh:Nat) (ws:List (Nat×Nat)) (k:Nat):List (Nat×Nat):=if (old,k)∈ws∨small=true then zcI ws (fresh,k) else zcI ws (old,k)
def zct (small:Bool) (old fresh:Nat) (ws:List (Nat×Nat)) (W:Nat):List (Nat×Nat):=(List.range W).foldl (zcg small old fresh) ws
theorem zlr (small:Bool) (old fresh:Nat) (ws:List (Nat×Nat)) (W:Nat):zct small old fresh ws (W+1)=zcg small old fresh (zct small old fresh ws W) W:=by
 unfold zct;rw[List.range_succ,List.foldl_append];rfl
theorem zv3 {small:Bool} {old fresh:Nat} {ws:List (Nat×Nat)} {k:Nat} {y:Nat×Nat} (h:y∈zcg small old fresh ws k):y∈ws∨y=(fresh,k)∨y=(old,k):=by
 unfold zcg at h;split at h
 ·rcases zmg h with h|h
  ·exact .inl h
  ·exact .inr (.inl h)
 ·rcases zmg h with h|h
  ·exact .inl h
  ·exact .inr (.inr h)
theorem zgP {small:Bool} {old fresh:Nat} {ws:List (Nat×Nat)} {k:Nat} {y:Nat×Nat} (h:y∈ws):y∈zcg small old fresh ws k:=by
 unfold zcg;split <;> exact zkq h
theorem ziX (small:Bool) (old fresh:Nat) (ws:List (Nat×Nat)): ∀W,(∀y∈ws,y∈zct small old fresh ws W)∧(∀y∈zct small old fresh ws W,y∈ws∨((y.1=fresh∨y.1=old)∧y.2<W))∧
  (∀j,j<W→(old,j)∈ws→(fresh,j)∈zct small old fresh ws W)∧(∀j,j<W→(fresh,j)∈zct small old fresh ws W∨(old,j)∈zct small old fresh ws W)∧(zct small old fresh ws W).length≤ws.length+W∧(ws.Nodup→(zct small old fresh ws W).Nodup)
 |0=>⟨fun y h=>h,fun y h=> .inl h,fun j h=>by omega,fun j h=>by omega,Nat.le_refl _,id⟩
 |W+1=>by
  obtain⟨h1,h2,h3,h4,h5,h6⟩:=ziX small old fresh ws W
  rw[zlr]
  refine⟨fun y h=>zgP (h1 y h),fun y h=>?_,fun j hj ho=>?_,fun j hj=>?_,?_,fun hnd=>?_⟩
  ·rcases zv3 h with h|rfl|rfl
   ·rcases h2 y h with h|h
    ·exact .inl h
    ·exact .inr ⟨h.1,by omega⟩
   ·exact .inr ⟨.inl rfl,Nat.lt_succ_self _⟩
   ·exact .inr ⟨.inr rfl,Nat.lt_succ_self _⟩
  ·rcases Nat.lt_or_ge j W with g|g
   ·exact zgP (h3 j g ho)
   ·obtain rfl:j=W:=by omega
    unfold zcg
    rw[if_pos (.inl (h1 _ ho))]
    exact zhZ _ _
  ·rcases Nat.lt_or_ge j W with g|g
   ·rcases h4 j g with h|h
    ·exact .inl (zgP h)
    ·exact .inr (zgP h)
   ·obtain rfl:j=W:=by omega
    unfold zcg
    split
    ·exact .inl (zhZ _ _)
    ·exact .inr (zhZ _ _)
  ·unfold zcg
   split
   ·have:=zkr (zct small old fresh ws W) (fresh,W);omega
   ·have:=zkr (zct small old fresh ws W) (old,W);omega
  ·unfold zcg
   split <;> exact zlq (h6 hnd)
section law
variable {n W:Nat} {bl:Nat→Nat} {dl:Nat→Nat→Nat}
def zcT (n W:Nat) (bl:Nat→Nat) (dl:Nat→Nat→Nat) (ws:List (Nat×Nat)) (k0:Nat) (X:Nat→Prop):Prop:= ∀s t j,s<n→t<n→j<W→bl s=bl t→bl (dl j s)≠bl (dl j t)→(bl (dl j s),j)∈ws∨(bl (dl j t),j)∈ws∨(j=k0∧ ¬(X s↔X t))
theorem zcT.take {ws:List (Nat×Nat)} {b k k1:Nat} (h:zcT n W bl dl (ws++[(b,k)]) k1 fun _=>False):zcT n W bl dl ws k fun s=>bl (dl k s)=b:=by
 intro s t j hs ht hj e ne
 have hm: ∀u v,bl (dl j u)≠bl (dl j v)→(bl (dl j u),j)∈ws++[(b,k)]→(bl (dl j u),j)∈ws∨(j=k∧bl (dl k u)=b∧ ¬bl (dl k v)=b):=fun u v hne hm=>by
  rcases List.mem_append.1 hm with hm|hm
  ·exact .inl hm
  ·rw[List.mem_singleton,Prod.mk.injEq] at hm
   obtain⟨e1,rfl⟩:=hm
   exact .inr ⟨rfl,e1,fun h=>hne (by rw[e1,h])⟩
 rcases h s t j hs ht hj e ne with h|h|h
 ·rcases hm s t ne h with h| ⟨h1,h2,h3⟩
  ·exact .inl h
  ·exact .inr (.inr ⟨h1,fun g=>h3 (g.1 h2)⟩)
 ·rcases hm t s (Ne.symm ne) h with h| ⟨h1,h2,h3⟩
  ·exact .inr (.inl h)
  ·exact .inr (.inr ⟨h1,fun g=>h3 (g.2 h2)⟩)
 ·exact(h.2 Iff.rfl).elim
theorem zcT.split {ws ws':List (Nat×Nat)} {k0:Nat} {X Y:Nat→Prop} {c nb:Nat} [DecidablePred Y] (hdl: ∀j s,j<W→s<n→dl j s<n) (hbl: ∀s,s<n→bl s<nb) (h:zcT n W bl dl ws k0 X)
  (h1: ∀y∈ws,y∈ws') (h2: ∀j,j<W→(c,j)∈ws→(nb,j)∈ws') (h3: ∀j,j<W→(nb,j)∈ws'∨(c,j)∈ws'):zcT n W (fun s=>if bl s=c∧Y s then nb else bl s) dl ws' k0 X:=by
 intro s t j hs ht hj e ne
 simp only at e ne⊢
 have hss:=hbl s hs
 have hts:=hbl t ht
 have e0:bl s=bl t:=by
  split at e
  ·rename_i g1
   split at e
   ·rename_i g2;rw[g1.1,g2.1]
   ·omega
  ·split at e
   ·omega
   ·exact e
 have both: ∀u,u<n→(bl (dl j u),j)∈ws→((if bl (dl j u)=c∧Y (dl j u) then nb else bl (dl j u)),j)∈ws':=fun u hu hm=>by
  split
  ·rename_i g;rw[g.1] at hm;exact h2 j hj hm
  ·exact h1 _ hm
 by_cases e1:bl (dl j s)=bl (dl j t)
 · -- the targets have just been parted
  rw[e1] at ne⊢
  by_cases ec:bl (dl j t)=c
  ·rw[ec] at ne⊢
   simp only[true_and] at ne⊢
   by_cases y1:Y (dl j s)
   ·rw[if_pos y1] at ne⊢
    by_cases y2:Y (dl j t)
    ·rw[if_pos y2] at ne;exact(ne rfl).elim
    ·rw[if_neg y2]
     rcases h3 j hj with h|h
     ·exact .inl h
     ·exact .inr (.inl h)
   ·rw[if_neg y1] at ne⊢
    by_cases y2:Y (dl j t)
    ·rw[if_pos y2]
     rcases h3 j hj with h|h
     ·exact .inr (.inl h)
     ·exact .inl h
    ·rw[if_neg y2] at ne;exact(ne rfl).elim
  ·rw[if_neg (fun g=>ec g.1),if_neg (fun g=>ec g.1)] at ne
   exact(ne rfl).elim
 ·rcases h s t j hs ht hj e0 e1 with h|h|h
  ·exact .inl (both s hs h)
  ·exact .inr (.inl (both t ht h))
  ·exact .inr (.inr h)
theorem zcT.same {ws:List (Nat×Nat)} {k0:Nat} {X:Nat→Prop} {bl':Nat→Nat} (hdl: ∀j s,j<W→s<n→dl j s<n) (h:zcT n W bl dl ws k0 X) (he: ∀s,s<n→bl' s=bl s):zcT n W bl' dl ws k0 X:=by
 intro s t j hs ht hj e ne
 have h1:=hdl j s hj hs
 have h2:=hdl j t hj ht
 rw[he s hs,he t ht] at e
 rw[he _ h1,he _ h2] at ne⊢
 exact h s t j hs ht hj e ne
theorem zcT.end {ws:List (Nat×Nat)} {k0 k1:Nat} {X:Nat→Prop} (h:zcT n W bl dl ws k0 X) (hx: ∀s t,s<n→t<n→bl s=bl t→(X s↔X t)):zcT n W bl dl ws k1 fun _=>False:=by
 intro s t j hs ht hj e ne
 rcases h s t j hs ht hj e ne with h|h|h
 ·exact .inl h
 ·exact .inr (.inl h)
 ·exact(h.2 (hx s t hs ht e)).elim
theorem zcT.done {k0:Nat} (h:zcT n W bl dl [] k0 fun _=>False) {s t j:Nat} (hs:s<n) (ht:t<n) (hj:j<W) (e:bl s=bl t):bl (dl j s)=bl (dl j t):=by
 apply Classical.byContradiction
 intro ne
 rcases h s t j hs ht hj e ne with h|h|h
 ·cases h
 ·cases h
 ·exact h.2 Iff.rfl
end law
end Go.Proofs.YtomdbjfdbkejoaaGreatDoor
namespace Go.Proofs.YtomdbjfdbkejoaaGreatDoor
open Go Go.V Go.Proofs
def zj (n:Nat) (f:Nat→Nat):List Value:=(List.range n).map fun i=> .int .i64 (f i:Nat)
theorem zbF (n:Nat) (f:Nat→Nat):(zj n f).length=n:=by simp [zj]
theorem zdN {n:Nat} (f:Nat→Nat) {i:Nat} (h:i<n):(zj n f)[i]? =some (.int .i64 (f i:Nat)):=by
 unfold zj;rw[List.getElem?_map,List.getElem?_range h];rfl
theorem zaV {n:Nat} (f:Nat→Nat) {sp:List Value} {i:Nat} (h:i<n):(zj n f++sp)[i]? =some (.int .i64 (f i:Nat)):=by
 rw[List.getElem?_append_left (by rw[zbF];exact h),zdN f h]
theorem zv4 (n:Nat) (f:Nat→Nat):(zj n f).all zaL=true:=by simp [zj,zaL]
theorem zeF {n:Nat} {f g:Nat→Nat} (h: ∀i,i<n→f i=g i):zj n f=zj n g:=by
 unfold zj
 refine List.map_congr_left fun i hi=>?_
 rw[h i (List.mem_range.1 hi)]
theorem zbg {n:Nat} (f:Nat→Nat) {i:Nat} (h:i<n) (x:Nat):zf (zj n f) i [.int .i64 (x:Nat)]=zj n (zo f i x):=by
 unfold zf
 apply List.ext_getElem?
 intro j
 have hl:((zj n f).take i).length=i:=by rw[List.length_take,zbF];omega
 rcases Nat.lt_or_ge j n with hj|hj
 ·rw[zdN _ hj]
  unfold zo
  rcases Nat.lt_trichotomy j i with g|g|g
  ·rw[List.getElem?_append_left (by rw[List.length_append,hl];omega),List.getElem?_append_left Ko,List.getElem?_take,if_pos g,zdN f hj,if_neg Ko]
  ·subst g
   rw[List.getElem?_append_left (by rw[List.length_append,hl];simp),List.getElem?_append_right Ko,if_pos rfl]
   simp [hl]
  ·rw[List.getElem?_append_right (by rw[List.length_append,hl];simp;omega),List.getElem?_drop,if_neg Ko]
   simp only[List.length_append,hl,List.length_singleton]
   rw[show i+1+(j - (i+1))=j by omega,zdN f hj]
 ·rw[List.getElem?_eq_none (by simp [zbF];omega),List.getElem?_eq_none (by rw[zbF];exact hj)]
theorem zx5 {l:List Int} {f:Nat→Nat} (h: ∀i (hi:i<l.length),l[i]=(f i:Int)):l.map (Value.int .i64)=zj l.length f:=by
 unfold zj
 apply List.ext_getElem
 ·simp
 ·intro i h1 h2
  rw[List.length_map] at h1
  simp [h i h1]
theorem ztV (n:Nat):List.replicate n (Value.int .i64 0)=zj n fun _=>0:=by
 unfold zj
 rw[List.map_const',List.length_range];rfl
def Rea (a b:Nat) (f g:Nat→Nat):Prop:= ∃σ τ:Nat→Nat,(∀i,τ (σ i)=i)∧(∀i,σ (τ i)=i)∧(∀i,g i=f (σ i))∧ ∀i,i<a∨b≤i→σ i=i
theorem Rea.refl (a b:Nat) (f:Nat→Nat):Rea a b f f:=⟨id,id,fun _=>rfl,fun _=>rfl,fun _=>rfl,fun _ _=>rfl⟩
theorem Rea.trans {a b:Nat} {f g h:Nat→Nat} (h1:Rea a b f g) (h2:Rea a b g h):Rea a b f h:=by
 obtain⟨σ,τ,a1,a2,a3,a4⟩:=h1
 obtain⟨σ',τ',b1,b2,b3,b4⟩:=h2
 refine⟨fun i=>σ (σ' i),fun i=>τ' (τ i),fun i=>by simp only[a1,b1],fun i=>by simp only[a2,b2],fun i=>by rw[b3,a3],fun i hi=>?_⟩
 simp only[b4 i hi,a4 i hi]
theorem Rea.wide {a b a' b':Nat} {f g:Nat→Nat} (h:Rea a b f g) (h1:a'≤a) (h2:b≤b'):Rea a' b' f g:=by
 obtain⟨σ,τ,a1,a2,a3,a4⟩:=h
 exact⟨σ,τ,a1,a2,a3,fun i hi=>a4 i Ko⟩
theorem Rea.out {a b:Nat} {f g:Nat→Nat} (h:Rea a b f g) {i:Nat} (hi:i<a∨b≤i):g i=f i:=by
 obtain⟨σ,τ,a1,a2,a3,a4⟩:=h
 rw[a3,a4 i hi]
theorem Rea.from {a b:Nat} {f g:Nat→Nat} (h:Rea a b f g) {i:Nat} (h1:a≤i) (h2:i<b): ∃j,a≤j∧j<b∧g i=f j:=by
 obtain⟨σ,τ,a1,a2,a3,a4⟩:=h
 refine⟨σ i,?_,?_,a3 i⟩
 ·apply Classical.byContradiction
  intro hn
  have h3:=a4 (σ i) Ko
  have h4:σ i=i:=by rw[←a1 (σ i),h3,a1]
  omega
 ·apply Classical.byContradiction
  intro hn
  have h3:=a4 (σ i) Ko
  have h4:σ i=i:=by rw[←a1 (σ i),h3,a1]
  omega
def zgl (f:Nat→Nat) (i j:Nat):Nat→Nat:=zo (zo f i (f j)) j (f i)
theorem Rea.swap {a b:Nat} (f:Nat→Nat) {i j:Nat} (h1:a≤i) (h2:i<b) (h3:a≤j) (h4:j<b):Rea a b f (zgl f i j):=by
 have hinv: ∀x:Nat,(if (if x=j then i else if x=i then j else x)=j then i else if (if x=j then i else if x=i then j else x)=i then j else(if x=j then i else if x=i then j else x))=x:=fun x=>by
  by_cases e1:x=j
  ·subst e1
   rw[if_pos rfl]
   by_cases e2:i=x
   ·rw[if_pos e2,e2]
   ·rw[if_neg e2,if_pos rfl]
  ·rw[if_neg e1]
   by_cases e2:x=i
   ·rw[if_pos e2,if_pos rfl,e2]
   ·rw[if_neg e2,if_neg e1,if_neg e2]
 refine⟨fun x=>if x=j then i else if x=i then j else x,fun x=>if x=j then i else if x=i then j else x,hinv,hinv,fun x=>?_,fun x hx=>?_⟩
 ·simp only[zgl,zo]
  repeat' split
  all_goals rfl
 ·simp only
  rw[if_neg Ko,if_neg Ko]
def zks (n:Nat) (f:Nat→Nat):Prop:= ∃p:Nat→Nat,(∀i,i<n→f i<n∧p (f i)=i)∧ ∀s,s<n→p s<n∧f (p s)=s
theorem zks.rea {n:Nat} {f g:Nat→Nat} (h:zks n f) (hr:Rea 0 n f g):zks n g:=by
 obtain⟨p,h1,h2⟩:=h
 have hr2:=hr
 obtain⟨σ,τ,a1,a2,a3,a4⟩:=hr
 have hs: ∀i,i<n→σ i<n:=fun i hi=>by
  apply Classical.byContradiction
  intro hn
  have h3:=a4 (σ i) Ko
  have h4:σ i=i:=by rw[←a1 (σ i),h3,a1]
  omega
 have ht: ∀i,i<n→τ i<n:=fun i hi=>by
  apply Classical.byContradiction
  intro hn
  have h3:=a4 (τ i) Ko
  rw[a2] at h3
  omega
 refine⟨fun s=>τ (p s),fun i hi=>?_,fun s hs'=>?_⟩
 ·obtain⟨g1,g2⟩:=h1 (σ i) (hs i hi)
  rw[a3]
  exact⟨g1,by show τ (p (f (σ i)))=i;rw[g2,a1]⟩
 ·obtain⟨g1,g2⟩:=h2 s hs'
  exact⟨ht _ g1,by show g (τ (p s))=s;rw[a3,a2,g2]⟩
def zV (key:Nat→Int) (f:Nat→Nat) (a b:Nat):Prop:= ∀i j,a≤i→i<j→j<b→key (f i)≤key (f j)
theorem zV.le {key:Nat→Int} {f:Nat→Nat} {a b:Nat} (h:zV key f a b) {i j:Nat} (h1:a≤i) (h2:i≤j) (h3:j<b):key (f i)≤key (f j):=by
 rcases Nat.lt_or_ge i j with g|g
 ·exact h i j h1 g h3
 ·obtain rfl:i=j:=by omega
  exact Int.le_refl _
theorem zV.sub {key:Nat→Int} {f:Nat→Nat} {a b a' b':Nat} (h:zV key f a b) (h1:a≤a') (h2:b'≤b):zV key f a' b':=fun i j g1 g2 g3=>h i j Ko g2 Ko
theorem zV.same {key:Nat→Int} {f g:Nat→Nat} {a b:Nat} (h:zV key f a b) (he: ∀i,a≤i→i<b→g i=f i):zV key g a b:=fun i j g1 g2 g3=>by
 rw[he i g1 Ko,he j Ko g3];exact h i j g1 g2 g3
theorem zV.small {key:Nat→Int} {f:Nat→Nat} {a b:Nat} (h:b≤a+1):zV key f a b:=fun i j g1 g2 g3=>by omega
theorem zV.join {key:Nat→Int} {f:Nat→Nat} {a m b:Nat} (h1:zV key f a m) (h2:zV key f m b) (h3: ∀i j,a≤i→i<m→m≤j→j<b→key (f i)≤key (f j)):zV key f a b:=fun i j g1 g2 g3=>by
 rcases Nat.lt_or_ge j m with e|e
 ·exact h1 i j g1 g2 e
 ·rcases Nat.lt_or_ge i m with e2|e2
  ·exact h3 i j g1 e2 e g3
  ·exact h2 i j e2 g2 g3
def upM (f:Nat→Nat) (a k:Nat):Nat→Nat:=fun x=>if a≤x∧x<k then f (x+1) else if x=k then f a else f x
theorem zkt (f:Nat→Nat) (a:Nat):upM f a a=f:=by
 funext x;unfold upM
 rw[if_neg Ko]
 by_cases e:x=a
 ·rw[if_pos e,e]
 ·rw[if_neg e]
theorem zoC (f:Nat→Nat) {a k:Nat} (h:a≤k):zgl (upM f a k) k (k+1)=upM f a (k+1):=by
 funext x;unfold zgl zo upM
 by_cases e1:x=k+1
 ·rw[if_pos e1,if_neg Ko,if_pos rfl,if_neg Ko,if_pos e1]
 ·rw[if_neg e1]
  by_cases e2:x=k
  ·rw[if_pos e2,if_neg Ko,if_neg Ko,if_pos Ko,e2]
  ·rw[if_neg e2]
   by_cases e3:a≤x∧x<k
   ·rw[if_pos e3,if_pos Ko]
   ·rw[if_neg e3,if_neg e2,if_neg Ko,if_neg e1]
def dnM (f:Nat→Nat) (m k:Nat):Nat→Nat:=fun x=>if k<x∧x≤m then f (x - 1) else if x=k then f m else f x
theorem zoD (f:Nat→Nat) (m:Nat):dnM f m m=f:=by
 funext x;unfold dnM
 rw[if_neg Ko]
 by_cases e:x=m
 ·rw[if_pos e,e]
 ·rw[if_neg e]
theorem zoE (f:Nat→Nat) {m k:Nat} (h:k≤m) (h0:0<k):zgl (dnM f m k) k (k - 1)=dnM f m (k - 1):=by
 funext x;unfold zgl zo dnM
 by_cases e1:x=k - 1
 ·rw[if_pos e1,if_neg Ko,if_pos rfl,if_neg Ko,if_pos e1]
 ·rw[if_neg e1]
  by_cases e2:x=k
  ·rw[if_pos e2,if_neg Ko,if_neg Ko,if_pos Ko,e2]
  ·rw[if_neg e2]
   by_cases e3:k<x∧x≤m
   ·rw[if_pos e3,if_pos Ko]
   ·rw[if_neg e3,if_neg e2,if_neg Ko,if_neg e1]
theorem zqI (f:Nat→Nat) {a b:Nat}: ∀k,a≤k→k<b→Rea a b f (upM f a k)
 |0,h,h2=>by
  obtain rfl:a=0:=by omega
  rw[zkt];exact Rea.refl _ _ _
 |k+1,h,h2=>by
  rcases Nat.lt_or_ge k a with g|g
  ·obtain rfl:a=k+1:=by omega
   rw[zkt];exact Rea.refl _ _ _
  ·rw[←zoC f g]
   exact(zqI f k g Ko).trans (Rea.swap _ g Ko Ko h2)
theorem zqJ (f:Nat→Nat) {a b m:Nat} (hm:m<b): ∀c k,k+c=m→a≤k→Rea a b f (dnM f m k)
 |0,k,h,h2=>by
  obtain rfl:k=m:=by omega
  rw[zoD];exact Rea.refl _ _ _
 |c+1,k,h,h2=>by
  have:=zoE f (m:=m) (k:=k+1) Ko Ko
  rw[Nat.add_sub_cancel] at this
  rw[←this]
  exact(zqJ f hm c (k+1) Ko Ko).trans (Rea.swap _ Ko Ko Ko Ko)
theorem zsc {key:Nat→Int} {f:Nat→Nat} {a b i:Nat} (hs:zV key f (a+1) b) (h1:a+1≤i) (h2:i≤b) (hlo: ∀x,a+1≤x→x<i→key (f x) <key (f a)) (hhi: ∀x,i≤x→x<b→key (f a)≤key (f x)):zV key (upM f a (i - 1)) a b:=by
 intro x y g1 g2 g3
 have ex: ∀z,a≤z→z<b→(z<i - 1∧upM f a (i - 1) z=f (z+1))∨(z=i - 1∧upM f a (i - 1) z=f a)∨(i≤z∧upM f a (i - 1) z=f z):=fun z z1 z2=>by
  unfold upM
  by_cases e:a≤z∧z<i - 1
  ·exact .inl ⟨e.2,by rw[if_pos e]⟩
  ·by_cases e2:z=i - 1
   ·exact .inr (.inl ⟨e2,by rw[if_neg e,if_pos e2]⟩)
   ·exact .inr (.inr ⟨by omega,by rw[if_neg e,if_neg e2]⟩)
 rcases ex x g1 Ko with ⟨a1,a2⟩| ⟨a1,a2⟩| ⟨a1,a2⟩ <;> rcases ex y Ko g3 with ⟨b1,b2⟩| ⟨b1,b2⟩| ⟨b1,b2⟩ <;> rw[a2,b2]
 ·exact hs _ _ Ko Ko Ko
 ·exact Int.le_of_lt (hlo _ Ko Ko)
 ·exact Int.le_trans (Int.le_of_lt (hlo _ Ko Ko)) (hhi _ b1 g3)
 ·omega
 ·omega
 ·exact hhi _ b1 g3
 ·omega
 ·omega
 ·exact hs _ _ Ko g2 g3
theorem zsd {key:Nat→Int} {f:Nat→Nat} {a m i:Nat} (hs:zV key f a m) (h1:a≤i) (h2:i≤m) (hlo: ∀x,a≤x→x<i→key (f x)≤key (f m)) (hhi: ∀x,i≤x→x<m→key (f m) <key (f x)):zV key (dnM f m i) a (m+1):=by
 intro x y g1 g2 g3
 have ex: ∀z,a≤z→z<m+1→(z<i∧dnM f m i z=f z)∨(z=i∧dnM f m i z=f m)∨(i<z∧dnM f m i z=f (z - 1)):=fun z z1 z2=>by
  unfold dnM
  by_cases e:i<z∧z≤m
  ·exact .inr (.inr ⟨e.1,by rw[if_pos e]⟩)
  ·by_cases e2:z=i
   ·exact .inr (.inl ⟨e2,by rw[if_neg e,if_pos e2]⟩)
   ·exact .inl ⟨by omega,by rw[if_neg e,if_neg e2]⟩
 rcases ex x g1 Ko with ⟨a1,a2⟩| ⟨a1,a2⟩| ⟨a1,a2⟩ <;> rcases ex y Ko g3 with ⟨b1,b2⟩| ⟨b1,b2⟩| ⟨b1,b2⟩ <;> rw[a2,b2]
 ·exact hs _ _ g1 g2 Ko
 ·exact hlo _ g1 a1
 ·exact Int.le_trans (hlo _ g1 a1) (Int.le_of_lt (hhi _ Ko Ko))
 ·omega
 ·omega
 ·exact Int.le_of_lt (hhi _ Ko Ko)
 ·omega
 ·omega
 ·exact hs _ _ Ko Ko Ko
def zh0 (key:Nat→Int) (f:Nat→Nat) (a i j:Nat):Prop:= ∀x y,a≤x→x<y→y≤i→y≠j→key (f x)≤key (f y)
theorem zh0.start {key:Nat→Int} {f:Nat→Nat} {a i:Nat} (h:zV key f a i):zh0 key f a i i:=fun x y h1 h2 h3 h4=>h x y h1 h2 Ko
theorem zh0.swap {key:Nat→Int} {f:Nat→Nat} {a i j:Nat} (h:zh0 key f a i j) (ha:a<j) (hj:j≤i) (hlt:key (f j) <key (f (j - 1))):zh0 key (zgl f j (j - 1)) a i (j - 1):=by
 intro x y h1 h2 h3 h4
 have ev: ∀z,zgl f j (j - 1) z=if z=j - 1 then f j else if z=j then f (j - 1) else f z:=fun z=>rfl
 rw[ev,ev,if_neg h4]
 by_cases e:y=j
 ·rw[if_pos e]
  by_cases e2:x=j - 1
  ·rw[if_pos e2];omega
  ·rw[if_neg e2,if_neg Ko]
   exact h x (j - 1) h1 Ko Ko Ko
 ·rw[if_neg e]
  by_cases e2:x=j - 1
  ·rw[if_pos e2]
   have:=h (j - 1) y Ko Ko h3 e
   omega
  ·rw[if_neg e2]
   by_cases e3:x=j
   ·rw[if_pos e3]
    exact h (j - 1) y Ko Ko h3 e
   ·rw[if_neg e3];exact h x y h1 h2 h3 e
theorem zh0.done {key:Nat→Int} {f:Nat→Nat} {a i j:Nat} (h:zh0 key f a i j) (ha:a≤j) (hd:j=a∨key (f (j - 1))≤key (f j)):zV key f a (i+1):=by
 intro x y h1 h2 h3
 by_cases e:y=j
 ·rcases hd with g|g
  ·omega
  ·subst e
   rcases Nat.lt_or_ge x (y - 1) with q|q
   ·exact Int.le_trans (h x (y - 1) h1 q Ko Ko) g
   ·rw[show x=y - 1 by omega];exact g
 ·exact h x y h1 h2 Ko e
def zbU (f:Nat→Nat) (a b c:Nat):Nat→Nat:=fun x=>if a≤x∧x<a+c then f (x - a+b) else if b≤x∧x<b+c then f (x - b+a) else f x
theorem ztW (f:Nat→Nat) (a b:Nat):zbU f a b 0=f:=by
 funext x;unfold zbU;rw[if_neg Ko,if_neg Ko]
theorem ztX (f:Nat→Nat) {a b c:Nat} (h:a+c<b):zgl (zbU f a b c) (a+c) (b+c)=zbU f a b (c+1):=by
 funext x;simp only[zgl,zo,zbU]
 repeat' split
 all_goals first|omega| (congr 1;omega)|rfl
def zcJ (f:Nat→Nat) (a m b:Nat):Nat→Nat:=fun x=>if a≤x∧x<a+(b - m) then f (x+(m - a)) else if a+(b - m)≤x∧x<b then f (x - (b - m)) else f x
theorem ztY (f:Nat→Nat) {m i j:Nat} (hi:i≤m) (hj:0<j) (h:j<i):zcJ (zbU f (m - i) m j) (m - (i - j)) m (m+j)=zcJ f (m - i) m (m+j):=by
 funext x;unfold zcJ zbU
 by_cases e1:m - i≤x∧x<m - i+(m+j - m)
 ·rw[if_pos e1,if_neg Ko,if_neg Ko,if_pos Ko];congr 1;omega
 ·rw[if_neg e1]
  by_cases e2:m - i+(m+j - m)≤x∧x<m+j
  ·rw[if_pos e2]
   by_cases e3:m - (i - j)≤x∧x<m - (i - j)+(m+j - m)
   ·rw[if_pos e3,if_neg Ko,if_pos Ko];congr 1;omega
   ·rw[if_neg e3,if_pos Ko,if_neg Ko,if_neg Ko]
  ·rw[if_neg e2,if_neg Ko,if_neg Ko,if_neg Ko,if_neg Ko]
theorem zse (f:Nat→Nat) {m i j:Nat} (hi:i≤m) (hj:0<i) (h:i<j):zcJ (zbU f (m - i) (m+j - i) i) (m - i) m (m+(j - i))=zcJ f (m - i) m (m+j):=by
 funext x;unfold zcJ zbU
 by_cases e1:m - i≤x∧x<m - i+(m+j - m)
 ·rw[if_pos e1]
  by_cases e3:m - i≤x∧x<m - i+(m+(j - i) - m)
  ·rw[if_pos e3]
   by_cases e4:m - i≤x+(m - (m - i))∧x+(m - (m - i)) <m - i+i
   ·omega
   ·rw[if_neg e4,if_neg Ko]
  ·rw[if_neg e3,if_pos Ko,if_pos Ko];congr 1;omega
 ·rw[if_neg e1]
  by_cases e2:m - i+(m+j - m)≤x∧x<m+j
  ·rw[if_pos e2,if_neg Ko,if_neg Ko,if_neg Ko,if_pos Ko];congr 1;omega
  ·rw[if_neg e2,if_neg Ko,if_neg Ko,if_neg Ko,if_neg Ko]
theorem ztZ (f:Nat→Nat) {m i:Nat} (hi:i≤m):zbU f (m - i) m i=zcJ f (m - i) m (m+i):=by
 funext x;simp only[zcJ,zbU]
 repeat' split
 all_goals first|omega| (congr 1;omega)|rfl
theorem zv5 (f:Nat→Nat) {a m b:Nat} (h1:a≤m) (h2:m≤b):Rea a b f (zcJ f a m b):=by
 refine⟨fun x=>if a≤x∧x<a+(b - m) then x+(m - a) else if a+(b - m)≤x∧x<b then x - (b - m) else x,fun x=>if a≤x∧x<m then x+(b - m) else if m≤x∧x<b then x - (m - a) else x,fun x=>?_,fun x=>?_,fun x=>?_,fun x hx=>?_⟩
 ·simp only
  by_cases e1:a≤x∧x<a+(b - m)
  ·rw[if_pos e1,if_neg Ko,if_pos Ko];omega
  ·rw[if_neg e1]
   by_cases e2:a+(b - m)≤x∧x<b
   ·rw[if_pos e2,if_pos Ko];omega
   ·rw[if_neg e2,if_neg Ko,if_neg Ko]
 ·simp only
  by_cases e1:a≤x∧x<m
  ·rw[if_pos e1,if_neg Ko,if_pos Ko];omega
  ·rw[if_neg e1]
   by_cases e2:m≤x∧x<b
   ·rw[if_pos e2,if_pos Ko];omega
   ·rw[if_neg e2,if_neg Ko,if_neg Ko]
 ·simp only[zcJ]
  repeat' split
  all_goals rfl
 ·simp only
  rw[if_neg Ko,if_neg Ko]
section merge
variable {key:Nat→Int} {f:Nat→Nat} {a m b mid s:Nat}
structure CutO (key:Nat→Int) (f:Nat→Nat) (a m b mid s:Nat):Prop where
 sa:a≤s
 sm:s≤m
 smid:s≤mid
 eb:mid+m≤b+s
 one: ∀x y,a≤x→x<s→mid+m - s≤y→y<b→key (f x)≤key (f y)
 two: ∀x y,m≤x→x<mid+m - s→s≤y→y<m→key (f x)≤key (f y)
theorem zyY (h1:zV key f a m) (h2:zV key f m b) {lo hi:Nat} (ham:a<m) (hmb:m<b) (hmid:mid=(a+b) / 2) (hlo:lo=if mid<m then mid+m - b else a) (hhi:hi=if mid<m then mid else m)
  (hs1:lo≤s) (hs2:s≤hi) (hp1:lo<s→key (f (s - 1))≤key (f (mid+m - s))) (hp2:s<hi→key (f (mid+m - 1 - s))≤key (f s)):CutO key f a m b mid s:=by
 have hab:a≤lo∧hi≤m∧hi≤mid∧mid+m≤b+lo∧lo≤hi:=by
  by_cases e:mid<m
  ·rw[if_pos e] at hlo hhi;omega
  ·rw[if_neg e] at hlo hhi;omega
 refine⟨by omega,by omega,by omega,by omega,fun x y g1 g2 g3 g4=>?_,fun x y g1 g2 g3 g4=>?_⟩
 ·rcases Nat.lt_or_ge lo s with q|q
  ·have e1:=h1.le (i:=x) (j:=s - 1) g1 Ko Ko
   have e2:=h2.le (i:=mid+m - s) (j:=y) Ko g3 g4
   have e3:=hp1 q
   omega
  ·by_cases e:mid<m
   ·rw[if_pos e] at hlo;omega
   ·rw[if_neg e] at hlo;omega
 ·rcases Nat.lt_or_ge s hi with q|q
  ·have e1:=h2.le (i:=x) (j:=mid+m - 1 - s) g1 Ko Ko
   have e2:=h1.le (i:=s) (j:=y) Ko g3 g4
   have e3:=hp2 q
   omega
  ·by_cases e:mid<m
   ·rw[if_pos e] at hhi;omega
   ·rw[if_neg e] at hhi;omega
theorem CutO.parts (h:CutO key f a m b mid s) (h1:zV key f a m) (h2:zV key f m b) {g:Nat→Nat} (hg:g=zcJ f s m (mid+m - s)):
  zV key g a s∧zV key g s mid∧zV key g mid (mid+m - s)∧zV key g (mid+m - s) b∧ ∀x y,a≤x→x<mid→mid≤y→y<b→key (g x)≤key (g y):=by
 obtain⟨sa,sm,smid,eb,one,two⟩:=h
 have ev1: ∀x,x<s→g x=f x:=fun x hx=>by rw[hg];unfold zcJ;rw[if_neg Ko,if_neg Ko]
 have ev2: ∀x,s≤x→x<mid→g x=f (x+(m - s)):=fun x hx hx2=>by rw[hg];unfold zcJ;rw[if_pos Ko]
 have ev3: ∀x,mid≤x→x<mid+m - s→g x=f (x - (mid+m - s - m)):=fun x hx hx2=>by rw[hg];unfold zcJ;rw[if_neg Ko,if_pos Ko]
 have ev4: ∀x,mid+m - s≤x→g x=f x:=fun x hx=>by rw[hg];unfold zcJ;rw[if_neg Ko,if_neg Ko]
 refine⟨fun i j g1 g2 g3=>?_,fun i j g1 g2 g3=>?_,fun i j g1 g2 g3=>?_,fun i j g1 g2 g3=>?_,fun x y g1 g2 g3 g4=>?_⟩
 ·rw[ev1 i Ko,ev1 j g3];exact h1 i j g1 g2 Ko
 ·rw[ev2 i g1 Ko,ev2 j Ko g3];exact h2 _ _ Ko Ko Ko
 ·rw[ev3 i g1 Ko,ev3 j Ko g3];exact h1 _ _ Ko Ko Ko
 ·rw[ev4 i g1,ev4 j Ko];exact h2 _ _ Ko g2 g3
 ·rcases Nat.lt_or_ge x s with q|q
  ·rw[ev1 x q]
   rcases Nat.lt_or_ge y (mid+m - s) with r|r
   ·rw[ev3 y g3 r];exact h1.le g1 Ko Ko
   ·rw[ev4 y r];exact one x y g1 q r g4
  ·rw[ev2 x q g2]
   rcases Nat.lt_or_ge y (mid+m - s) with r|r
   ·rw[ev3 y g3 r];exact two _ _ Ko Ko Ko Ko
   ·rw[ev4 y r];exact h2.le Ko Ko g4
theorem zt0 {f1 f2 f3:Nat→Nat} (hm1:a≤mid) (hm2:mid≤b) (hle: ∀x y,a≤x→x<mid→mid≤y→y<b→key (f1 x)≤key (f1 y)) (r1:Rea a mid f1 f2) (s1:zV key f2 a mid) (r2:Rea mid b f2 f3) (s2:zV key f3 mid b):zV key f3 a b:=by
 refine zV.join (m:=mid) (s1.same fun i g1 g2=>r2.out (.inl g2)) s2 fun i j g1 g2 g3 g4=>?_
 rw[r2.out (.inl g2)]
 obtain⟨j',k1,k2,k3⟩:=r2.from g3 g4
 obtain⟨i',l1,l2,l3⟩:=r1.from g1 g2
 rw[k3,l3,r1.out (.inr k1)]
 exact hle _ _ l1 l2 k1 k2
end merge
def zku (key:Nat→Int) (f:Nat→Nat) (n w:Nat):Prop:= ∀a,(∃q,a=q * w)→zV key f a (min (a+w) n)
def zkv (key:Nat→Int) (f:Nat→Nat) (n w a:Nat):Prop:=(∀c,(∃q,c=q * w)→a≤c→zV key f c (min (c+w) n))∧ ∀c,(∃q,c=q * (2 * w))→c<a→zV key f c (min (c+2 * w) n)
theorem zku.start {key:Nat→Int} {f:Nat→Nat} {n w:Nat} (h:zku key f n w):zkv key f n w 0:=⟨fun c h1 _=>h c h1,fun c _ h2=>by omega⟩
theorem zkv.step {key:Nat→Int} {f g:Nat→Nat} {n w a:Nat} (h:zkv key f n w a) (ha: ∃q,a=q * (2 * w)) (hw:0<w) {b:Nat} (hb:b=min (a+2 * w) n) (hr:Rea a b f g) (hs:zV key g a b):zkv key g n w (a+2 * w):=by
 obtain⟨q,hq⟩:=ha
 refine⟨fun c hc h1=>?_,fun c hc h1=>?_⟩
 ·exact(h.1 c hc Ko).same fun i g1 g2=>hr.out (.inr Ko)
 ·obtain⟨p,hp⟩:=hc
  rcases Nat.lt_or_ge c a with e|e
  ·have hle:c+2 * w≤a:=by
    have:p<q:=by
     apply Classical.byContradiction
     intro hn
     have:=Nat.mul_le_mul_right (2 * w) (show q≤p by omega)
     omega
    have:=Nat.mul_le_mul_right (2 * w) (show p+1≤q by omega)
    rw[Nat.succ_mul] at this
    omega
   exact(h.2 c ⟨p,hp⟩ e).same fun i g1 g2=>hr.out (.inl Ko)
  ·have:c=a:=by
    have h2:p≤q:=by
     apply Classical.byContradiction
     intro hn
     have:=Nat.mul_le_mul_right (2 * w) (show q+1≤p by omega)
     rw[Nat.succ_mul] at this
     omega
    have h3:q≤p:=by
     apply Classical.byContradiction
     intro hn
     have:=Nat.mul_le_mul_right (2 * w) (show p+1≤q by omega)
     rw[Nat.succ_mul] at this
     omega
    rw[hp,hq,Nat.le_antisymm h2 h3]
   subst this
   rw[←hb];exact hs
theorem zkv.done {key:Nat→Int} {f:Nat→Nat} {n w a:Nat} (h:zkv key f n w a) (hw:0<w) (ha: ∃q,a=q * (2 * w)) (hn:n≤a+w):zku key f n (2 * w):=by
 intro c hc
 rcases Nat.lt_or_ge c a with e|e
 ·exact h.2 c hc e
 ·obtain⟨p,hp⟩:=hc
  have h1:=h.1 c ⟨2 * p,by rw[hp,Nat.mul_comm 2 p,Nat.mul_assoc]⟩ e
  exact h1.sub (Nat.le_refl _) Ko
theorem zku.all {key:Nat→Int} {f:Nat→Nat} {n w:Nat} (h:zku key f n w) (hn:n≤w):zV key f 0 n:=by
 have:=h 0 ⟨0,by omega⟩
 exact this.sub (Nat.le_refl _) Ko
end Go.Proofs.YtomdbjfdbkejoaaGreatDoor
namespace Go.Proofs.YtomdbjfdbkejoaaGreatDoor
open Go Go.V Go.Proofs
theorem Rea.lt {a b n:Nat} {f g:Nat→Nat} (h:Rea a b f g) (hb:b≤n) (hf: ∀i,i<n→f i<n): ∀i,i<n→g i<n:=fun i hi=>by
 by_cases h1:a≤i∧i<b
 ·obtain⟨j,h2,h3,h4⟩:=h.from h1.1 h1.2
  rw[h4];exact hf j Ko
 ·rw[h.out Ko];exact hf i hi
theorem zhc {n a b c:Nat} (h:a+c≤b) (hb:b+c≤n) (hn:n≤2000000) {f:Nat→Nat} {sp:List Value} {bd cd:Nat} {vf:Value} {G:za} {H:zb} {R:Value→za→zb→Prop}
  (hR:R (.tuple #[]) G ((bd, .cells (zj n (zbU f a b c)) sp 3)::H)):FnT Tryz.prog 174 [.slice (some ⟨bd,0,none⟩) n cd, .int .i64 (a:Nat), .int .i64 (b:Nat), .int .i64 (c:Nat),vf] G ((bd, .cells (zj n f) sp 3)::H) R:=by
 refine FnT.body tok [0,1,2,3,10,13] Tryz.func174 rfl Kk Kk (by show _≤38;simp) fun hsep=>?_
 rw[Tryz.results174]
 have hE:=hsep
 try simp only[zzs] at hE
 repeat(obtain⟨hx',hE⟩:=hE)
 repeat' first
  |with_reducible first|refine Nx.go ?_ |refine Bk.go (fun _=>?_) fun _=>?_ |refine Nb fun nb hnb hnb1 hnb2=>?_
  |simp -dsimp -implicitDefEqProofs (disch:=first|exact Kd|fail) only[go_sem,↓reduceIte,seval]
 refine Tri.loopU tok [0,1,2,3,10,13] Kk [0,1,2,3,10] (fun q G' fr H'=> ∃i:Nat,i+q=c∧G'=G∧H'=(bd, .cells (zj n (zbU f a b i)) sp 3)::H∧fr=[(0, .slice (some ⟨bd,0,none⟩) n cd),(1, .int .i64 (a:Nat)),(2, .int .i64 (b:Nat)),(3, .int .i64 (c:Nat)),(10, .int .i64 (i:Nat))]) (c) ?_ ?_
 ·exact Upd.now ⟨0,by omega,rfl,by rw[ztW],rfl⟩
 ·rintro q G1 fr H1 hle hs1 ⟨i,hiq,rfl,rfl,rfl⟩
  have hE:=hs1
  try simp only[zzs] at hE
  repeat(obtain⟨hx',hE⟩:=hE)
  by_cases hi:i<c
  ·have e1:(a:Int)+(i:Int)=((a+i:Nat):Int):=by omega
   have e2:(b:Int)+(i:Int)=((b+i:Nat):Int):=by omega
   have hg1:=zaV (zbU f a b i) (sp:=sp) (show b+i<n by omega)
   have hg2:=zaV (zbU f a b i) (sp:=sp) (show a+i<n by omega)
   have hp1:=zbg (zbU f a b i) (show a+i<n by omega) (zbU f a b i (b+i))
   have hp2:=zbg (zo (zbU f a b i) (a+i) (zbU f a b i (b+i))) (show b+i<n by omega) (zbU f a b i (a+i))
   have hst:zo (zo (zbU f a b i) (a+i) (zbU f a b i (b+i))) (b+i) (zbU f a b i (a+i))=zbU f a b (i+1):=ztX f Ko
   rw[hst] at hp2
   repeat' first
    |with_reducible first|refine Nx.go ?_ |refine Bk.go (fun _=>?_) fun _=>?_ |refine Nb fun nb hnb hnb1 hnb2=>?_
    |simp -dsimp -implicitDefEqProofs (disch:=first|exact Kd|fail) only[go_sem,↓reduceIte,seval,e1,e2,hg1,hg2,hp1,hp2,zbF]
    |with_reducible refine Tri.drawS tok mixed [0,1,2,3,10,13] 3 [13,19] (.op 0 .plain (.op 1 .plain (.op 2 .plain (.op 3 .plain (.op 4 .plain (.op 5 .plain (.op 6 .plain (.op 7 .plain (.op 8 .plain (.op 9 .plain (.op 10 .plain (.op 11 .plain (.op 12 .plain (.op 13 .held (.op 14 .plain (.op 15 .plain (.op 16 .plain (.op 17 .plain (.op 18 .plain (.op 19 .held (.op 20 .plain (.op 21 .plain (.op 22 .plain (.op 23 .plain .nil)))))))))))))))))))))))) Kk [(bd, .cells (zj n (zbU f a b i)) sp 3)] Ks ?_
   exact Upd.now ⟨q - 1,by omega,i+1,by omega,rfl,rfl,rfl⟩
  ·obtain rfl:i=c:=by omega
   repeat' first
    |with_reducible first|refine Nx.go ?_ |refine Bk.go (fun _=>?_) fun _=>?_ |refine Nb fun nb hnb hnb1 hnb2=>?_
    |simp -dsimp -implicitDefEqProofs (disch:=first|exact Kd|fail) only[go_sem,↓reduceIte,seval]
   all_goals refine Upd.finL ?_ hR ?_
   any_goals first|exact Ks|skip
   rfl
theorem zv6 {n a m b:Nat} (h1:a<m) (h2:m<b) (hb:b≤n) (hn:n≤2000000) {f:Nat→Nat} {sp:List Value} {bd cd:Nat} {vf:Value} {G:za} {H:zb} {R:Value→za→zb→Prop}
  (hR:R (.tuple #[]) G ((bd, .cells (zj n (zcJ f a m b)) sp 3)::H)):FnT Tryz.prog 173 [.slice (some ⟨bd,0,none⟩) n cd, .int .i64 (a:Nat), .int .i64 (m:Nat), .int .i64 (b:Nat),vf] G ((bd, .cells (zj n f) sp 3)::H) R:=by
 have e1:(m:Int) - (a:Int)=((m - a:Nat):Int):=by omega
 have e2:(b:Int) - (m:Int)=((b - m:Nat):Int):=by omega
 refine FnT.body tok [0,1,2,3,4,10,11,20,23] Tryz.func173 rfl Kk Kk (by show _≤58;simp) fun hsep=>?_
 rw[Tryz.results173]
 have hE:=hsep
 try simp only[zzs] at hE
 repeat(obtain⟨hx',hE⟩:=hE)
 repeat' first
  |with_reducible first|refine Nx.go ?_ |refine Bk.go (fun _=>?_) fun _=>?_ |refine Nb fun nb hnb hnb1 hnb2=>?_
  |simp -dsimp -implicitDefEqProofs (disch:=first|exact Kd|fail) only[go_sem,↓reduceIte,seval,e1,e2]
 refine Tri.loopU tok [0,1,2,3,4,10,11,20,23] Kk [0,1,2,3,4,10,11] (fun q G' fr H'=> ∃ (i j:Nat) (g:Nat→Nat),i+j=q∧0<i∧0<j∧i≤m∧m+j≤n∧zcJ g (m - i) m (m+j)=zcJ f a m b∧G'=G∧H'=(bd, .cells (zj n g) sp 3)::H∧fr=[(0, .slice (some ⟨bd,0,none⟩) n cd),(1, .int .i64 (a:Nat)),(2, .int .i64 (m:Nat)),(3, .int .i64 (b:Nat)),(4,vf),(10, .int .i64 (i:Nat)),(11, .int .i64 (j:Nat))]) ((b - a)) ?_ ?_
 ·exact Upd.now ⟨m - a,b - m,f,by omega,by omega,by omega,by omega,by omega,by rw[show m - (m - a)=a by omega,show m+(b - m)=b by omega],rfl,rfl,rfl⟩
 ·rintro q G1 fr H1 hle hs1 ⟨i,j,g,hq,hi,hj,him,hmj,hrot,rfl,rfl,rfl⟩
  have hE:=hs1
  try simp only[zzs] at hE
  repeat(obtain⟨hx',hE⟩:=hE)
  have e3:(m:Int) - (i:Int)=((m - i:Nat):Int):=by omega
  rcases Nat.lt_trichotomy i j with hij|hij|hij
  ·have e4:(m:Int)+(j:Int) - (i:Int)=((m+j - i:Nat):Int):=by omega
   have e5:(j:Int) - (i:Int)=((j - i:Nat):Int):=by omega
   repeat' first
    |with_reducible first|refine Nx.go ?_ |refine Bk.go (fun _=>?_) fun _=>?_ |refine Nb fun nb hnb hnb1 hnb2=>?_
    |simp -dsimp -implicitDefEqProofs (disch:=first|exact Kd|fail) only[go_sem,↓reduceIte,seval,e3,e4,e5]
    |with_reducible refine zhc Ko Ko hn ?_
   exact Upd.now ⟨q - i,by omega,i,j - i,_,by omega,hi,by omega,him,by omega,by rw[zse g him hi hij,hrot],rfl,rfl,rfl⟩
  ·subst hij
   rw[←hrot,←ztZ g him] at hR
   repeat' first
    |with_reducible first|refine Nx.go ?_ |refine Bk.go (fun _=>?_) fun _=>?_ |refine Nb fun nb hnb hnb1 hnb2=>?_
    |simp -dsimp -implicitDefEqProofs (disch:=first|exact Kd|fail) only[go_sem,↓reduceIte,seval,e3]
    |with_reducible refine zhc Ko Ko hn ?_
   all_goals refine Upd.finL ?_ hR ?_
   any_goals first|exact Ks|skip
   rfl
  ·have e5:(i:Int) - (j:Int)=((i - j:Nat):Int):=by omega
   repeat' first
    |with_reducible first|refine Nx.go ?_ |refine Bk.go (fun _=>?_) fun _=>?_ |refine Nb fun nb hnb hnb1 hnb2=>?_
    |simp -dsimp -implicitDefEqProofs (disch:=first|exact Kd|fail) only[go_sem,↓reduceIte,seval,e3,e5]
    |with_reducible refine zhc Ko Ko hn ?_
   exact Upd.now ⟨q - j,by omega,i - j,j,_,by omega,by omega,hj,by omega,hmj,by rw[ztY g him hj hij,hrot],rfl,rfl,rfl⟩
def zeg (P:Program) (fid:FuncId) (cp:Value) (key:Nat→Int) (n:Nat) (bd:Nat) (sp:List Value) (G:za) (H:zb):Prop:= ∀ (x y:Nat) (g:Nat→Nat) (R:Value→za→zb→Prop),x<n→y<n→R (.int .i64 (key x - key y)) G ((bd, .cells (zj n g) sp 3)::H)→FnT P fid [.int .i64 (x:Nat), .int .i64 (y:Nat),cp] G ((bd, .cells (zj n g) sp 3)::H) R
theorem zeg.go {P:Program} {fid:FuncId} {cp:Value} {key:Nat→Int} {n bd:Nat} {sp:List Value} {G:za} {H:zb} (hc:zeg P fid cp key n bd sp G H) {x y:Nat} {g:Nat→Nat} {R:Value→za→zb→Prop} (hx:x<n) (hy:y<n) (hR:R (.int .i64 (key x - key y)) G ((bd, .cells (zj n g) sp 3)::H)):FnT P fid [.int .i64 (x:Nat), .int .i64 (y:Nat),cp] G ((bd, .cells (zj n g) sp 3)::H) R:=hc x y g R hx hy hR
theorem zoF {n a b:Nat} (hab:a≤b) (hb:b≤n) (hn:n≤2000000) {f:Nat→Nat} (hf: ∀i,i<n→f i<n) {key:Nat→Int} {sp:List Value} {bd cd:Nat} {fid:FuncId} {cp:Value} {G:za} {H:zb} {R:Value→za→zb→Prop} (hc:zeg Tryz.prog fid cp key n bd sp G H)
  (hR: ∀g,Rea a b f g→zV key g a b→R (.tuple #[]) G ((bd, .cells (zj n g) sp 3)::H)):FnT Tryz.prog 170 [.slice (some ⟨bd,0,none⟩) n cd, .int .i64 (a:Nat), .int .i64 (b:Nat), .func (.func fid) #[] #[cp]] G ((bd, .cells (zj n f) sp 3)::H) R:=by
 refine FnT.body tok [0,1,2,3,8,9,14,34] Tryz.func170 rfl Kk Kk (by show _≤53;simp) fun hsep=>?_
 rw[Tryz.results170]
 have hE:=hsep
 try simp only[zzs] at hE
 repeat(obtain⟨hx',hE⟩:=hE)
 repeat' first
  |with_reducible first|refine Nx.go ?_ |refine Bk.go (fun _=>?_) fun _=>?_ |refine Nb fun nb hnb hnb1 hnb2=>?_
  |simp -dsimp -implicitDefEqProofs (disch:=first|exact Kd|fail) only[go_sem,↓reduceIte,seval]
 refine Tri.loopU tok [0,1,2,3,8,9,14,34] Kk [0,1,2,3,8] (fun q G' fr H'=> ∃ (i:Nat) (g:Nat→Nat),(i - a)+q=b - a+1∧a<i∧(i≤b∨i=a+1)∧Rea a b f g∧zV key g a i∧G'=G∧H'=(bd, .cells (zj n g) sp 3)::H∧fr=[(0, .slice (some ⟨bd,0,none⟩) n cd),(1, .int .i64 (a:Nat)),(2, .int .i64 (b:Nat)),(3, .func (.func fid) #[] #[cp]),(8, .int .i64 (i:Nat))]) ((b - a)) ?_ ?_
 ·exact Upd.now ⟨a+1,f,by omega,by omega, .inr rfl,Rea.refl _ _ _,zV.small (Nat.le_refl _),rfl,rfl,rfl⟩
 ·rintro q G1 fr H1 hle hs1 ⟨i,g,hq,hai,hib,hr,hs,rfl,rfl,rfl⟩
  have hE:=hs1
  try simp only[zzs] at hE
  repeat(obtain⟨hx',hE⟩:=hE)
  by_cases hi:i<b
  ·repeat' first
    |with_reducible first|refine Nx.go ?_ |refine Bk.go (fun _=>?_) fun _=>?_ |refine Nb fun nb hnb hnb1 hnb2=>?_
    |simp -dsimp -implicitDefEqProofs (disch:=first|exact Kd|fail) only[go_sem,↓reduceIte,seval]
   refine Tri.loopU tok [0,1,2,3,8,9,14,34] Kk [0,1,2,3,8,9] (fun q2 G' fr H'=> ∃ (j:Nat) (g:Nat→Nat),j=q2∧a≤j∧j≤i∧Rea a b f g∧zh0 key g a i j∧G'=G1∧H'=(bd, .cells (zj n g) sp 3)::H∧fr=[(0, .slice (some ⟨bd,0,none⟩) n cd),(1, .int .i64 (a:Nat)),(2, .int .i64 (b:Nat)),(3, .func (.func fid) #[] #[cp]),(8, .int .i64 (i:Nat)),(9, .int .i64 (j:Nat))]) (i) ?_ ?_
   ·exact Upd.now ⟨i,g,rfl,by omega,Nat.le_refl _,hr,zh0.start hs,rfl,rfl,rfl⟩
   ·rintro q2 G2 fr H2 hle2 hs2 ⟨j,g,rfl,haj,hji,hr,hI,rfl,rfl,rfl⟩
    have hE:=hs2
    try simp only[zzs] at hE
    repeat(obtain⟨hx',hE⟩:=hE)
    by_cases hj:a<j
    ·have e1:(j:Int) - 1=((j - 1 :Nat):Int):=by omega
     have hg1:=zaV g (sp:=sp) (show j<n by omega)
     have hg2:=zaV g (sp:=sp) (show j - 1<n by omega)
     have hf2:=hr.lt hb hf
     have hl1:=hf2 j Ko
     have hl2:=hf2 (j - 1) Ko
     by_cases hk:key (g j) <key (g (j - 1))
     ·have hp1:=zbg g (show j<n by omega) (g (j - 1))
      have hp2:=zbg (zo g j (g (j - 1))) (show j - 1<n by omega) (g j)
      have hsw:zo (zo g j (g (j - 1))) (j - 1) (g j)=zgl g j (j - 1):=rfl
      rw[hsw] at hp2
      repeat' first
       |with_reducible first|refine Nx.go ?_ |refine Bk.go (fun _=>?_) fun _=>?_ |refine Nb fun nb hnb hnb1 hnb2=>?_
       |simp -dsimp -implicitDefEqProofs (disch:=first|exact Kd|fail) only[go_sem,↓reduceIte,seval,e1,hg1,hg2,hp1,hp2,zbF]
       |with_reducible refine Tri.drawS tok mixed [0,1,2,3,8,9,14,34] 4 [8,13] (.op 0 .plain (.op 1 .plain (.op 2 .plain (.op 3 .plain (.op 4 .plain (.op 5 .plain (.op 6 .plain (.op 7 .plain (.op 8 .held (.op 9 .plain (.op 10 .plain (.op 11 .plain (.op 12 .plain (.op 13 .held (.op 14 .plain (.op 15 .plain (.op 16 .plain .nil))))))))))))))))) Kk [(bd, .cells (zj n g) sp 3)] Ks ?_
       |with_reducible refine Tri.drawS tok mixed [0,1,2,3,8,9,14,34] 6 [9,13] (.op 0 .plain (.op 1 .plain (.op 2 .plain (.op 3 .plain (.op 4 .plain (.op 5 .plain (.op 6 .plain (.op 7 .plain (.op 8 .plain (.op 9 .held (.op 10 .plain (.op 11 .plain (.op 12 .plain (.op 13 .held (.op 14 .plain (.op 15 .plain (.op 16 .plain (.op 17 .plain .nil)))))))))))))))))) Kk [(bd, .cells (zj n g) sp 3)] Ks ?_
       |with_reducible refine zeg.go hc hl1 hl2 ?_
      exact Upd.now ⟨j - 1,by omega,j - 1,_,rfl,by omega,by omega,hr.trans (Rea.swap g Ko Ko Ko Ko),hI.swap hj hji hk,rfl,rfl,rfl⟩
     ·repeat' first
       |with_reducible first|refine Nx.go ?_ |refine Bk.go (fun _=>?_) fun _=>?_ |refine Nb fun nb hnb hnb1 hnb2=>?_
       |simp -dsimp -implicitDefEqProofs (disch:=first|exact Kd|fail) only[go_sem,↓reduceIte,seval,e1,hg1,hg2,zbF]
       |with_reducible refine Tri.drawS tok mixed [0,1,2,3,8,9,14,34] 4 [8,13] (.op 0 .plain (.op 1 .plain (.op 2 .plain (.op 3 .plain (.op 4 .plain (.op 5 .plain (.op 6 .plain (.op 7 .plain (.op 8 .held (.op 9 .plain (.op 10 .plain (.op 11 .plain (.op 12 .plain (.op 13 .held (.op 14 .plain (.op 15 .plain (.op 16 .plain .nil))))))))))))))))) Kk [(bd, .cells (zj n g) sp 3)] Ks ?_
       |with_reducible refine zeg.go hc hl1 hl2 ?_
      exact Upd.now ⟨q - 1,by omega,i+1,g,by omega,by omega, .inl Ko,hr,hI.done haj (.inr Ko),rfl,rfl,rfl⟩
    ·repeat' first
      |with_reducible first|refine Nx.go ?_ |refine Bk.go (fun _=>?_) fun _=>?_ |refine Nb fun nb hnb hnb1 hnb2=>?_
      |simp -dsimp -implicitDefEqProofs (disch:=first|exact Kd|fail) only[go_sem,↓reduceIte,seval]
      |with_reducible refine Tri.drawS tok mixed [0,1,2,3,8,9,14,34] 4 [8,13] (.op 0 .plain (.op 1 .plain (.op 2 .plain (.op 3 .plain (.op 4 .plain (.op 5 .plain (.op 6 .plain (.op 7 .plain (.op 8 .held (.op 9 .plain (.op 10 .plain (.op 11 .plain (.op 12 .plain (.op 13 .held (.op 14 .plain (.op 15 .plain (.op 16 .plain .nil))))))))))))))))) Kk [(bd, .cells (zj n g) sp 3)] Ks ?_
     exact Upd.now ⟨q - 1,by omega,i+1,g,by omega,by omega, .inl Ko,hr,hI.done haj (.inl Ko),rfl,rfl,rfl⟩
  ·repeat' first
    |with_reducible first|refine Nx.go ?_ |refine Bk.go (fun _=>?_) fun _=>?_ |refine Nb fun nb hnb hnb1 hnb2=>?_
    |simp -dsimp -implicitDefEqProofs (disch:=first|exact Kd|fail) only[go_sem,↓reduceIte,seval]
   all_goals refine Upd.finL ?_ (hR g hr (hs.sub (Nat.le_refl _) Ko)) ?_
   any_goals first|exact Ks|skip
   rfl
end Go.Proofs.YtomdbjfdbkejoaaGreatDoor
namespace Go.Proofs.YtomdbjfdbkejoaaGreatDoor
open Go Go.V Go.Proofs
theorem zyZ {n a m b:Nat} (ham:m=a+1) (hmb:m<b) (hb:b≤n) (hn:n≤2000000) {f:Nat→Nat} (hf: ∀i,i<n→f i<n) {key:Nat→Int} {sp:List Value} {bd cd:Nat} {fid:FuncId} {cp:Value} {G:za} {H:zb} (hc:zeg Tryz.prog fid cp key n bd sp G H) (hs:zV key f m b):
  Tri Tryz.prog Tryz.f171.ntmps (piece [0,1,0] Tryz.f171) G [(0, .slice (some ⟨bd,0,none⟩) n cd),(1, .int .i64 (a:Nat)),(2, .int .i64 (m:Nat)),(3, .int .i64 (b:Nat)),(4, .func (.func fid) #[] #[cp])] ((bd, .cells (zj n f) sp 3)::H) (V.onlyR fun G' l' H'=> ∃g,Rea a b f g∧zV key g a b∧G'=G∧H'=(bd, .cells (zj n g) sp 3)::H):=by
 have hfa:=hf a Ko
 have hga:=zaV f (sp:=sp) (show a<n by omega)
 refine Tri.piece (f:=Tryz.f171) rfl ?_
 refine Tri.runS tok [0,1,2,3,4,10,11,12,13,14,15,16,17,18,19,20,21,22,23,24,28,33,50,58,80,85,103,110,140,151,171,185,199,213] (.seq .run (.seq .run (.seq .run .cut))) Kk ?_
 repeat' first
  |with_reducible first|refine Nx.go ?_ |refine Bk.go (fun _=>?_) fun _=>?_ |refine Nb fun nb hnb hnb1 hnb2=>?_ |refine Nr fun nb nsp ncap hnb hncap hnb1 hnb2=>?_
  |simp -dsimp -implicitDefEqProofs (disch:=first|exact Kd|fail) only[go_sem,↓reduceIte,seval]
 refine Tri.loopU tok [0,1,2,3,4,10,11,12,13,14,15,16,17,18,19,20,21,22,23,24,28,33,50,58,80,85,103,110,140,151,171,185,199,213] Kk [0,1,2,3,4,10,11] (fun q G' fr H'=> ∃ (i j:Nat),j - i=q∧m≤i∧i≤j∧j≤b∧(∀x,m≤x→x<i→key (f x) <key (f a))∧(∀x,j≤x→x<b→key (f a)≤key (f x))∧G'=G∧H'=(bd, .cells (zj n f) sp 3)::H∧fr=[(0, .slice (some ⟨bd,0,none⟩) n cd),(1, .int .i64 (a:Nat)),(2, .int .i64 (m:Nat)),(3, .int .i64 (b:Nat)),(4, .func (.func fid) #[] #[cp]),(10, .int .i64 (i:Nat)),(11, .int .i64 (j:Nat))]) ((b - m)) ?_ ?_
 ·exact Upd.now ⟨m,b,rfl,by omega,by omega,by omega,fun x h1 h2=>by omega,fun x h1 h2=>by omega,rfl,rfl,rfl⟩
 ·rintro q G1 fr H1 hle hs1 ⟨i,j,hq,hmi,hij,hjb,hlo,hhi,rfl,rfl,rfl⟩
  have hE:=hs1
  try simp only[zzs] at hE
  repeat(obtain⟨hx',hE⟩:=hE)
  by_cases hlt:i<j
  ·obtain⟨h,hh⟩: ∃h,h=(i+j) / 2:=⟨_,rfl⟩
   have e1:((i:Int)+(j:Int)) / 2=(h:Int):=by omega
   have hg1:=zaV f (sp:=sp) (show h<n by omega)
   have hl1:=hf h Ko
   repeat' first
    |with_reducible first|refine Nx.go ?_ |refine Bk.go (fun _=>?_) fun _=>?_ |refine Nb fun nb hnb hnb1 hnb2=>?_ |refine Nr fun nb nsp ncap hnb hncap hnb1 hnb2=>?_
    |simp -dsimp -implicitDefEqProofs (disch:=first|exact Kd|fail) only[go_sem,↓reduceIte,seval,e1,hg1,hga,zbF]
    |with_reducible refine Tri.drawS tok mixed [0,1,2,3,4,10,11,12,13,14,15,16,17,18,19,20,21,22,23,24,28,33,50,58,80,85,103,110,140,151,171,185,199,213] 5 [4,8] (.op 0 .plain (.op 1 .plain (.op 2 .plain (.op 3 .plain (.op 4 .held (.op 5 .plain (.op 6 .plain (.op 7 .plain (.op 8 .held (.op 9 .plain (.op 10 .plain .nil))))))))))) Kk [(bd, .cells (zj n f) sp 3)] Ks ?_
    |with_reducible refine zeg.go hc hl1 hfa ?_
   ·rename_i hk
    exact Upd.now ⟨j - (h+1),by omega,h+1,j,rfl,by omega,by omega,hjb,fun x h1 h2=>by
     have:=hs.le h1 (show x≤h by omega) Ko
     omega,hhi,rfl,rfl,rfl⟩
   ·rename_i hk
    exact Upd.now ⟨h - i,by omega,i,h,rfl,hmi,by omega,by omega,hlo,fun x h1 h2=>by
     have:=hs.le (show m≤h by omega) h1 Ko
     omega,rfl,rfl,rfl⟩
  ·obtain rfl:i=j:=by omega
   repeat' first
    |with_reducible first|refine Nx.go ?_ |refine Bk.go (fun _=>?_) fun _=>?_ |refine Nb fun nb hnb hnb1 hnb2=>?_ |refine Nr fun nb nsp ncap hnb hncap hnb1 hnb2=>?_
    |simp -dsimp -implicitDefEqProofs (disch:=first|exact Kd|fail) only[go_sem,↓reduceIte,seval]
   refine Tri.run tok [0,1,2,3,4,10,11,12,13,14,15,16,17,18,19,20,21,22,23,24,28,33,50,58,80,85,103,110,140,151,171,185,199,213] Kk ?_
   repeat' first
    |with_reducible first|refine Nx.go ?_ |refine Bk.go (fun _=>?_) fun _=>?_ |refine Nb fun nb hnb hnb1 hnb2=>?_ |refine Nr fun nb nsp ncap hnb hncap hnb1 hnb2=>?_
    |simp -dsimp -implicitDefEqProofs (disch:=first|exact Kd|fail) only[go_sem,↓reduceIte,seval]
   refine Tri.loopU tok [0,1,2,3,4,10,11,12,13,14,15,16,17,18,19,20,21,22,23,24,28,33,50,58,80,85,103,110,140,151,171,185,199,213] Kk [0,10,13] (fun q G' fr H'=> ∃k:Nat,i - 1 - k=q∧a≤k∧k≤i - 1∧G'=G1∧H'=(bd, .cells (zj n (upM f a k)) sp 3)::H∧fr=[(0, .slice (some ⟨bd,0,none⟩) n cd),(10, .int .i64 (i:Nat)),(13, .int .i64 (k:Nat))]) ((i - 1 - a)) ?_ ?_
   ·exact Upd.now ⟨a,rfl,Nat.le_refl _,by omega,rfl,by rw[zkt],rfl⟩
   ·rintro q2 G2 fr H2 hle2 hs2 ⟨k,hq2,hak,hki,rfl,rfl,rfl⟩
    have hE:=hs2
    try simp only[zzs] at hE
    repeat(obtain⟨hx',hE⟩:=hE)
    have e1:(i:Int) - 1=((i - 1 :Nat):Int):=by omega
    by_cases hk:k<i - 1
    ·have e2:(k:Int)+1=((k+1 :Nat):Int):=by omega
     have hg1:=zaV (upM f a k) (sp:=sp) (show k<n by omega)
     have hg2:=zaV (upM f a k) (sp:=sp) (show k+1<n by omega)
     have hp1:=zbg (upM f a k) (show k<n by omega) (upM f a k (k+1))
     have hp2:=zbg (zo (upM f a k) k (upM f a k (k+1))) (show k+1<n by omega) (upM f a k k)
     have hsw:zo (zo (upM f a k) k (upM f a k (k+1))) (k+1) (upM f a k k)=upM f a (k+1):=zoC f hak
     rw[hsw] at hp2
     repeat' first
      |with_reducible first|refine Nx.go ?_ |refine Bk.go (fun _=>?_) fun _=>?_ |refine Nb fun nb hnb hnb1 hnb2=>?_ |refine Nr fun nb nsp ncap hnb hncap hnb1 hnb2=>?_
      |simp -dsimp -implicitDefEqProofs (disch:=first|exact Kd|fail) only[go_sem,↓reduceIte,seval,e1,e2,hg1,hg2,hp1,hp2,zbF]
      |with_reducible refine Tri.drawS tok mixed [0,1,2,3,4,10,11,12,13,14,15,16,17,18,19,20,21,22,23,24,28,33,50,58,80,85,103,110,140,151,171,185,199,213] 11 [9,13] (.op 0 .plain (.op 1 .plain (.op 2 .plain (.op 3 .plain (.op 4 .plain (.op 5 .plain (.op 6 .plain (.op 7 .plain (.op 8 .plain (.op 9 .held (.op 10 .plain (.op 11 .plain (.op 12 .plain (.op 13 .held (.op 14 .plain (.op 15 .plain (.op 16 .plain (.op 17 .plain .nil)))))))))))))))))) Kk [(bd, .cells (zj n (upM f a k)) sp 3)] Ks ?_
     exact Upd.now ⟨i - 1 - (k+1),by omega,k+1,rfl,by omega,by omega,rfl,rfl,rfl⟩
    ·obtain rfl:k=i - 1:=by omega
     repeat' first
      |with_reducible first|refine Nx.go ?_ |refine Bk.go (fun _=>?_) fun _=>?_ |refine Nb fun nb hnb hnb1 hnb2=>?_ |refine Nr fun nb nsp ncap hnb hncap hnb1 hnb2=>?_
      |simp -dsimp -implicitDefEqProofs (disch:=first|exact Kd|fail) only[go_sem,↓reduceIte,seval,e1]
     exact Upd.now ⟨_,zqI f (i - 1) hak Ko,zsc (hs.sub Ko (Nat.le_refl _)) Ko hjb (fun x h1 h2=>hlo x Ko h2) hhi,rfl,rfl⟩
theorem zy0 {n a m b:Nat} (ham:a<m) (hmb:b=m+1) (hb:b≤n) (hn:n≤2000000) {f:Nat→Nat} (hf: ∀i,i<n→f i<n) {key:Nat→Int} {sp:List Value} {bd cd:Nat} {fid:FuncId} {cp:Value} {G:za} {H:zb} (hc:zeg Tryz.prog fid cp key n bd sp G H) (hs:zV key f a m):
  Tri Tryz.prog Tryz.f171.ntmps (piece [1,0,1,0] Tryz.f171) G [(0, .slice (some ⟨bd,0,none⟩) n cd),(1, .int .i64 (a:Nat)),(2, .int .i64 (m:Nat)),(3, .int .i64 (b:Nat)),(4, .func (.func fid) #[] #[cp])] ((bd, .cells (zj n f) sp 3)::H) (V.onlyR fun G' l' H'=> ∃g,Rea a b f g∧zV key g a b∧G'=G∧H'=(bd, .cells (zj n g) sp 3)::H):=by
 have hfm:=hf m Ko
 have hgm:=zaV f (sp:=sp) (show m<n by omega)
 refine Tri.piece (f:=Tryz.f171) rfl ?_
 refine Tri.runS tok [0,1,2,3,4,10,11,12,13,14,15,16,17,18,19,20,21,22,23,24,28,33,50,58,80,85,103,110,140,151,171,185,199,213] (.seq .run (.seq .run (.seq .run .cut))) Kk ?_
 repeat' first
  |with_reducible first|refine Nx.go ?_ |refine Bk.go (fun _=>?_) fun _=>?_ |refine Nb fun nb hnb hnb1 hnb2=>?_ |refine Nr fun nb nsp ncap hnb hncap hnb1 hnb2=>?_
  |simp -dsimp -implicitDefEqProofs (disch:=first|exact Kd|fail) only[go_sem,↓reduceIte,seval]
 refine Tri.loopU tok [0,1,2,3,4,10,11,12,13,14,15,16,17,18,19,20,21,22,23,24,28,33,50,58,80,85,103,110,140,151,171,185,199,213] Kk [0,1,2,3,4,14,15] (fun q G' fr H'=> ∃ (i j:Nat),j - i=q∧a≤i∧i≤j∧j≤m∧(∀x,a≤x→x<i→key (f x)≤key (f m))∧(∀x,j≤x→x<m→key (f m) <key (f x))∧G'=G∧H'=(bd, .cells (zj n f) sp 3)::H∧fr=[(0, .slice (some ⟨bd,0,none⟩) n cd),(1, .int .i64 (a:Nat)),(2, .int .i64 (m:Nat)),(3, .int .i64 (b:Nat)),(4, .func (.func fid) #[] #[cp]),(14, .int .i64 (i:Nat)),(15, .int .i64 (j:Nat))]) ((m - a)) ?_ ?_
 ·exact Upd.now ⟨a,m,rfl,by omega,by omega,by omega,fun x h1 h2=>by omega,fun x h1 h2=>by omega,rfl,rfl,rfl⟩
 ·rintro q G1 fr H1 hle hs1 ⟨i,j,hq,hmi,hij,hjb,hlo,hhi,rfl,rfl,rfl⟩
  have hE:=hs1
  try simp only[zzs] at hE
  repeat(obtain⟨hx',hE⟩:=hE)
  by_cases hlt:i<j
  ·obtain⟨h,hh⟩: ∃h,h=(i+j) / 2:=⟨_,rfl⟩
   have e1:((i:Int)+(j:Int)) / 2=(h:Int):=by omega
   have hg1:=zaV f (sp:=sp) (show h<n by omega)
   have hl1:=hf h Ko
   repeat' first
    |with_reducible first|refine Nx.go ?_ |refine Bk.go (fun _=>?_) fun _=>?_ |refine Nb fun nb hnb hnb1 hnb2=>?_ |refine Nr fun nb nsp ncap hnb hncap hnb1 hnb2=>?_
    |simp -dsimp -implicitDefEqProofs (disch:=first|exact Kd|fail) only[go_sem,↓reduceIte,seval,e1,hg1,hgm,zbF]
    |with_reducible refine Tri.drawS tok mixed [0,1,2,3,4,10,11,12,13,14,15,16,17,18,19,20,21,22,23,24,28,33,50,58,80,85,103,110,140,151,171,185,199,213] 17 [4,8] (.op 0 .plain (.op 1 .plain (.op 2 .plain (.op 3 .plain (.op 4 .held (.op 5 .plain (.op 6 .plain (.op 7 .plain (.op 8 .held (.op 9 .plain (.op 10 .plain (.op 11 .plain .nil)))))))))))) Kk [(bd, .cells (zj n f) sp 3)] Ks ?_
    |with_reducible refine zeg.go hc hfm hl1 ?_
   all_goals
    rename_i hk
    first
    |exact Upd.now ⟨j - (h+1),by omega,h+1,j,rfl,by omega,by omega,hjb,fun x h1 h2=>by
      have:=hs.le h1 (show x≤h by omega) Ko
      omega,hhi,rfl,rfl,rfl⟩
    |exact Upd.now ⟨h - i,by omega,i,h,rfl,hmi,by omega,by omega,hlo,fun x h1 h2=>by
      have:=hs.le (show a≤h by omega) h1 Ko
      omega,rfl,rfl,rfl⟩
  ·obtain rfl:i=j:=by omega
   repeat' first
    |with_reducible first|refine Nx.go ?_ |refine Bk.go (fun _=>?_) fun _=>?_ |refine Nb fun nb hnb hnb1 hnb2=>?_ |refine Nr fun nb nsp ncap hnb hncap hnb1 hnb2=>?_
    |simp -dsimp -implicitDefEqProofs (disch:=first|exact Kd|fail) only[go_sem,↓reduceIte,seval]
   refine Tri.run tok [0,1,2,3,4,10,11,12,13,14,15,16,17,18,19,20,21,22,23,24,28,33,50,58,80,85,103,110,140,151,171,185,199,213] Kk ?_
   repeat' first
    |with_reducible first|refine Nx.go ?_ |refine Bk.go (fun _=>?_) fun _=>?_ |refine Nb fun nb hnb hnb1 hnb2=>?_ |refine Nr fun nb nsp ncap hnb hncap hnb1 hnb2=>?_
    |simp -dsimp -implicitDefEqProofs (disch:=first|exact Kd|fail) only[go_sem,↓reduceIte,seval]
   refine Tri.loopU tok [0,1,2,3,4,10,11,12,13,14,15,16,17,18,19,20,21,22,23,24,28,33,50,58,80,85,103,110,140,151,171,185,199,213] Kk [0,14,17] (fun q G' fr H'=> ∃k:Nat,k - i=q∧i≤k∧k≤m∧G'=G1∧H'=(bd, .cells (zj n (dnM f m k)) sp 3)::H∧fr=[(0, .slice (some ⟨bd,0,none⟩) n cd),(14, .int .i64 (i:Nat)),(17, .int .i64 (k:Nat))]) ((m - i)) ?_ ?_
   ·exact Upd.now ⟨m,rfl,by omega,Nat.le_refl _,rfl,by rw[zoD],rfl⟩
   ·rintro q2 G2 fr H2 hle2 hs2 ⟨k,hq2,hik,hkm,rfl,rfl,rfl⟩
    have hE:=hs2
    try simp only[zzs] at hE
    repeat(obtain⟨hx',hE⟩:=hE)
    by_cases hk:i<k
    ·have e2:(k:Int) - 1=((k - 1 :Nat):Int):=by omega
     have hg1:=zaV (dnM f m k) (sp:=sp) (show k<n by omega)
     have hg2:=zaV (dnM f m k) (sp:=sp) (show k - 1<n by omega)
     have hp1:=zbg (dnM f m k) (show k<n by omega) (dnM f m k (k - 1))
     have hp2:=zbg (zo (dnM f m k) k (dnM f m k (k - 1))) (show k - 1<n by omega) (dnM f m k k)
     have hsw:zo (zo (dnM f m k) k (dnM f m k (k - 1))) (k - 1) (dnM f m k k)=dnM f m (k - 1):=zoE f hkm Ko
     rw[hsw] at hp2
     repeat' first
      |with_reducible first|refine Nx.go ?_ |refine Bk.go (fun _=>?_) fun _=>?_ |refine Nb fun nb hnb hnb1 hnb2=>?_ |refine Nr fun nb nsp ncap hnb hncap hnb1 hnb2=>?_
      |simp -dsimp -implicitDefEqProofs (disch:=first|exact Kd|fail) only[go_sem,↓reduceIte,seval,e2,hg1,hg2,hp1,hp2,zbF]
      |with_reducible refine Tri.drawS tok mixed [0,1,2,3,4,10,11,12,13,14,15,16,17,18,19,20,21,22,23,24,28,33,50,58,80,85,103,110,140,151,171,185,199,213] 23 [9,13] (.op 0 .plain (.op 1 .plain (.op 2 .plain (.op 3 .plain (.op 4 .plain (.op 5 .plain (.op 6 .plain (.op 7 .plain (.op 8 .plain (.op 9 .held (.op 10 .plain (.op 11 .plain (.op 12 .plain (.op 13 .held (.op 14 .plain (.op 15 .plain (.op 16 .plain (.op 17 .plain .nil)))))))))))))))))) Kk [(bd, .cells (zj n (dnM f m k)) sp 3)] Ks ?_
     exact Upd.now ⟨k - 1 - i,by omega,k - 1,rfl,by omega,by omega,rfl,rfl,rfl⟩
    ·obtain rfl:i=k:=by omega
     have hend:=zsd hs hmi hjb hlo hhi
     rw[←hmb] at hend
     repeat' first
      |with_reducible first|refine Nx.go ?_ |refine Bk.go (fun _=>?_) fun _=>?_ |refine Nb fun nb hnb hnb1 hnb2=>?_ |refine Nr fun nb nsp ncap hnb hncap hnb1 hnb2=>?_
      |simp -dsimp -implicitDefEqProofs (disch:=first|exact Kd|fail) only[go_sem,↓reduceIte,seval]
     exact Upd.now ⟨_,zqJ f Ko (m - i) i Ko hmi,hend,rfl,rfl⟩
theorem zy1 {n a m b mid:Nat} (ham:a<m) (hmb:m<b) (hmid:mid=(a+b) / 2) (hb:b≤n) (hn:n≤2000000) {f:Nat→Nat} (hf: ∀i,i<n→f i<n) {key:Nat→Int} {sp:List Value} {bd cd:Nat} {fid:FuncId} {cp:Value} {G:za} {H:zb} (hc:zeg Tryz.prog fid cp key n bd sp G H) (hs1:zV key f a m) (hs2:zV key f m b) {lo hi:Nat} (hlo:lo=if mid<m then mid+m - b else a) (hhi:hi=if mid<m then mid else m):
  Tri Tryz.prog Tryz.f171.ntmps (piece [1,1,1,1,1,1,1,0] Tryz.f171) G [(0, .slice (some ⟨bd,0,none⟩) n cd),(1, .int .i64 (a:Nat)),(2, .int .i64 (m:Nat)),(3, .int .i64 (b:Nat)),(4, .func (.func fid) #[] #[cp]),(18, .int .i64 (mid:Nat)),(19, .int .i64 ((mid+m:Nat):Int)),(20, .int .i64 (lo:Nat)),(21, .int .i64 (hi:Nat)),(22, .int .i64 ((mid+m - 1 :Nat):Int))] ((bd, .cells (zj n f) sp 3)::H) (onlyN fun G' fr' H'=> ∃s,CutO key f a m b mid s∧G'=G∧zD [0,1,2,3,4,18,19,20] fr'=[(0, .slice (some ⟨bd,0,none⟩) n cd),(1, .int .i64 (a:Nat)),(2, .int .i64 (m:Nat)),(3, .int .i64 (b:Nat)),(4, .func (.func fid) #[] #[cp]),(18, .int .i64 (mid:Nat)),(19, .int .i64 ((mid+m:Nat):Int)),(20, .int .i64 (s:Nat))]∧H'=(bd, .cells (zj n f) sp 3)::H):=by
 have hab:a≤lo∧hi≤m∧hi≤mid∧mid+m≤b+lo∧lo≤hi:=by
  by_cases e:mid<m
  ·rw[if_pos e] at hlo hhi;omega
  ·rw[if_neg e] at hlo hhi;omega
 have hcut:=fun s=>zyY (s:=s) hs1 hs2 ham hmb hmid hlo hhi
 clear hlo hhi
 refine Tri.piece (f:=Tryz.f171) rfl ?_
 refine Tri.run tok [0,1,2,3,4,10,11,12,13,14,15,16,17,18,19,20,21,22,23,24,28,33,50,58,80,85,103,110,140,151,171,185,199,213] Kk ?_
 repeat' first
  |with_reducible first|refine Nx.go ?_ |refine Bk.go (fun _=>?_) fun _=>?_ |refine Nb fun nb hnb hnb1 hnb2=>?_ |refine Nr fun nb nsp ncap hnb hncap hnb1 hnb2=>?_
  |simp -dsimp -implicitDefEqProofs (disch:=first|exact Kd|fail) only[go_sem,↓reduceIte,seval]
 refine Tri.loopU tok [0,1,2,3,4,10,11,12,13,14,15,16,17,18,19,20,21,22,23,24,28,33,50,58,80,85,103,110,140,151,171,185,199,213] Kk [0,1,2,3,4,18,19,20,21,22] (fun q G' fr H'=> ∃ (i j:Nat),j - i=q∧lo≤i∧i≤j∧j≤hi∧(lo<i→key (f (i - 1))≤key (f (mid+m - i)))∧(j<hi→key (f (mid+m - 1 - j))≤key (f j))∧G'=G∧H'=(bd, .cells (zj n f) sp 3)::H∧fr=[(0, .slice (some ⟨bd,0,none⟩) n cd),(1, .int .i64 (a:Nat)),(2, .int .i64 (m:Nat)),(3, .int .i64 (b:Nat)),(4, .func (.func fid) #[] #[cp]),(18, .int .i64 (mid:Nat)),(19, .int .i64 ((mid+m:Nat):Int)),(20, .int .i64 (i:Nat)),(21, .int .i64 (j:Nat)),(22, .int .i64 ((mid+m - 1 :Nat):Int))]) ((hi - lo)) ?_ ?_
 ·exact Upd.now ⟨lo,hi,rfl,Nat.le_refl _,by omega,Nat.le_refl _,fun h=>by omega,fun h=>by omega,rfl,rfl,rfl⟩
 ·rintro q G1 fr H1 hle hx' ⟨i,j,hq,hli,hij,hjh,hp1,hp2,rfl,rfl,rfl⟩
  have hE:=hx'
  try simp only[zzs] at hE
  repeat(obtain⟨hx',hE⟩:=hE)
  by_cases hlt:i<j
  ·obtain⟨c,hc2⟩: ∃c,c=(i+j) / 2:=⟨_,rfl⟩
   have e1:((i:Int)+(j:Int)) / 2=(c:Int):=by omega
   have e2:((mid+m - 1 :Nat):Int) - (c:Int)=((mid+m - 1 - c:Nat):Int):=by omega
   have hg1:=zaV f (sp:=sp) (show c<n by omega)
   have hg2:=zaV f (sp:=sp) (show mid+m - 1 - c<n by omega)
   have hl1:=hf c Ko
   have hl2:=hf (mid+m - 1 - c) Ko
   repeat' first
    |with_reducible first|refine Nx.go ?_ |refine Bk.go (fun _=>?_) fun _=>?_ |refine Nb fun nb hnb hnb1 hnb2=>?_ |refine Nr fun nb nsp ncap hnb hncap hnb1 hnb2=>?_
    |simp -dsimp -implicitDefEqProofs (disch:=first|exact Kd|fail) only[go_sem,↓reduceIte,seval,e1,e2,hg1,hg2,zbF]
    |with_reducible refine Tri.drawS tok mixed [0,1,2,3,4,10,11,12,13,14,15,16,17,18,19,20,21,22,23,24,28,33,50,58,80,85,103,110,140,151,171,185,199,213] 35 [6,10] (.op 0 .plain (.op 1 .plain (.op 2 .plain (.op 3 .plain (.op 4 .plain (.op 5 .plain (.op 6 .held (.op 7 .plain (.op 8 .plain (.op 9 .plain (.op 10 .held (.op 11 .plain (.op 12 .plain (.op 13 .plain .nil)))))))))))))) Kk [(bd, .cells (zj n f) sp 3)] Ks ?_
    |with_reducible refine zeg.go hc hl2 hl1 ?_
   all_goals
    rename_i hk
    first
    |exact Upd.now ⟨j - (c+1),by omega,c+1,j,rfl,by omega,by omega,hjh,fun _=>by rw[show mid+m - (c+1)=mid+m - 1 - c by omega,Nat.add_sub_cancel];omega,hp2,rfl,rfl,rfl⟩
    |exact Upd.now ⟨c - i,by omega,i,c,rfl,hli,by omega,by omega,hp1,fun _=>by omega,rfl,rfl,rfl⟩
  ·obtain rfl:i=j:=by omega
   repeat' first
    |with_reducible first|refine Nx.go ?_ |refine Bk.go (fun _=>?_) fun _=>?_ |refine Nb fun nb hnb hnb1 hnb2=>?_ |refine Nr fun nb nsp ncap hnb hncap hnb1 hnb2=>?_
    |simp -dsimp -implicitDefEqProofs (disch:=first|exact Kd|fail) only[go_sem,↓reduceIte,seval]
   exact Upd.now ⟨i,hcut i hli hjh hp1 hp2,rfl,rfl,rfl⟩
end Go.Proofs.YtomdbjfdbkejoaaGreatDoor
namespace Go.Proofs.YtomdbjfdbkejoaaGreatDoor
open Go Go.V Go.Proofs
theorem zt1 (f:Nat→Nat) {s m e:Nat} (h:s=m∨m=e):zcJ f s m e=f:=by
 funext x;simp only[zcJ]
 repeat' split
 all_goals first|omega| (congr 1;omega)|rfl
def zh1 (P:Program) (fm fid:FuncId) (cp:Value) (key:Nat→Int) (n bd cd:Nat) (sp:List Value) (G:za) (H:zb) (a m b:Nat):Prop:= ∀ (f:Nat→Nat) (R:Value→za→zb→Prop),a<m→m<b→b≤n→(∀i,i<n→f i<n)→zV key f a m→zV key f m b→
 (∀g,Rea a b f g→zV key g a b→R (.tuple #[]) G ((bd, .cells (zj n g) sp 3)::H))→FnT P fm [.slice (some ⟨bd,0,none⟩) n cd, .int .i64 (a:Nat), .int .i64 (m:Nat), .int .i64 (b:Nat), .func (.func fid) #[] #[cp]] G ((bd, .cells (zj n f) sp 3)::H) R
theorem zh1.go {P:Program} {fm fid:FuncId} {cp:Value} {key:Nat→Int} {n bd cd:Nat} {sp:List Value} {G:za} {H:zb} {a m b:Nat} (h:zh1 P fm fid cp key n bd cd sp G H a m b) {f:Nat→Nat} {R:Value→za→zb→Prop} (h1:a<m) (h2:m<b) (h3:b≤n) (h4: ∀i,i<n→f i<n) (h5:zV key f a m) (h6:zV key f m b)
 (hR: ∀g,Rea a b f g→zV key g a b→R (.tuple #[]) G ((bd, .cells (zj n g) sp 3)::H)):FnT P fm [.slice (some ⟨bd,0,none⟩) n cd, .int .i64 (a:Nat), .int .i64 (m:Nat), .int .i64 (b:Nat), .func (.func fid) #[] #[cp]] G ((bd, .cells (zj n f) sp 3)::H) R:=h f R h1 h2 h3 h4 h5 h6 hR
theorem zy2 {n a m b mid s e:Nat} (hm:m≤e) (hsm:s≤m) (he:e≤n) (hn:n≤2000000) {f:Nat→Nat} {sp:List Value} {bd cd:Nat} {vf:Value} {G:za} {H:zb}:
  Tri Tryz.prog Tryz.f171.ntmps (piece [1,1,1,1,1,1,1,1,1,0] Tryz.f171) G [(0, .slice (some ⟨bd,0,none⟩) n cd),(1, .int .i64 (a:Nat)),(2, .int .i64 (m:Nat)),(3, .int .i64 (b:Nat)),(4,vf),(18, .int .i64 (mid:Nat)),(20, .int .i64 (s:Nat)),(24, .int .i64 (e:Nat))] ((bd, .cells (zj n f) sp 3)::H) (onlyN fun G' fr' H'=>G'=G∧zD [0,1,3,4,18,20,24] fr'=[(0, .slice (some ⟨bd,0,none⟩) n cd),(1, .int .i64 (a:Nat)),(3, .int .i64 (b:Nat)),(4,vf),(18, .int .i64 (mid:Nat)),(20, .int .i64 (s:Nat)),(24, .int .i64 (e:Nat))]∧H'=(bd, .cells (zj n (zcJ f s m e)) sp 3)::H):=by
 refine Tri.sepT fun hs0=>?_
 have hE:=hs0
 try simp only[zzs] at hE
 repeat(obtain⟨hx',hE⟩:=hE)
 by_cases h1:s<m∧m<e
 ·obtain⟨h1,h2⟩:=h1
  refine Tri.piece (f:=Tryz.f171) rfl ?_
  refine Tri.run tok [0,1,2,3,4,10,11,12,13,14,15,16,17,18,19,20,21,22,23,24,28,33,50,58,80,85,103,110,140,151,171,185,199,213] Kk ?_
  repeat' first
   |with_reducible first|refine Nx.go ?_ |refine Bk.go (fun _=>?_) fun _=>?_ |refine Nb fun nb hnb hnb1 hnb2=>?_ |refine Nr fun nb nsp ncap hnb hncap hnb1 hnb2=>?_
   |simp -dsimp -implicitDefEqProofs (disch:=first|exact Kd|fail) only[go_sem,↓reduceIte,seval]
   |with_reducible refine zv6 h1 h2 he hn ?_
  exact Upd.now ⟨rfl,rfl,rfl⟩
 ·have h2:s=m∨m=e:=by omega
  rw[zt1 f h2]
  refine Tri.piece (f:=Tryz.f171) rfl ?_
  refine Tri.run tok [0,1,2,3,4,10,11,12,13,14,15,16,17,18,19,20,21,22,23,24,28,33,50,58,80,85,103,110,140,151,171,185,199,213] Kk ?_
  repeat' first
   |with_reducible first|refine Nx.go ?_ |refine Bk.go (fun _=>?_) fun _=>?_ |refine Nb fun nb hnb hnb1 hnb2=>?_ |refine Nr fun nb nsp ncap hnb hncap hnb1 hnb2=>?_
   |simp -dsimp -implicitDefEqProofs (disch:=first|exact Kd|fail) only[go_sem,↓reduceIte,seval]
  all_goals first| (exfalso;omega)|exact Upd.now ⟨rfl,rfl,rfl⟩
theorem zy3 {n a b mid s e:Nat} (has:a≤s) (hsm:s≤mid) (he:mid≤n) (hn:n≤2000000) {f:Nat→Nat} (hf: ∀i,i<n→f i<n) {key:Nat→Int} {sp:List Value} {bd cd:Nat} {fid:FuncId} {cp:Value} {G:za} {H:zb} (hI:zh1 Tryz.prog 171 fid cp key n bd cd sp G H a s mid) (hs1:zV key f a s) (hs2:zV key f s mid):
  Tri Tryz.prog Tryz.f171.ntmps (piece [1,1,1,1,1,1,1,1,1,1,0] Tryz.f171) G [(0, .slice (some ⟨bd,0,none⟩) n cd),(1, .int .i64 (a:Nat)),(3, .int .i64 (b:Nat)),(4, .func (.func fid) #[] #[cp]),(18, .int .i64 (mid:Nat)),(20, .int .i64 (s:Nat)),(24, .int .i64 (e:Nat))] ((bd, .cells (zj n f) sp 3)::H) (onlyN fun G' fr' H'=> ∃g,Rea a mid f g∧zV key g a mid∧G'=G∧zD [0,3,4,18,24] fr'=[(0, .slice (some ⟨bd,0,none⟩) n cd),(3, .int .i64 (b:Nat)),(4, .func (.func fid) #[] #[cp]),(18, .int .i64 (mid:Nat)),(24, .int .i64 (e:Nat))]∧H'=(bd, .cells (zj n g) sp 3)::H):=by
 refine Tri.sepT fun hs0=>?_
 have hE:=hs0
 try simp only[zzs] at hE
 repeat(obtain⟨hx',hE⟩:=hE)
 by_cases h1:a<s∧s<mid
 ·obtain⟨h1,h2⟩:=h1
  refine Tri.piece (f:=Tryz.f171) rfl ?_
  refine Tri.run tok [0,1,2,3,4,10,11,12,13,14,15,16,17,18,19,20,21,22,23,24,28,33,50,58,80,85,103,110,140,151,171,185,199,213] Kk ?_
  repeat' first
   |with_reducible first|refine Nx.go ?_ |refine Bk.go (fun _=>?_) fun _=>?_ |refine Nb fun nb hnb hnb1 hnb2=>?_ |refine Nr fun nb nsp ncap hnb hncap hnb1 hnb2=>?_
   |simp -dsimp -implicitDefEqProofs (disch:=first|exact Kd|fail) only[go_sem,↓reduceIte,seval]
   |with_reducible refine zh1.go hI h1 h2 he hf hs1 hs2 fun g hr hs=>?_
  exact Upd.now ⟨g,hr,hs,rfl,rfl,rfl⟩
 ·have hend:zV key f a mid:=by
   rcases(show a=s∨s=mid by omega) with h2|h2
   ·rw[h2];exact hs2
   ·rw[←h2];exact hs1
  refine Tri.piece (f:=Tryz.f171) rfl ?_
  refine Tri.run tok [0,1,2,3,4,10,11,12,13,14,15,16,17,18,19,20,21,22,23,24,28,33,50,58,80,85,103,110,140,151,171,185,199,213] Kk ?_
  repeat' first
   |with_reducible first|refine Nx.go ?_ |refine Bk.go (fun _=>?_) fun _=>?_ |refine Nb fun nb hnb hnb1 hnb2=>?_ |refine Nr fun nb nsp ncap hnb hncap hnb1 hnb2=>?_
   |simp -dsimp -implicitDefEqProofs (disch:=first|exact Kd|fail) only[go_sem,↓reduceIte,seval]
  all_goals first| (exfalso;omega)|exact Upd.now ⟨f,Rea.refl _ _ _,hend,rfl,rfl,rfl⟩
theorem zy4 {n b mid e:Nat} (hme:mid≤e) (heb:e≤b) (hb:b≤n) (hn:n≤2000000) {f:Nat→Nat} (hf: ∀i,i<n→f i<n) {key:Nat→Int} {sp:List Value} {bd cd:Nat} {fid:FuncId} {cp:Value} {G:za} {H:zb} (hI:zh1 Tryz.prog 171 fid cp key n bd cd sp G H mid e b) (hs1:zV key f mid e) (hs2:zV key f e b):
  Tri Tryz.prog Tryz.f171.ntmps (piece [1,1,1,1,1,1,1,1,1,1,1] Tryz.f171) G [(0, .slice (some ⟨bd,0,none⟩) n cd),(3, .int .i64 (b:Nat)),(4, .func (.func fid) #[] #[cp]),(18, .int .i64 (mid:Nat)),(24, .int .i64 (e:Nat))] ((bd, .cells (zj n f) sp 3)::H) (onlyN fun G' fr' H'=> ∃g,Rea mid b f g∧zV key g mid b∧G'=G∧H'=(bd, .cells (zj n g) sp 3)::H):=by
 refine Tri.sepT fun hs0=>?_
 have hE:=hs0
 try simp only[zzs] at hE
 repeat(obtain⟨hx',hE⟩:=hE)
 by_cases h1:mid<e∧e<b
 ·obtain⟨h1,h2⟩:=h1
  refine Tri.piece (f:=Tryz.f171) rfl ?_
  refine Tri.run tok [0,1,2,3,4,10,11,12,13,14,15,16,17,18,19,20,21,22,23,24,28,33,50,58,80,85,103,110,140,151,171,185,199,213] Kk ?_
  repeat' first
   |with_reducible first|refine Nx.go ?_ |refine Bk.go (fun _=>?_) fun _=>?_ |refine Nb fun nb hnb hnb1 hnb2=>?_ |refine Nr fun nb nsp ncap hnb hncap hnb1 hnb2=>?_
   |simp -dsimp -implicitDefEqProofs (disch:=first|exact Kd|fail) only[go_sem,↓reduceIte,seval]
   |with_reducible refine zh1.go hI h1 h2 hb hf hs1 hs2 fun g hr hs=>?_
  exact Upd.now ⟨g,hr,hs,rfl,rfl⟩
 ·have hend:zV key f mid b:=by
   rcases(show mid=e∨e=b by omega) with h2|h2
   ·rw[h2];exact hs2
   ·rw[←h2];exact hs1
  refine Tri.piece (f:=Tryz.f171) rfl ?_
  refine Tri.run tok [0,1,2,3,4,10,11,12,13,14,15,16,17,18,19,20,21,22,23,24,28,33,50,58,80,85,103,110,140,151,171,185,199,213] Kk ?_
  repeat' first
   |with_reducible first|refine Nx.go ?_ |refine Bk.go (fun _=>?_) fun _=>?_ |refine Nb fun nb hnb hnb1 hnb2=>?_ |refine Nr fun nb nsp ncap hnb hncap hnb1 hnb2=>?_
   |simp -dsimp -implicitDefEqProofs (disch:=first|exact Kd|fail) only[go_sem,↓reduceIte,seval]
  all_goals first| (exfalso;omega)|exact Upd.now ⟨f,Rea.refl _ _ _,hend,rfl,rfl⟩
set_option maxRecDepth 4000 in
theorem zsf {n:Nat} (hn:n≤2000000) {key:Nat→Int} {sp:List Value} {bd cd:Nat} {fid:FuncId} {cp:Value} {G:za} {H:zb} (hc:zeg Tryz.prog fid cp key n bd sp G H): ∀w a m b,b - a≤w→zh1 Tryz.prog 171 fid cp key n bd cd sp G H a m b:=by
 intro w
 induction w with
 |zero=>intro a m b hw f R h1 h2;omega
 |succ w ih=>
  intro a m b hw f R ham hmb hb hf hs1 hs2 hR
  have e1:(m:Int) - (a:Int)=((m - a:Nat):Int):=by omega
  have e2:(b:Int) - (m:Int)=((b - m:Nat):Int):=by omega
  by_cases hA:m - a=1
  ·rw[hA] at e1
   refine FnT.bodyS tok [0,1,2,3,4,10,11,12,13,14,15,16,17,18,19,20,21,22,23,24,28,33,50,58,80,85,103,110,140,151,171,185,199,213] (.seq (.seq .run (.cond .cut .run)) .cut) Tryz.func171 rfl Kk Kk (by show _≤220;simp) fun hsep=>?_
   rw[Tryz.results171]
   have hE:=hsep
   try simp only[zzs] at hE
   repeat(obtain⟨hx',hE⟩:=hE)
   repeat' first
    |with_reducible first|refine Nx.go ?_ |refine Bk.go (fun _=>?_) fun _=>?_ |refine Nb fun nb hnb hnb1 hnb2=>?_ |refine Nr fun nb nsp ncap hnb hncap hnb1 hnb2=>?_
    |simp -dsimp -implicitDefEqProofs (disch:=first|exact Kd|fail) only[go_sem,↓reduceIte,seval,e1]
   refine Tri.live [0,1,2,3,4] ?_
   refine Tri.isPiece [0,1,0] Tryz.f171 Kk ?_
   refine Tri.onlyR (zyZ Ko hmb hb hn hf hc hs2) fun G2 l2 H2 hle2 hx' hM=>?_
   obtain⟨g,hr,hs,rfl,rfl⟩:=hM
   simp only[go_sem]
   all_goals refine Upd.finL ?_ (hR g hr hs) ?_
   any_goals first|exact Ks|skip
   rfl
  ·have hne:((m - a:Nat):Int)≠1:=by omega
   by_cases hB:b - m=1
   ·rw[hB] at e2
    refine FnT.bodyS tok [0,1,2,3,4,10,11,12,13,14,15,16,17,18,19,20,21,22,23,24,28,33,50,58,80,85,103,110,140,151,171,185,199,213] (.seq (.seq .run (.cond .cut .run)) (.seq (.seq .run (.cond .cut .run)) .cut)) Tryz.func171 rfl Kk Kk (by show _≤220;simp) fun hsep=>?_
    rw[Tryz.results171]
    have hE:=hsep
    try simp only[zzs] at hE
    repeat(obtain⟨hx',hE⟩:=hE)
    repeat' first
     |with_reducible first|refine Nx.go ?_ |refine Bk.go (fun _=>?_) fun _=>?_ |refine Nb fun nb hnb hnb1 hnb2=>?_ |refine Nr fun nb nsp ncap hnb hncap hnb1 hnb2=>?_
     |simp -dsimp -implicitDefEqProofs (disch:=first|exact Kd|fail) only[go_sem,↓reduceIte,seval,e1,e2]
    refine Tri.live [0,1,2,3,4] ?_
    refine Tri.isPiece [1,0,1,0] Tryz.f171 Kk ?_
    refine Tri.onlyR (zy0 ham Ko hb hn hf hc hs1) fun G2 l2 H2 hle2 hx' hM=>?_
    obtain⟨g,hr,hs,rfl,rfl⟩:=hM
    simp only[go_sem]
    all_goals refine Upd.finL ?_ (hR g hr hs) ?_
    any_goals first|exact Ks|skip
    rfl
   ·have hne2:((b - m:Nat):Int)≠1:=by omega
    obtain⟨mid,hmid⟩: ∃mid,mid=(a+b) / 2:=⟨_,rfl⟩
    have e3:((a:Int)+(b:Int)) / 2=(mid:Int):=by omega
    have e4:(mid:Int)+(m:Int)=((mid+m:Nat):Int):=by omega
    have e6:((mid+m:Nat):Int) - 1=((mid+m - 1 :Nat):Int):=by omega
    obtain⟨lo,hlo⟩: ∃lo,lo=if mid<m then mid+m - b else a:=⟨_,rfl⟩
    obtain⟨hi,hhi⟩: ∃hi,hi=if mid<m then mid else m:=⟨_,rfl⟩
    have e5:mid<m→((mid+m:Nat):Int) - (b:Int)=((mid+m - b:Nat):Int):=fun h=>by omega
    have key1: ∀K:zaI,(∀s l2,CutO key f a m b mid s→zD [0,1,2,3,4,18,19,20] l2=[(0, .slice (some ⟨bd,0,none⟩) n cd),(1, .int .i64 (a:Nat)),(2, .int .i64 (m:Nat)),(3, .int .i64 (b:Nat)),(4, .func (.func fid) #[] #[cp]),(18, .int .i64 (mid:Nat)),(19, .int .i64 ((mid+m:Nat):Int)),(20, .int .i64 (s:Nat))]→K .normal G l2 ((bd, .cells (zj n f) sp 3)::H))→Tri Tryz.prog Tryz.f171.ntmps (piece [1,1,1,1,1,1,1,0] Tryz.f171) G [(0, .slice (some ⟨bd,0,none⟩) n cd),(1, .int .i64 (a:Nat)),(2, .int .i64 (m:Nat)),(3, .int .i64 (b:Nat)),(4, .func (.func fid) #[] #[cp]),(18, .int .i64 (mid:Nat)),(19, .int .i64 ((mid+m:Nat):Int)),(20, .int .i64 (lo:Nat)),(21, .int .i64 (hi:Nat)),(22, .int .i64 ((mid+m - 1 :Nat):Int))] ((bd, .cells (zj n f) sp 3)::H) K:=fun K hK=>
     Tri.onlyN (zy1 ham hmb hmid hb hn hf hc hs1 hs2 hlo hhi) fun G2 l2 H2 hle2 hx' hM=>by
      obtain⟨s,c1,rfl,c2,rfl⟩:=hM
      exact hK s l2 c1 c2
    have fin: ∀s l2 K,CutO key f a m b mid s→zD [0,1,2,3,4,18,19,20] l2=[(0, .slice (some ⟨bd,0,none⟩) n cd),(1, .int .i64 (a:Nat)),(2, .int .i64 (m:Nat)),(3, .int .i64 (b:Nat)),(4, .func (.func fid) #[] #[cp]),(18, .int .i64 (mid:Nat)),(19, .int .i64 ((mid+m:Nat):Int)),(20, .int .i64 (s:Nat))]→(∀l3 g,Rea a b f g→zV key g a b→K .normal G l3 ((bd, .cells (zj n g) sp 3)::H))→Tri Tryz.prog Tryz.f171.ntmps (piece [1,1,1,1,1,1,1,1] Tryz.f171) G l2 ((bd, .cells (zj n f) sp 3)::H) K:=by
     intro s l2 K hcut hl hK
     have hcut2:=hcut
     obtain⟨sa,sm,smid,eb,_,_⟩:=hcut
     obtain⟨e,he⟩: ∃e,e=mid+m - s:=⟨_,rfl⟩
     have e7:((mid+m:Nat):Int) - (s:Int)=(e:Int):=by omega
     have hpar:=hcut2.parts hs1 hs2 rfl
     rw[←he] at hpar
     obtain⟨p1,p2,p3,p4,p5⟩:=hpar
     have hrr:=zv5 f (show s≤m by omega) (show m≤e by omega)
     have hrf:=hrr.lt (show e≤n by omega) hf
     refine Tri.live [0,1,2,3,4,18,19,20] ?_
     rw[hl]
     refine Tri.piece (f:=Tryz.f171) rfl ?_
     refine Tri.runS tok [0,1,2,3,4,10,11,12,13,14,15,16,17,18,19,20,21,22,23,24,28,33,50,58,80,85,103,110,140,151,171,185,199,213] (.seq .run (.seq .cut (.seq .cut .cut))) Kk ?_
     repeat' first
      |with_reducible first|refine Nx.go ?_ |refine Bk.go (fun _=>?_) fun _=>?_ |refine Nb fun nb hnb hnb1 hnb2=>?_ |refine Nr fun nb nsp ncap hnb hncap hnb1 hnb2=>?_
      |simp -dsimp -implicitDefEqProofs (disch:=first|exact Kd|fail) only[go_sem,↓reduceIte,seval,e7]
     refine Tri.live [0,1,2,3,4,18,20,24] ?_
     refine Tri.isPiece [1,1,1,1,1,1,1,1,1,0] Tryz.f171 Kk ?_
     refine Tri.onlyN (zy2 Ko Ko Ko hn) fun G2 l3 H2 hle2 hx' hM=>?_
     obtain⟨rfl,hl3,rfl⟩:=hM
     simp only[go_sem]
     refine Tri.live [0,1,3,4,18,20,24] ?_
     rw[hl3]
     refine Tri.isPiece [1,1,1,1,1,1,1,1,1,1,0] Tryz.f171 Kk ?_
     refine Tri.onlyN (zy3 Ko Ko Ko hn hrf (ih a s mid Ko) p1 p2) fun G2' l4 H2 hle2' hx'' hM=>?_
     obtain⟨g2,r2,s2,rfl,hl4,rfl⟩:=hM
     simp only[go_sem]
     refine Tri.live [0,3,4,18,24] ?_
     rw[hl4]
     have hrf2:=r2.lt (show mid≤n by omega) hrf
     refine Tri.isPiece [1,1,1,1,1,1,1,1,1,1,1] Tryz.f171 Kk ?_
     refine Tri.onlyN (zy4 Ko Ko hb hn hrf2 (ih mid e b Ko) (p3.same fun i g1 g3=>r2.out (.inr Ko)) (p4.same fun i g1 g3=>r2.out (.inr Ko))) fun G3 l5 H3 hle3 hx'3 hM=>?_
     obtain⟨g3,r3,s3,rfl,rfl⟩:=hM
     exact hK _ _ ((hrr.wide Ko Ko).trans ((r2.wide Ko Ko).trans (r3.wide Ko Ko))) (zt0 Ko Ko p5 r2 s2 r3 s3)
    by_cases hmm:mid<m
    ·rw[if_pos hmm] at hlo hhi
     have e5:=e5 hmm
     rw[←hlo] at e5
     subst hhi
     refine FnT.bodyS tok [0,1,2,3,4,10,11,12,13,14,15,16,17,18,19,20,21,22,23,24,28,33,50,58,80,85,103,110,140,151,171,185,199,213] (.seq (.seq .run (.cond .cut .run)) (.seq (.seq .run (.cond .cut .run)) (.seq .run (.seq .run (.seq .run (.seq .run (.seq .run (.seq .cut .cut)))))))) Tryz.func171 rfl Kk Kk (by show _≤220;simp) fun hsep=>?_
     rw[Tryz.results171]
     have hE:=hsep
     try simp only[zzs] at hE
     repeat(obtain⟨hx',hE⟩:=hE)
     repeat' first
      |with_reducible first|refine Nx.go ?_ |refine Bk.go (fun _=>?_) fun _=>?_ |refine Nb fun nb hnb hnb1 hnb2=>?_ |refine Nr fun nb nsp ncap hnb hncap hnb1 hnb2=>?_
      |simp -dsimp -implicitDefEqProofs (disch:=first|exact Kd|fail) only[go_sem,↓reduceIte,seval,e1,e2,e3,e4,e5,e6]
     refine Tri.live [0,1,2,3,4,18,19,20,21,22] ?_
     refine Tri.isPiece [1,1,1,1,1,1,1,0] Tryz.f171 Kk ?_
     refine key1 _ fun s l2 c1 c2=>?_
     simp only[go_sem]
     refine Tri.isPiece [1,1,1,1,1,1,1,1] Tryz.f171 Kk ?_
     refine fin s l2 _ c1 c2 fun l3 g hr hs=>?_
     simp only[go_sem]
     all_goals refine Upd.finL ?_ (hR g hr hs) ?_
     any_goals first|exact Ks|skip
     rfl
    ·rw[if_neg hmm] at hlo hhi
     subst hhi
     subst hlo
     refine FnT.bodyS tok [0,1,2,3,4,10,11,12,13,14,15,16,17,18,19,20,21,22,23,24,28,33,50,58,80,85,103,110,140,151,171,185,199,213] (.seq (.seq .run (.cond .cut .run)) (.seq (.seq .run (.cond .cut .run)) (.seq .run (.seq .run (.seq .run (.seq .run (.seq .run (.seq .cut .cut)))))))) Tryz.func171 rfl Kk Kk (by show _≤220;simp) fun hsep=>?_
     rw[Tryz.results171]
     have hE:=hsep
     try simp only[zzs] at hE
     repeat(obtain⟨hx',hE⟩:=hE)
     repeat' first
      |with_reducible first|refine Nx.go ?_ |refine Bk.go (fun _=>?_) fun _=>?_ |refine Nb fun nb hnb hnb1 hnb2=>?_ |refine Nr fun nb nsp ncap hnb hncap hnb1 hnb2=>?_
      |simp -dsimp -implicitDefEqProofs (disch:=first|exact Kd|fail) only[go_sem,↓reduceIte,seval,e1,e2,e3,e4,e6]
     refine Tri.live [0,1,2,3,4,18,19,20,21,22] ?_
     refine Tri.isPiece [1,1,1,1,1,1,1,0] Tryz.f171 Kk ?_
     refine key1 _ fun s l2 c1 c2=>?_
     simp only[go_sem]
     refine Tri.isPiece [1,1,1,1,1,1,1,1] Tryz.f171 Kk ?_
     refine fin s l2 _ c1 c2 fun l3 g hr hs=>?_
     simp only[go_sem]
     all_goals refine Upd.finL ?_ (hR g hr hs) ?_
     any_goals first|exact Ks|skip
     rfl
end Go.Proofs.YtomdbjfdbkejoaaGreatDoor
namespace Go.Proofs.YtomdbjfdbkejoaaGreatDoor
open Go Go.V Go.Proofs
def zmh (key:Nat→Int) (f:Nat→Nat) (n w a:Nat):Prop:= ∀c,(∃q,c=q * w)→c<a→zV key f c (min (c+w) n)
theorem zkw {c a w p q:Nat} (hp:c=p * w) (hq:a=q * w) (h:c<a):c+w≤a:=by
 have h1:p<q:=by
  apply Classical.byContradiction
  intro hn
  have:=Nat.mul_le_mul_right w (show q≤p by omega)
  omega
 have:=Nat.mul_le_mul_right w (show p+1≤q by omega)
 rw[Nat.succ_mul] at this
 omega
theorem zmO {c a w p q:Nat} (hp:c=p * w) (hq:a=q * w) (h:c<a+w) (h2:a≤c):c=a:=by
 apply Classical.byContradiction
 intro hn
 have:=zkw hq hp (show a<c by omega)
 omega
theorem zmh.step {key:Nat→Int} {f g:Nat→Nat} {n w a:Nat} (h:zmh key f n w a) (ha: ∃q,a=q * w) (hb:a+w≤n) (hr:Rea a (a+w) f g) (hs:zV key g a (a+w)):zmh key g n w (a+w):=by
 obtain⟨q,hq⟩:=ha
 intro c hc hca
 obtain⟨p,hp⟩:=hc
 rcases Nat.lt_or_ge c a with e|e
 ·have:=zkw hp hq e
  exact(h c ⟨p,hp⟩ e).same fun i g1 g2=>hr.out (.inl Ko)
 ·have:=zmO hp hq hca e
  subst this
  exact hs.sub (Nat.le_refl _) Ko
theorem zmh.done {key:Nat→Int} {f g:Nat→Nat} {n w a:Nat} (h:zmh key f n w a) (ha: ∃q,a=q * w) (hb:n<a+w) (hr:Rea a n f g) (hs:zV key g a n):zku key g n w:=by
 obtain⟨q,hq⟩:=ha
 intro c hc
 obtain⟨p,hp⟩:=hc
 rcases Nat.lt_or_ge c a with e|e
 ·have:=zkw hp hq e
  exact(h c ⟨p,hp⟩ e).same fun i g1 g2=>hr.out (.inl Ko)
 ·rcases Nat.lt_or_ge c (a+w) with e2|e2
  ·have:=zmO hp hq e2 e
   subst this
   exact hs.sub (Nat.le_refl _) Ko
  ·exact zV.small Ko
theorem zt2 {n:Nat} (hn:n≤2000000) {f:Nat→Nat} (hf: ∀i,i<n→f i<n) {key:Nat→Int} {sp:List Value} {bd cd:Nat} {fid:FuncId} {cp:Value} {G:za} {H:zb} {R:Value→za→zb→Prop} (hc:zeg Tryz.prog fid cp key n bd sp G H)
  (hR: ∀g,Rea 0 n f g→zV key g 0 n→R (.tuple #[]) G ((bd, .cells (zj n g) sp 3)::H)):FnT Tryz.prog 160 [.slice (some ⟨bd,0,none⟩) n cd, .int .i64 (n:Nat), .func (.func fid) #[] #[cp]] G ((bd, .cells (zj n f) sp 3)::H) R:=by
 have hsym:=fun a m b=>zsf (cd:=cd) hn hc (b - a) a m b (Nat.le_refl _)
 refine FnT.bodyS tok [0,1,2,6,7,8,9,13,30,35,54] (.seq .run (.seq .run (.seq .run .cut))) Tryz.func160 rfl Kk Kk (by show _≤63;simp) fun hsep=>?_
 rw[Tryz.results160]
 have hE:=hsep
 try simp only[zzs] at hE
 repeat(obtain⟨hx',hE⟩:=hE)
 repeat' first
  |with_reducible first|refine Nx.go ?_ |refine Bk.go (fun _=>?_) fun _=>?_ |refine Nb fun nb hnb hnb1 hnb2=>?_
  |simp -dsimp -implicitDefEqProofs (disch:=first|exact Kd|fail) only[go_sem,↓reduceIte,seval]
 refine Tri.loopU tok [0,1,2,6,7,8,9,13,30,35,54] Kk [0,1,2,6,7,8] (fun q G' fr H'=> ∃ (a:Nat) (g:Nat→Nat),a+q=n∧(∃q,a=q * 20)∧Rea 0 n f g∧zmh key g n 20 a∧G'=G∧H'=(bd, .cells (zj n g) sp 3)::H∧fr=[(0, .slice (some ⟨bd,0,none⟩) n cd),(1, .int .i64 (n:Nat)),(2, .func (.func fid) #[] #[cp]),(6, .int .i64 20),(7, .int .i64 (a:Nat)),(8, .int .i64 ((a+20 :Nat):Int))]) (n) ?_ ?_
 ·exact Upd.now ⟨0,f,by omega,⟨0,rfl⟩,Rea.refl _ _ _,fun c _ h=>by omega,rfl,rfl,rfl⟩
 ·rintro q G1 fr H1 hle hs1 ⟨a,g,haq,hqa,hr,hI,rfl,rfl,rfl⟩
  have hE:=hs1
  try simp only[zzs] at hE
  repeat(obtain⟨hx',hE⟩:=hE)
  have hgf:=hr.lt (Nat.le_refl n) hf
  by_cases hab:a+20≤n
  ·have e1:((a+20 :Nat):Int)+20=((a+20+20 :Nat):Int):=by omega
   repeat' first
    |with_reducible first|refine Nx.go ?_ |refine Bk.go (fun _=>?_) fun _=>?_ |refine Nb fun nb hnb hnb1 hnb2=>?_
    |simp -dsimp -implicitDefEqProofs (disch:=first|exact Kd|fail) only[go_sem,↓reduceIte,seval,e1]
    |with_reducible refine zoF (Nat.le_add_right a 20) hab hn hgf hc fun g2 hr2 hs2=>?_
   obtain⟨q0,hq0⟩:=hqa
   exact Upd.now ⟨q - 20,by omega,a+20,g2,by omega,⟨q0+1,by rw[Nat.succ_mul];omega⟩,hr.trans (hr2.wide (Nat.zero_le _) hab),hI.step ⟨q0,hq0⟩ hab hr2 hs2,rfl,rfl,rfl⟩
  ·repeat' first
    |with_reducible first|refine Nx.go ?_ |refine Bk.go (fun _=>?_) fun _=>?_ |refine Nb fun nb hnb hnb1 hnb2=>?_
    |simp -dsimp -implicitDefEqProofs (disch:=first|exact Kd|fail) only[go_sem,↓reduceIte,seval]
   refine Tri.runS tok [0,1,2,6,7,8,9,13,30,35,54] (.seq .run .cut) Kk ?_
   repeat' first
    |with_reducible first|refine Nx.go ?_ |refine Bk.go (fun _=>?_) fun _=>?_ |refine Nb fun nb hnb hnb1 hnb2=>?_
    |simp -dsimp -implicitDefEqProofs (disch:=first|exact Kd|fail) only[go_sem,↓reduceIte,seval]
    |with_reducible refine zoF (show a≤n by omega) (Nat.le_refl n) hn hgf hc fun g2 hr2 hs2=>?_
   have hB:=hI.done hqa Ko hr2 hs2
   have hr3:=hr.trans (hr2.wide (Nat.zero_le _) (Nat.le_refl _))
   clear hI hr hr2 hs2 hgf hqa
   refine Tri.run tok [0,1,2,6,7,8,9,13,30,35,54] Kk ?_
   repeat' first
    |with_reducible first|refine Nx.go ?_ |refine Bk.go (fun _=>?_) fun _=>?_ |refine Nb fun nb hnb hnb1 hnb2=>?_
    |simp -dsimp -implicitDefEqProofs (disch:=first|exact Kd|fail) only[go_sem,↓reduceIte,seval]
   refine Tri.loopU tok [0,1,2,6,7,8,9,13,30,35,54] Kk [0,1,2,6] (fun q G' fr H'=> ∃ (w:Nat) (g:Nat→Nat),n - w=q∧20≤w∧w≤4000000∧Rea 0 n f g∧zku key g n w∧G'=G1∧H'=(bd, .cells (zj n g) sp 3)::H∧fr=[(0, .slice (some ⟨bd,0,none⟩) n cd),(1, .int .i64 (n:Nat)),(2, .func (.func fid) #[] #[cp]),(6, .int .i64 (w:Nat))]) ((n - 20)) ?_ ?_
   ·exact Upd.now ⟨20,g2,rfl,Nat.le_refl _,by omega,hr3,hB,rfl,rfl,rfl⟩
   ·rintro q2 G2 fr H2 hle2 hs2 ⟨w,g,hq2,hw1,hw2,hr,hB,rfl,rfl,rfl⟩
    have hE:=hs2
    try simp only[zzs] at hE
    repeat(obtain⟨hx',hE⟩:=hE)
    by_cases hwn:w<n
    ·have e1:(2 :Int) * (w:Int)=((2 * w:Nat):Int):=by omega
     have e5:(w:Int) * 2=((2 * w:Nat):Int):=by omega
     repeat' first
      |with_reducible first|refine Nx.go ?_ |refine Bk.go (fun _=>?_) fun _=>?_ |refine Nb fun nb hnb hnb1 hnb2=>?_
      |simp -dsimp -implicitDefEqProofs (disch:=first|exact Kd|fail) only[go_sem,↓reduceIte,seval,e1]
     refine Tri.loopU tok [0,1,2,6,7,8,9,13,30,35,54] Kk [0,1,2,6,7,8] (fun q G' fr H'=> ∃ (a:Nat) (g:Nat→Nat),a+q=n∧(∃q,a=q * (2 * w))∧Rea 0 n f g∧zkv key g n w a∧G'=G2∧H'=(bd, .cells (zj n g) sp 3)::H∧fr=[(0, .slice (some ⟨bd,0,none⟩) n cd),(1, .int .i64 (n:Nat)),(2, .func (.func fid) #[] #[cp]),(6, .int .i64 (w:Nat)),(7, .int .i64 (a:Nat)),(8, .int .i64 ((a+2 * w:Nat):Int))]) (n) ?_ ?_
     ·exact Upd.now ⟨0,g,by omega,⟨0,(Nat.zero_mul _).symm⟩,hr,hB.start,rfl,rfl,by rw[Nat.zero_add];rfl⟩
     ·rintro q3 G3 fr H3 hle3 hs3 ⟨a,g,haq,hqa,hr,hM,rfl,rfl,rfl⟩
      have hE:=hs3
      try simp only[zzs] at hE
      repeat(obtain⟨hx',hE⟩:=hE)
      have hgf:=hr.lt (Nat.le_refl n) hf
      obtain⟨q0,hq0⟩:=hqa
      have hqw:a=(2 * q0) * w:=by rw[hq0,Nat.mul_comm 2 q0,Nat.mul_assoc]
      have hqw2:a+w=(2 * q0+1) * w:=by rw[hqw,Nat.succ_mul (2 * q0) w]
      have e2:(a:Int)+(w:Int)=((a+w:Nat):Int):=by omega
      have s1:=hM.1 a ⟨_,hqw⟩ (Nat.le_refl _)
      have s2:=hM.1 (a+w) ⟨_,hqw2⟩ (Nat.le_add_right _ _)
      by_cases hab:a+2 * w≤n
      ·have e3:((a+2 * w:Nat):Int)+((2 * w:Nat):Int)=((a+2 * w+2 * w:Nat):Int):=by omega
       rw[Nat.min_eq_left Ko] at s1
       rw[Nat.min_eq_left Ko,show a+w+w=a+2 * w by omega] at s2
       repeat' first
        |with_reducible first|refine Nx.go ?_ |refine Bk.go (fun _=>?_) fun _=>?_ |refine Nb fun nb hnb hnb1 hnb2=>?_
        |simp -dsimp -implicitDefEqProofs (disch:=first|exact Kd|fail) only[go_sem,↓reduceIte,seval,e1,e2,e3]
        |with_reducible refine zh1.go (hsym a (a+w) (a+2 * w)) Ko Ko hab hgf s1 s2 fun g3 hr3 hs3=>?_
       exact Upd.now ⟨q3 - 2 * w,by omega,a+2 * w,g3,by omega,⟨q0+1,by rw[Nat.succ_mul q0 (2 * w)];omega⟩,hr.trans (hr3.wide (Nat.zero_le _) hab),hM.step ⟨q0,hq0⟩ Ko (Nat.min_eq_left hab).symm hr3 hs3,rfl,rfl,rfl⟩
      ·by_cases hmn:a+w<n
       ·rw[Nat.min_eq_left Ko] at s1
        rw[Nat.min_eq_right Ko] at s2
        repeat' first
         |with_reducible first|refine Nx.go ?_ |refine Bk.go (fun _=>?_) fun _=>?_ |refine Nb fun nb hnb hnb1 hnb2=>?_
         |simp -dsimp -implicitDefEqProofs (disch:=first|exact Kd|fail) only[go_sem,↓reduceIte,seval,e1,e2,e5]
         |with_reducible refine zh1.go (hsym a (a+w) n) Ko hmn (Nat.le_refl n) hgf s1 s2 fun g3 hr3 hs3=>?_
        have hM2:=hM.step ⟨q0,hq0⟩ Ko (Nat.min_eq_right (show n≤a+2 * w by omega)).symm hr3 hs3
        exact Upd.now ⟨n - 2 * w,by omega,2 * w,g3,rfl,by omega,by omega,hr.trans (hr3.wide (Nat.zero_le _) (Nat.le_refl _)),hM2.done Ko ⟨q0+1,by rw[Nat.succ_mul q0 (2 * w)];omega⟩ Ko,rfl,rfl,rfl⟩
       ·repeat' first
         |with_reducible first|refine Nx.go ?_ |refine Bk.go (fun _=>?_) fun _=>?_ |refine Nb fun nb hnb hnb1 hnb2=>?_
         |simp -dsimp -implicitDefEqProofs (disch:=first|exact Kd|fail) only[go_sem,↓reduceIte,seval,e1,e2,e5]
        exact Upd.now ⟨n - 2 * w,by omega,2 * w,g,rfl,by omega,by omega,hr,hM.done Ko ⟨q0,hq0⟩ Ko,rfl,rfl,rfl⟩
    ·repeat' first
      |with_reducible first|refine Nx.go ?_ |refine Bk.go (fun _=>?_) fun _=>?_ |refine Nb fun nb hnb hnb1 hnb2=>?_
      |simp -dsimp -implicitDefEqProofs (disch:=first|exact Kd|fail) only[go_sem,↓reduceIte,seval]
     all_goals refine Upd.finL ?_ (hR g hr (hB.all Ko)) ?_
     any_goals first|exact Ks|skip
     rfl
theorem zoG {n:Nat} (hn:n≤2000000) {f:Nat→Nat} (hf: ∀i,i<n→f i<n) {key:Nat→Int} {sp:List Value} {bd cd:Nat} {fid:FuncId} {cp:Value} {G:za} {H:zb} {R:Value→za→zb→Prop} (hc:zeg Tryz.prog fid cp key n bd sp G H)
  (hR: ∀g,Rea 0 n f g→zV key g 0 n→R (.tuple #[]) G ((bd, .cells (zj n g) sp 3)::H)):FnT Tryz.prog 131 [.slice (some ⟨bd,0,none⟩) n cd, .func (.func fid) #[] #[cp]] G ((bd, .cells (zj n f) sp 3)::H) R:=by
 refine FnT.body tok [0,1] Tryz.func131 rfl Kk Kk (by show _≤9;simp) fun hsep=>?_
 rw[Tryz.results131]
 have hE:=hsep
 try simp only[zzs] at hE
 repeat(obtain⟨hx',hE⟩:=hE)
 repeat' first
  |with_reducible first|refine Nx.go ?_ |refine Bk.go (fun _=>?_) fun _=>?_
  |simp -dsimp -implicitDefEqProofs (disch:=first|exact Kd|fail) only[go_sem,↓reduceIte,seval]
  |with_reducible refine zt2 hn hf hc fun g hr hs=>?_
 all_goals refine Upd.finL ?_ (hR g hr hs) ?_
 any_goals first|exact Ks|skip
 rfl
end Go.Proofs.YtomdbjfdbkejoaaGreatDoor
namespace Go.Proofs.YtomdbjfdbkejoaaGreatDoor
open Go Go.V Go.Proofs
def zfx (fr to mk:Nat→Nat) (i:Nat):List Value:=[.int .i64 (fr i:Nat), .int .i64 (to i:Nat), .int .i64 (mk i:Nat)]
def zF (n:Nat) (fr to mk:Nat→Nat):List Value:=(List.range n).flatMap (zfx fr to mk)
theorem zbu (n:Nat) (fr to mk:Nat→Nat):(zF n fr to mk).length=n * 3:=by
 unfold zF;rw[zbq (m:=3) (fun _=>rfl),List.length_range]
theorem zgQ (n:Nat) (fr to mk:Nat→Nat):zF (n+1) fr to mk=zF n fr to mk++zfx fr to mk n:=by
 unfold zF;rw[List.range_succ,List.flatMap_append];simp
theorem zh2 {n:Nat} {fr to mk:Nat→Nat} {sp:List Value} {i j:Nat} (hi:i<n) (hj:j<3):(zF n fr to mk++sp)[i * 3+j]? =(zfx fr to mk i)[j]? :=by
 induction n with
 |zero=>omega
 |succ n ih=>
  rw[zgQ,List.append_assoc]
  have hl:=zbu n fr to mk
  by_cases e:i=n
  ·subst e
   rw[List.getElem?_append_right Ko,hl,show i * 3+j - i * 3=j by omega,List.getElem?_append_left (by simp [zfx];omega)]
  ·have:=ih Ko
   rw[List.getElem?_append_left (by rw[hl];omega)] at this⊢
   exact this
theorem zh3 {n:Nat} {fr to mk fr' to' mk':Nat→Nat} (h: ∀i,i<n→fr i=fr' i∧to i=to' i∧mk i=mk' i):zF n fr to mk=zF n fr' to' mk':=by
 unfold zF
 rw[List.flatMap_def,List.flatMap_def]
 congr 1
 refine List.map_congr_left fun i hi=>?_
 obtain⟨h1,h2,h3⟩:=h i (List.mem_range.1 hi)
 unfold zfx;rw[h1,h2,h3]
theorem zkx (n:Nat) (fr to mk:Nat→Nat) {i:Nat} (hi:i<n) (fr' to' mk':Nat→Nat) (he: ∀k,k≠i→fr k=fr' k∧to k=to' k∧mk k=mk' k)
  {j:Nat} {v:Value} (hv:(zfx fr to mk i).set j v=zfx fr' to' mk' i) (hj:j<3):(zF n fr to mk).set (i * 3+j) v=zF n fr' to' mk':=by
 induction n with
 |zero=>omega
 |succ n ih=>
  have hl:=zbu n fr to mk
  rw[zgQ,zgQ]
  by_cases e:i=n
  ·subst e
   rw[List.set_append_right _ _ Ko,hl,show i * 3+j - i * 3=j by omega,hv]
   rw[zh3 fun k hk=>he k Ko]
  ·rw[List.set_append_left _ _ Ko,ih Ko]
   congr 1
   obtain⟨h1,h2,h3⟩:=he n Ko
   unfold zfx;rw[h1,h2,h3]
theorem zls {n:Nat} {fr to mk:Nat→Nat} {sp:List Value} {i:Nat} (hi:i<n):(zF n fr to mk++sp)[i * 3]? =some (.int .i64 (fr i:Nat)):=zh2 (j:=0) hi Ko
theorem zhp {n:Nat} {fr to mk:Nat→Nat} {sp:List Value} {i:Nat} (hi:i<n):(zF n fr to mk++sp)[i * 3+1]? =some (.int .i64 (to i:Nat)):=zh2 (j:=1) hi Ko
theorem zlt {n:Nat} {fr to mk:Nat→Nat} {sp:List Value} {i:Nat} (hi:i<n):(zF n fr to mk++sp)[i * 3+2]? =some (.int .i64 (mk i:Nat)):=zh2 (j:=2) hi Ko
theorem zhd {xs:List Value} {o:Nat} {v:Value} (h:o<xs.length):zf xs o [v]=xs.set o v:=by
 unfold zf
 rw[List.set_eq_take_append_cons_drop,if_pos h]
 simp
theorem zy5 {n:Nat} {fr to mk:Nat→Nat} {i:Nat} (hi:i<n) (x:Nat):zf (zF n fr to mk) (i * 3) [.int .i64 (x:Nat)]=zF n (zo fr i x) to mk:=by
 rw[zhd (by rw[zbu];omega)]
 exact zkx n fr to mk hi _ _ _ (fun k hk=>⟨(zba _ _ hk).symm,rfl,rfl⟩) (j:=0) (by simp [zfx,zby]) Ko
theorem zt3 {n:Nat} {fr to mk:Nat→Nat} {i:Nat} (hi:i<n) (x:Nat):zf (zF n fr to mk) (i * 3+1) [.int .i64 (x:Nat)]=zF n fr (zo to i x) mk:=by
 rw[zhd (by rw[zbu];omega)]
 exact zkx n fr to mk hi _ _ _ (fun k hk=>⟨rfl,(zba _ _ hk).symm,rfl⟩) (j:=1) (by simp [zfx,zby]) Ko
theorem zt4 {n:Nat} {fr to mk:Nat→Nat} {i:Nat} (hi:i<n) (x:Nat):zf (zF n fr to mk) (i * 3+2) [.int .i64 (x:Nat)]=zF n fr to (zo mk i x):=by
 rw[zhd (by rw[zbu];omega)]
 exact zkx n fr to mk hi _ _ _ (fun k hk=>⟨rfl,rfl,(zba _ _ hk).symm⟩) (j:=2) (by simp [zfx,zby]) Ko
theorem zmP (n:Nat) (fr to mk:Nat→Nat) (x y z:Nat):zF n fr to mk++[.int .i64 (x:Nat), .int .i64 (y:Nat), .int .i64 (z:Nat)]=zF (n+1) (zo fr n x) (zo to n y) (zo mk n z):=by
 rw[zgQ]
 congr 1
 ·exact zh3 fun i hi=>⟨(zba _ _ Ko).symm,(zba _ _ Ko).symm,(zba _ _ Ko).symm⟩
 ·simp only[zfx,zby]
theorem zv7 (n:Nat) (fr to mk:Nat→Nat):(zF n fr to mk).all zaL=true:=by
 unfold zF
 rw[List.all_flatMap]
 exact List.all_eq_true.2 fun i _=>rfl
theorem zS.isS {e:TypeId} {v:Value} {n:Nat} {xs:List Value} {kb:zb} (h:zS [] e 1 v n xs kb): ∃a c,v= .slice a n c:=by
 rcases h with ⟨a,rfl,rfl,_,_⟩| ⟨b,c,sp,rfl,_⟩
 ·exact⟨a,0,rfl⟩
 ·exact⟨_,c,rfl⟩
def PC (vs va vb vsp vk vw vm:Value) (W:Int):List Value:=[vs,va,vb,vsp,vk,vw,vm, .int .i64 W]
theorem zy6 (vs va vb vsp vk vw vm:Value) (W:Int):(PC vs va vb vsp vk vw vm W).length=8:=rfl
theorem zz1 (vs va vb vsp vk vw vm:Value) (W:Int):(PC vs va vb vsp vk vw vm W)[0]? =some vs:=rfl
theorem zz2 (vs va vb vsp vk vw vm:Value) (W:Int):(PC vs va vb vsp vk vw vm W)[1]? =some va:=rfl
theorem zz3 (vs va vb vsp vk vw vm:Value) (W:Int):(PC vs va vb vsp vk vw vm W)[2]? =some vb:=rfl
theorem zz4 (vs va vb vsp vk vw vm:Value) (W:Int):(PC vs va vb vsp vk vw vm W)[3]? =some vsp:=rfl
theorem zz5 (vs va vb vsp vk vw vm:Value) (W:Int):(PC vs va vb vsp vk vw vm W)[4]? =some vk:=rfl
theorem zz6 (vs va vb vsp vk vw vm:Value) (W:Int):(PC vs va vb vsp vk vw vm W)[5]? =some vw:=rfl
theorem zz7 (vs va vb vsp vk vw vm:Value) (W:Int):(PC vs va vb vsp vk vw vm W)[6]? =some vm:=rfl
theorem zz8 (vs va vb vsp vk vw vm:Value) (W:Int):(PC vs va vb vsp vk vw vm W)[7]? =some (.int .i64 W):=rfl
theorem zz9 (vs va vb vsp vk vw vm x:Value) (W:Int):zf (PC vs va vb vsp vk vw vm W) 0 [x]=PC x va vb vsp vk vw vm W:=rfl
theorem zAa (vs va vb vsp vk vw vm x:Value) (W:Int):zf (PC vs va vb vsp vk vw vm W) 1 [x]=PC vs x vb vsp vk vw vm W:=rfl
theorem zAb (vs va vb vsp vk vw vm x:Value) (W:Int):zf (PC vs va vb vsp vk vw vm W) 2 [x]=PC vs va x vsp vk vw vm W:=rfl
theorem zAc (vs va vb vsp vk vw vm x:Value) (W:Int):zf (PC vs va vb vsp vk vw vm W) 3 [x]=PC vs va vb x vk vw vm W:=rfl
theorem zAd (vs va vb vsp vk vw vm x:Value) (W:Int):zf (PC vs va vb vsp vk vw vm W) 4 [x]=PC vs va vb vsp x vw vm W:=rfl
theorem zAe (vs va vb vsp vk vw vm x:Value) (W:Int):zf (PC vs va vb vsp vk vw vm W) 5 [x]=PC vs va vb vsp vk x vm W:=rfl
theorem zAf (vs va vb vsp vk vw vm x:Value) (W:Int):zf (PC vs va vb vsp vk vw vm W) 6 [x]=PC vs va vb vsp vk vw x W:=rfl
attribute [go_sem] zy6 zz1 zz2 zz3 zz4 zz5 zz6 zz7 zz8 zz9 zAa zAb zAc zAd zAe zAf zbF zbu zv4 zv7
end Go.Proofs.YtomdbjfdbkejoaaGreatDoor
namespace Go.Proofs.YtomdbjfdbkejoaaGreatDoor
open Go Go.V Go.Proofs
theorem zx6 {l:List Int} (hlen:l.length≤2000000) {G:za} {H:zb} {R:Value→za→zb→Prop} {v:Value} (hv:Sl G (Value.int .i64) v l)
  (hR: ∀v kb,Sep G (zm (H++kb))→zS [] 3 1 v l.length ((zg l).map (Value.int .i64)) kb→R v G (H++kb)):FnT Tryz.prog 101 [v] G H R:=
 FnT.upd (zxK hlen hv fun v kb hs hO=>Upd.go (H':=H++kb) (by intro fsum;simp only[List.map_append,List.sum_append];omega) (Upd.sepI fun hs2=>Upd.now (hR v kb hs2 hO)))
theorem zx7 {n bq bp bs ba bm b1:Nat} {W:Int} {vb:Value} {C xs:List Value} {G:za} {Hc H kb:zb} {l:Fr} (hO:zS [] 3 1 vb n xs kb) (hl:zD [1,3,4] l=[(1, .pointer (some ⟨b1,0,none⟩)),(3, .int .i64 (n:Nat)),(4, .pointer (some ⟨bq,0,none⟩))])
  (h1:(bq,Res.cells [.pointer (some ⟨bp,0,none⟩)] [] 129)∈Hc) (h2:(bp,Res.cells [.slice (some ⟨bs,0,none⟩) n n, .slice (some ⟨ba,0,none⟩) n n,vb, .slice none 0 0, .slice none 0 0, .slice none 0 0, .map (some bm), .int .i64 W] [] 135)∈Hc)
  (hsum: ∀f:Nat×Res→Nat,(((bq,Res.cells [.pointer (some ⟨bp,0,none⟩)] [] 129):: (bp,Res.cells (PC (.slice (some ⟨bs,0,none⟩) n n) (.slice (some ⟨ba,0,none⟩) n n) vb (.slice none 0 0) (.slice none 0 0) (.slice none 0 0) (.map (some bm)) W) [] 135):: (bs,Res.cells (List.replicate n (.int .i64 0)) [] 3):: (ba,Res.cells (List.replicate n (.int .i64 0)) [] 3):: (bm,Res.map []):: (b1,Res.cells C [] 27):: (kb++H)).map f).sum≤(Hc.map f).sum):
  Upd G Hc fun G' H'=> ∃bq bp bs ba bm vb kb,zS [] 3 1 vb n xs kb∧G'=G∧zD [1,3,4] l=[(1, .pointer (some ⟨b1,0,none⟩)),(3, .int .i64 (n:Nat)),(4, .pointer (some ⟨bq,0,none⟩))]∧H'=(bq,Res.cells [.pointer (some ⟨bp,0,none⟩)] [] 129):: (bp,Res.cells (PC (.slice (some ⟨bs,0,none⟩) n n) (.slice (some ⟨ba,0,none⟩) n n) vb (.slice none 0 0) (.slice none 0 0) (.slice none 0 0) (.map (some bm)) W) [] 135):: (bs,Res.cells (List.replicate n (.int .i64 0)) [] 3):: (ba,Res.cells (List.replicate n (.int .i64 0)) [] 3):: (bm,Res.map []):: (b1,Res.cells C [] 27):: (kb++H):=
 Upd.leave hsum ⟨bq,bp,bs,ba,bm,vb,kb,hO,rfl,hl,rfl⟩
theorem zAg {d:DfaT} (hsm:zx d) {C:List Value} {an al ay:Option Addr} {cn cl cs:Nat} {rs:List Value} {G:za} {H:zb} (O:OpenD G d C an al ay cn cl cs rs) {b1:Nat} {v2:Value}:
  Tri Tryz.prog Tryz.f103.ntmps (piece [1,1,0] Tryz.f103) G [(1, .pointer (some ⟨b1,0,none⟩)),(2,v2),(3, .int .i64 (d.label.length:Nat))] ((b1, .cells C [] 27)::H) (onlyN fun G' l H'=>
   ∃bq bp bs ba bm vb kb,zS [] 3 1 vb d.label.length ((zg d.label).map (Value.int .i64)) kb∧G'=G∧zD [1,3,4] l=[(1, .pointer (some ⟨b1,0,none⟩)),(3, .int .i64 (d.label.length:Nat)),(4, .pointer (some ⟨bq,0,none⟩))]∧H'=(bq,Res.cells [.pointer (some ⟨bp,0,none⟩)] [] 129):: (bp,Res.cells (PC (.slice (some ⟨bs,0,none⟩) d.label.length d.label.length) (.slice (some ⟨ba,0,none⟩) d.label.length d.label.length) vb (.slice none 0 0) (.slice none 0 0) (.slice none 0 0) (.map (some bm)) d.width) [] 135):: (bs,Res.cells (List.replicate d.label.length (.int .i64 0)) [] 3):: (ba,Res.cells (List.replicate d.label.length (.int .i64 0)) [] 3):: (bm,Res.map []):: (b1,Res.cells C [] 27):: (kb++H)):=by
 obtain⟨hm1,hm2,hm3,hm4,hm5⟩:=id hsm
 have hCl:=O.len
 have hCx:=O.l
 have hCw:=O.w
 have hlab:=O.label
 refine Tri.sepT fun hs0=>?_
 have hE:=hs0
 try simp only[zzs] at hE
 repeat(obtain⟨hx',hE⟩:=hE)
 refine Tri.piece (f:=Tryz.f103) rfl ?_
 refine Tri.run tok [0,1,2,3,4,5,6,7,8,9,10,11,27,28,29,48,49,50,51,75,113,114,115,126,127,128,129] Kk ?_
 repeat' first
  |with_reducible first|refine Nx.go ?_ |refine Bk.go (fun _=>?_) fun _=>?_ |refine Nb fun nb hnb hnb1 hnb2=>?_ |refine Nr fun nb nsp ncap hnb hncap hnb1 hnb2=>?_
  |simp -dsimp -implicitDefEqProofs (disch:=first|exact Kd|fail) only[go_sem,↓reduceIte,seval, -List.reduceReplicate,hCl,hCx,hCw]
  |with_reducible refine Tri.drawS tok mixed [0,1,2,3,4,5,6,7,8,9,10,11,27,28,29,48,49,50,51,75,113,114,115,126,127,128,129] 2 [5,9] (.op 0 .plain (.op 2 .plain (.op 4 .plain (.op 5 .held (.op 8 .plain (.op 9 .held (.both (.op 1 .keeps (.both (.op 3 .keeps (.both (.op 6 .keeps (.both (.op 7 .keeps (.op 10 .plain (.both (.op 11 .keeps (.op 12 .keeps (.op 13 .plain .nil))) (.op 12 .keeps (.op 11 .keeps (.op 13 .plain .nil)))))) (.op 12 .keeps (.op 7 .keeps (.op 10 .plain (.op 11 .keeps (.op 13 .plain .nil))))))) (.both (.op 7 .keeps (.both (.op 6 .keeps (.op 10 .plain (.both (.op 11 .keeps (.op 12 .keeps (.op 13 .plain .nil))) (.op 12 .keeps (.op 11 .keeps (.op 13 .plain .nil)))))) (.op 12 .keeps (.op 6 .keeps (.op 10 .plain (.op 11 .keeps (.op 13 .plain .nil))))))) (.op 12 .keeps (.both (.op 6 .keeps (.op 7 .keeps (.op 10 .plain (.op 11 .keeps (.op 13 .plain .nil))))) (.op 7 .keeps (.op 6 .keeps (.op 10 .plain (.op 11 .keeps (.op 13 .plain .nil)))))))))) (.both (.op 6 .keeps (.both (.op 3 .keeps (.both (.op 7 .keeps (.op 10 .plain (.both (.op 11 .keeps (.op 12 .keeps (.op 13 .plain .nil))) (.op 12 .keeps (.op 11 .keeps (.op 13 .plain .nil)))))) (.op 12 .keeps (.op 7 .keeps (.op 10 .plain (.op 11 .keeps (.op 13 .plain .nil))))))) (.both (.op 7 .keeps (.both (.op 3 .keeps (.op 10 .plain (.both (.op 11 .keeps (.op 12 .keeps (.op 13 .plain .nil))) (.op 12 .keeps (.op 11 .keeps (.op 13 .plain .nil)))))) (.op 12 .keeps (.op 3 .keeps (.op 10 .plain (.op 11 .keeps (.op 13 .plain .nil))))))) (.op 12 .keeps (.both (.op 3 .keeps (.op 7 .keeps (.op 10 .plain (.op 11 .keeps (.op 13 .plain .nil))))) (.op 7 .keeps (.op 3 .keeps (.op 10 .plain (.op 11 .keeps (.op 13 .plain .nil)))))))))) (.both (.op 7 .keeps (.both (.op 3 .keeps (.both (.op 6 .keeps (.op 10 .plain (.both (.op 11 .keeps (.op 12 .keeps (.op 13 .plain .nil))) (.op 12 .keeps (.op 11 .keeps (.op 13 .plain .nil)))))) (.op 12 .keeps (.op 6 .keeps (.op 10 .plain (.op 11 .keeps (.op 13 .plain .nil))))))) (.both (.op 6 .keeps (.both (.op 3 .keeps (.op 10 .plain (.both (.op 11 .keeps (.op 12 .keeps (.op 13 .plain .nil))) (.op 12 .keeps (.op 11 .keeps (.op 13 .plain .nil)))))) (.op 12 .keeps (.op 3 .keeps (.op 10 .plain (.op 11 .keeps (.op 13 .plain .nil))))))) (.op 12 .keeps (.both (.op 3 .keeps (.op 6 .keeps (.op 10 .plain (.op 11 .keeps (.op 13 .plain .nil))))) (.op 6 .keeps (.op 3 .keeps (.op 10 .plain (.op 11 .keeps (.op 13 .plain .nil)))))))))) (.op 12 .keeps (.both (.op 3 .keeps (.both (.op 6 .keeps (.op 7 .keeps (.op 10 .plain (.op 11 .keeps (.op 13 .plain .nil))))) (.op 7 .keeps (.op 6 .keeps (.op 10 .plain (.op 11 .keeps (.op 13 .plain .nil))))))) (.both (.op 6 .keeps (.both (.op 3 .keeps (.op 7 .keeps (.op 10 .plain (.op 11 .keeps (.op 13 .plain .nil))))) (.op 7 .keeps (.op 3 .keeps (.op 10 .plain (.op 11 .keeps (.op 13 .plain .nil))))))) (.op 7 .keeps (.both (.op 3 .keeps (.op 6 .keeps (.op 10 .plain (.op 11 .keeps (.op 13 .plain .nil))))) (.op 6 .keeps (.op 3 .keeps (.op 10 .plain (.op 11 .keeps (.op 13 .plain .nil)))))))))))))) (.both (.op 3 .keeps (.both (.op 1 .keeps (.both (.op 6 .keeps (.both (.op 7 .keeps (.op 10 .plain (.both (.op 11 .keeps (.op 12 .keeps (.op 13 .plain .nil))) (.op 12 .keeps (.op 11 .keeps (.op 13 .plain .nil)))))) (.op 12 .keeps (.op 7 .keeps (.op 10 .plain (.op 11 .keeps (.op 13 .plain .nil))))))) (.both (.op 7 .keeps (.both (.op 6 .keeps (.op 10 .plain (.both (.op 11 .keeps (.op 12 .keeps (.op 13 .plain .nil))) (.op 12 .keeps (.op 11 .keeps (.op 13 .plain .nil)))))) (.op 12 .keeps (.op 6 .keeps (.op 10 .plain (.op 11 .keeps (.op 13 .plain .nil))))))) (.op 12 .keeps (.both (.op 6 .keeps (.op 7 .keeps (.op 10 .plain (.op 11 .keeps (.op 13 .plain .nil))))) (.op 7 .keeps (.op 6 .keeps (.op 10 .plain (.op 11 .keeps (.op 13 .plain .nil)))))))))) (.both (.op 6 .keeps (.both (.op 1 .keeps (.both (.op 7 .keeps (.op 10 .plain (.both (.op 11 .keeps (.op 12 .keeps (.op 13 .plain .nil))) (.op 12 .keeps (.op 11 .keeps (.op 13 .plain .nil)))))) (.op 12 .keeps (.op 7 .keeps (.op 10 .plain (.op 11 .keeps (.op 13 .plain .nil))))))) (.both (.op 7 .keeps (.both (.op 1 .keeps (.op 10 .plain (.both (.op 11 .keeps (.op 12 .keeps (.op 13 .plain .nil))) (.op 12 .keeps (.op 11 .keeps (.op 13 .plain .nil)))))) (.op 12 .keeps (.op 1 .keeps (.op 10 .plain (.op 11 .keeps (.op 13 .plain .nil))))))) (.op 12 .keeps (.both (.op 1 .keeps (.op 7 .keeps (.op 10 .plain (.op 11 .keeps (.op 13 .plain .nil))))) (.op 7 .keeps (.op 1 .keeps (.op 10 .plain (.op 11 .keeps (.op 13 .plain .nil)))))))))) (.both (.op 7 .keeps (.both (.op 1 .keeps (.both (.op 6 .keeps (.op 10 .plain (.both (.op 11 .keeps (.op 12 .keeps (.op 13 .plain .nil))) (.op 12 .keeps (.op 11 .keeps (.op 13 .plain .nil)))))) (.op 12 .keeps (.op 6 .keeps (.op 10 .plain (.op 11 .keeps (.op 13 .plain .nil))))))) (.both (.op 6 .keeps (.both (.op 1 .keeps (.op 10 .plain (.both (.op 11 .keeps (.op 12 .keeps (.op 13 .plain .nil))) (.op 12 .keeps (.op 11 .keeps (.op 13 .plain .nil)))))) (.op 12 .keeps (.op 1 .keeps (.op 10 .plain (.op 11 .keeps (.op 13 .plain .nil))))))) (.op 12 .keeps (.both (.op 1 .keeps (.op 6 .keeps (.op 10 .plain (.op 11 .keeps (.op 13 .plain .nil))))) (.op 6 .keeps (.op 1 .keeps (.op 10 .plain (.op 11 .keeps (.op 13 .plain .nil)))))))))) (.op 12 .keeps (.both (.op 1 .keeps (.both (.op 6 .keeps (.op 7 .keeps (.op 10 .plain (.op 11 .keeps (.op 13 .plain .nil))))) (.op 7 .keeps (.op 6 .keeps (.op 10 .plain (.op 11 .keeps (.op 13 .plain .nil))))))) (.both (.op 6 .keeps (.both (.op 1 .keeps (.op 7 .keeps (.op 10 .plain (.op 11 .keeps (.op 13 .plain .nil))))) (.op 7 .keeps (.op 1 .keeps (.op 10 .plain (.op 11 .keeps (.op 13 .plain .nil))))))) (.op 7 .keeps (.both (.op 1 .keeps (.op 6 .keeps (.op 10 .plain (.op 11 .keeps (.op 13 .plain .nil))))) (.op 6 .keeps (.op 1 .keeps (.op 10 .plain (.op 11 .keeps (.op 13 .plain .nil)))))))))))))) (.both (.op 6 .keeps (.both (.op 1 .keeps (.both (.op 3 .keeps (.both (.op 7 .keeps (.op 10 .plain (.both (.op 11 .keeps (.op 12 .keeps (.op 13 .plain .nil))) (.op 12 .keeps (.op 11 .keeps (.op 13 .plain .nil)))))) (.op 12 .keeps (.op 7 .keeps (.op 10 .plain (.op 11 .keeps (.op 13 .plain .nil))))))) (.both (.op 7 .keeps (.both (.op 3 .keeps (.op 10 .plain (.both (.op 11 .keeps (.op 12 .keeps (.op 13 .plain .nil))) (.op 12 .keeps (.op 11 .keeps (.op 13 .plain .nil)))))) (.op 12 .keeps (.op 3 .keeps (.op 10 .plain (.op 11 .keeps (.op 13 .plain .nil))))))) (.op 12 .keeps (.both (.op 3 .keeps (.op 7 .keeps (.op 10 .plain (.op 11 .keeps (.op 13 .plain .nil))))) (.op 7 .keeps (.op 3 .keeps (.op 10 .plain (.op 11 .keeps (.op 13 .plain .nil)))))))))) (.both (.op 3 .keeps (.both (.op 1 .keeps (.both (.op 7 .keeps (.op 10 .plain (.both (.op 11 .keeps (.op 12 .keeps (.op 13 .plain .nil))) (.op 12 .keeps (.op 11 .keeps (.op 13 .plain .nil)))))) (.op 12 .keeps (.op 7 .keeps (.op 10 .plain (.op 11 .keeps (.op 13 .plain .nil))))))) (.both (.op 7 .keeps (.both (.op 1 .keeps (.op 10 .plain (.both (.op 11 .keeps (.op 12 .keeps (.op 13 .plain .nil))) (.op 12 .keeps (.op 11 .keeps (.op 13 .plain .nil)))))) (.op 12 .keeps (.op 1 .keeps (.op 10 .plain (.op 11 .keeps (.op 13 .plain .nil))))))) (.op 12 .keeps (.both (.op 1 .keeps (.op 7 .keeps (.op 10 .plain (.op 11 .keeps (.op 13 .plain .nil))))) (.op 7 .keeps (.op 1 .keeps (.op 10 .plain (.op 11 .keeps (.op 13 .plain .nil)))))))))) (.both (.op 7 .keeps (.both (.op 1 .keeps (.both (.op 3 .keeps (.op 10 .plain (.both (.op 11 .keeps (.op 12 .keeps (.op 13 .plain .nil))) (.op 12 .keeps (.op 11 .keeps (.op 13 .plain .nil)))))) (.op 12 .keeps (.op 3 .keeps (.op 10 .plain (.op 11 .keeps (.op 13 .plain .nil))))))) (.both (.op 3 .keeps (.both (.op 1 .keeps (.op 10 .plain (.both (.op 11 .keeps (.op 12 .keeps (.op 13 .plain .nil))) (.op 12 .keeps (.op 11 .keeps (.op 13 .plain .nil)))))) (.op 12 .keeps (.op 1 .keeps (.op 10 .plain (.op 11 .keeps (.op 13 .plain .nil))))))) (.op 12 .keeps (.both (.op 1 .keeps (.op 3 .keeps (.op 10 .plain (.op 11 .keeps (.op 13 .plain .nil))))) (.op 3 .keeps (.op 1 .keeps (.op 10 .plain (.op 11 .keeps (.op 13 .plain .nil)))))))))) (.op 12 .keeps (.both (.op 1 .keeps (.both (.op 3 .keeps (.op 7 .keeps (.op 10 .plain (.op 11 .keeps (.op 13 .plain .nil))))) (.op 7 .keeps (.op 3 .keeps (.op 10 .plain (.op 11 .keeps (.op 13 .plain .nil))))))) (.both (.op 3 .keeps (.both (.op 1 .keeps (.op 7 .keeps (.op 10 .plain (.op 11 .keeps (.op 13 .plain .nil))))) (.op 7 .keeps (.op 1 .keeps (.op 10 .plain (.op 11 .keeps (.op 13 .plain .nil))))))) (.op 7 .keeps (.both (.op 1 .keeps (.op 3 .keeps (.op 10 .plain (.op 11 .keeps (.op 13 .plain .nil))))) (.op 3 .keeps (.op 1 .keeps (.op 10 .plain (.op 11 .keeps (.op 13 .plain .nil)))))))))))))) (.both (.op 7 .keeps (.both (.op 1 .keeps (.both (.op 3 .keeps (.both (.op 6 .keeps (.op 10 .plain (.both (.op 11 .keeps (.op 12 .keeps (.op 13 .plain .nil))) (.op 12 .keeps (.op 11 .keeps (.op 13 .plain .nil)))))) (.op 12 .keeps (.op 6 .keeps (.op 10 .plain (.op 11 .keeps (.op 13 .plain .nil))))))) (.both (.op 6 .keeps (.both (.op 3 .keeps (.op 10 .plain (.both (.op 11 .keeps (.op 12 .keeps (.op 13 .plain .nil))) (.op 12 .keeps (.op 11 .keeps (.op 13 .plain .nil)))))) (.op 12 .keeps (.op 3 .keeps (.op 10 .plain (.op 11 .keeps (.op 13 .plain .nil))))))) (.op 12 .keeps (.both (.op 3 .keeps (.op 6 .keeps (.op 10 .plain (.op 11 .keeps (.op 13 .plain .nil))))) (.op 6 .keeps (.op 3 .keeps (.op 10 .plain (.op 11 .keeps (.op 13 .plain .nil)))))))))) (.both (.op 3 .keeps (.both (.op 1 .keeps (.both (.op 6 .keeps (.op 10 .plain (.both (.op 11 .keeps (.op 12 .keeps (.op 13 .plain .nil))) (.op 12 .keeps (.op 11 .keeps (.op 13 .plain .nil)))))) (.op 12 .keeps (.op 6 .keeps (.op 10 .plain (.op 11 .keeps (.op 13 .plain .nil))))))) (.both (.op 6 .keeps (.both (.op 1 .keeps (.op 10 .plain (.both (.op 11 .keeps (.op 12 .keeps (.op 13 .plain .nil))) (.op 12 .keeps (.op 11 .keeps (.op 13 .plain .nil)))))) (.op 12 .keeps (.op 1 .keeps (.op 10 .plain (.op 11 .keeps (.op 13 .plain .nil))))))) (.op 12 .keeps (.both (.op 1 .keeps (.op 6 .keeps (.op 10 .plain (.op 11 .keeps (.op 13 .plain .nil))))) (.op 6 .keeps (.op 1 .keeps (.op 10 .plain (.op 11 .keeps (.op 13 .plain .nil)))))))))) (.both (.op 6 .keeps (.both (.op 1 .keeps (.both (.op 3 .keeps (.op 10 .plain (.both (.op 11 .keeps (.op 12 .keeps (.op 13 .plain .nil))) (.op 12 .keeps (.op 11 .keeps (.op 13 .plain .nil)))))) (.op 12 .keeps (.op 3 .keeps (.op 10 .plain (.op 11 .keeps (.op 13 .plain .nil))))))) (.both (.op 3 .keeps (.both (.op 1 .keeps (.op 10 .plain (.both (.op 11 .keeps (.op 12 .keeps (.op 13 .plain .nil))) (.op 12 .keeps (.op 11 .keeps (.op 13 .plain .nil)))))) (.op 12 .keeps (.op 1 .keeps (.op 10 .plain (.op 11 .keeps (.op 13 .plain .nil))))))) (.op 12 .keeps (.both (.op 1 .keeps (.op 3 .keeps (.op 10 .plain (.op 11 .keeps (.op 13 .plain .nil))))) (.op 3 .keeps (.op 1 .keeps (.op 10 .plain (.op 11 .keeps (.op 13 .plain .nil)))))))))) (.op 12 .keeps (.both (.op 1 .keeps (.both (.op 3 .keeps (.op 6 .keeps (.op 10 .plain (.op 11 .keeps (.op 13 .plain .nil))))) (.op 6 .keeps (.op 3 .keeps (.op 10 .plain (.op 11 .keeps (.op 13 .plain .nil))))))) (.both (.op 3 .keeps (.both (.op 1 .keeps (.op 6 .keeps (.op 10 .plain (.op 11 .keeps (.op 13 .plain .nil))))) (.op 6 .keeps (.op 1 .keeps (.op 10 .plain (.op 11 .keeps (.op 13 .plain .nil))))))) (.op 6 .keeps (.both (.op 1 .keeps (.op 3 .keeps (.op 10 .plain (.op 11 .keeps (.op 13 .plain .nil))))) (.op 3 .keeps (.op 1 .keeps (.op 10 .plain (.op 11 .keeps (.op 13 .plain .nil)))))))))))))) (.op 12 .keeps (.both (.op 1 .keeps (.both (.op 3 .keeps (.both (.op 6 .keeps (.op 7 .keeps (.op 10 .plain (.op 11 .keeps (.op 13 .plain .nil))))) (.op 7 .keeps (.op 6 .keeps (.op 10 .plain (.op 11 .keeps (.op 13 .plain .nil))))))) (.both (.op 6 .keeps (.both (.op 3 .keeps (.op 7 .keeps (.op 10 .plain (.op 11 .keeps (.op 13 .plain .nil))))) (.op 7 .keeps (.op 3 .keeps (.op 10 .plain (.op 11 .keeps (.op 13 .plain .nil))))))) (.op 7 .keeps (.both (.op 3 .keeps (.op 6 .keeps (.op 10 .plain (.op 11 .keeps (.op 13 .plain .nil))))) (.op 6 .keeps (.op 3 .keeps (.op 10 .plain (.op 11 .keeps (.op 13 .plain .nil)))))))))) (.both (.op 3 .keeps (.both (.op 1 .keeps (.both (.op 6 .keeps (.op 7 .keeps (.op 10 .plain (.op 11 .keeps (.op 13 .plain .nil))))) (.op 7 .keeps (.op 6 .keeps (.op 10 .plain (.op 11 .keeps (.op 13 .plain .nil))))))) (.both (.op 6 .keeps (.both (.op 1 .keeps (.op 7 .keeps (.op 10 .plain (.op 11 .keeps (.op 13 .plain .nil))))) (.op 7 .keeps (.op 1 .keeps (.op 10 .plain (.op 11 .keeps (.op 13 .plain .nil))))))) (.op 7 .keeps (.both (.op 1 .keeps (.op 6 .keeps (.op 10 .plain (.op 11 .keeps (.op 13 .plain .nil))))) (.op 6 .keeps (.op 1 .keeps (.op 10 .plain (.op 11 .keeps (.op 13 .plain .nil)))))))))) (.both (.op 6 .keeps (.both (.op 1 .keeps (.both (.op 3 .keeps (.op 7 .keeps (.op 10 .plain (.op 11 .keeps (.op 13 .plain .nil))))) (.op 7 .keeps (.op 3 .keeps (.op 10 .plain (.op 11 .keeps (.op 13 .plain .nil))))))) (.both (.op 3 .keeps (.both (.op 1 .keeps (.op 7 .keeps (.op 10 .plain (.op 11 .keeps (.op 13 .plain .nil))))) (.op 7 .keeps (.op 1 .keeps (.op 10 .plain (.op 11 .keeps (.op 13 .plain .nil))))))) (.op 7 .keeps (.both (.op 1 .keeps (.op 3 .keeps (.op 10 .plain (.op 11 .keeps (.op 13 .plain .nil))))) (.op 3 .keeps (.op 1 .keeps (.op 10 .plain (.op 11 .keeps (.op 13 .plain .nil)))))))))) (.op 7 .keeps (.both (.op 1 .keeps (.both (.op 3 .keeps (.op 6 .keeps (.op 10 .plain (.op 11 .keeps (.op 13 .plain .nil))))) (.op 6 .keeps (.op 3 .keeps (.op 10 .plain (.op 11 .keeps (.op 13 .plain .nil))))))) (.both (.op 3 .keeps (.both (.op 1 .keeps (.op 6 .keeps (.op 10 .plain (.op 11 .keeps (.op 13 .plain .nil))))) (.op 6 .keeps (.op 1 .keeps (.op 10 .plain (.op 11 .keeps (.op 13 .plain .nil))))))) (.op 6 .keeps (.both (.op 1 .keeps (.op 3 .keeps (.op 10 .plain (.op 11 .keeps (.op 13 .plain .nil))))) (.op 3 .keeps (.op 1 .keeps (.op 10 .plain (.op 11 .keeps (.op 13 .plain .nil)))))))))))))))))))))))) Kk [(b1, .cells C [] 27)] Ks ?_
 repeat' (with_reducible refine And.intro ?_ ?_)
 all_goals as_aux_lemma=>
  repeat' first
   |with_reducible first|refine Nx.go ?_ |refine Bk.go (fun _=>?_) fun _=>?_ |refine Nb fun nb hnb hnb1 hnb2=>?_ |refine Nr fun nb nsp ncap hnb hncap hnb1 hnb2=>?_
   |simp -dsimp -implicitDefEqProofs (disch:=first|exact Kd|fail) only[go_sem,↓reduceIte,seval, -List.reduceReplicate,hCl,hCx,hCw,Nat.sub_self,List.replicate_zero]
   | ((with_reducible refine zx6 hm3 hlab fun vb kb hsk hO=>?_);obtain⟨av,cv,rfl⟩:=zS.isS hO;(have hE:=hsk;try simp only[zzs] at hE;repeat(obtain⟨hx',hE⟩:=hE)))
   |with_reducible refine And.intro ?_ ?_
  all_goals
   apply zx7 hO rfl
   ·repeat first
     |exact List.Mem.head _
     |with_reducible refine List.mem_append_right _ ?_
     |refine List.Mem.tail _ ?_
   ·repeat first
     |exact List.Mem.head _
     |with_reducible refine List.mem_append_right _ ?_
     |refine List.Mem.tail _ ?_
   ·intro fsum;simp only[PC,List.map_append,List.map_cons,List.map_nil,List.sum_append,List.sum_cons,List.sum_nil,List.cons_append,List.nil_append];omega
end Go.Proofs.YtomdbjfdbkejoaaGreatDoor
namespace Go.Proofs.YtomdbjfdbkejoaaGreatDoor
open Go Go.V Go.Proofs
theorem zt5 {α:Type} [DecidableEq α] {l:List α} {v:Nat} (h:v< (zk l).length): ∃t,∃ht:t<l.length,(zg l)[t]'(by rw[zr];exact ht)=(v:Int):=by
 have hm:(zk l)[v]∈l:=(zN l).1 (List.getElem_mem h)
 obtain⟨t,ht,e⟩:=List.getElem_of_mem hm
 refine⟨t,ht,?_⟩
 rw[zca ht,e,zH (zdx (zc2 l) h)]
def blF (l:List Int) (i:Nat):Nat:=((zg l).getD i 0).toNat
theorem zhq {l:List Int} {i:Nat} (h:i<l.length):(zg l)[i]'(by rw[zr];exact h)=(blF l i:Int):=by
 have hl:i< (zg l).length:=by rw[zr];exact h
 unfold blF
 rw[List.getD_eq_getElem?_getD,List.getElem?_eq_getElem hl]
 have:=zbd (List.getElem_mem hl)
 show _=(((zg l)[i]).toNat:Int)
 omega
theorem zqK {l:List Int} {i j:Nat} (hi:i<l.length) (hj:j<l.length):blF l i=blF l j↔l[i]=l[j]:=by
 rw[←zcF hi hj,zhq hi,zhq hj];omega
theorem zx8 (l:List Int):(zg l).map (Value.int .i64)=zj l.length (blF l):=by
 have:=zx5 (l:=zg l) (f:=blF l) fun i hi=>zhq (by rw[zr] at hi;exact hi)
 rw[zr] at this
 exact this
theorem zv8 {l:List Int} {s v:Nat} (hs:s<l.length) (h:v≤blF l s): ∃t,t<l.length∧blF l t=v:=by
 have hb:=zbd (l:=l) (n:=(zg l)[s]'(by rw[zr];exact hs)) (List.getElem_mem _)
 rw[zhq hs] at hb
 obtain⟨t,ht,e⟩:=zt5 (l:=l) (v:=v) Ko
 refine⟨t,ht,?_⟩
 rw[zhq ht] at e
 omega
theorem zt6 {l:List Int} {s:Nat} (hs:s<l.length):blF l s<l.length:=by
 have hb:=zbd (l:=l) (n:=(zg l)[s]'(by rw[zr];exact hs)) (List.getElem_mem _)
 rw[zhq hs] at hb
 have:=zai l
 omega
structure SpI (bf f:Nat→Nat) (i nb:Nat) (fr to pl:Nat→Nat):Prop where
 pl: ∀j,j<i→pl (f j)=j
 nb0:i=0→nb=0
 nb1:0<i→nb=bf (f (i - 1))+1
 span: ∀b,b<nb→fr b<to b∧to b≤i∧ ∀j,fr b≤j→j<to b→bf (f j)=b
 each: ∀j,j<i→bf (f j) <nb∧fr (bf (f j))≤j∧j<to (bf (f j))
theorem SpI.zero (bf f fr to pl:Nat→Nat):SpI bf f 0 0 fr to pl:=⟨fun j h=>by omega,fun _=>rfl,fun h=>by omega,fun b h=>by omega,fun j h=>by omega⟩
theorem SpI.next {bf f fr to pl:Nat→Nat} {n i nb:Nat} (h:SpI bf f i nb fr to pl) (hs:zV (fun s=>(bf s:Int)) f 0 n) (hi:i<n) (ho: ∀j v,j<n→v≤bf (f j)→ ∃t,t<n∧bf (f t)=v):bf (f i)≤nb∧nb≤bf (f i)+1:=by
 have hmono: ∀x y,x≤y→y<n→bf (f x)≤bf (f y):=fun x y h1 h2=>by
  have:=hs.le (Nat.zero_le x) h1 h2
  omega
 rcases Nat.eq_zero_or_pos i with e|e
 ·rw[h.nb0 e]
  obtain⟨t,h1,h2⟩:=ho i 0 hi (Nat.zero_le _)
  have:=hmono i t Ko h1
  omega
 ·rw[h.nb1 e]
  refine⟨?_,?_⟩
  ·apply Classical.byContradiction
   intro hn
   obtain⟨t,h1,h2⟩:=ho i (bf (f (i - 1))+1) hi Ko
   rcases Nat.lt_or_ge t i with g|g
   ·have:=hmono t (i - 1) Ko Ko;omega
   ·have:=hmono i t g h1;omega
  ·have:=hmono (i - 1) i Ko hi;omega
theorem SpI.new {bf f fr to pl:Nat→Nat} {n i nb:Nat} (h:SpI bf f i nb fr to pl) (hinj: ∀x y,x<n→y<n→f x=f y→x=y) (hi:i<n) (he:bf (f i)=nb):SpI bf f (i+1) (nb+1) (zo fr nb i) (zo (zo to nb i) nb (i+1)) (zo pl (f i) i):=by
 refine⟨fun j hj=>?_,fun h=>by omega,fun _=>by rw[Nat.add_sub_cancel,he],fun b hb=>?_,fun j hj=>?_⟩
 ·unfold zo
  by_cases e:f j=f i
  ·rw[if_pos e];exact(hinj j i Ko hi e).symm
  ·rw[if_neg e]
   refine h.pl j ?_
   rcases Nat.lt_or_ge j i with g|g
   ·exact g
   ·exact absurd (by rw[show j=i by omega]) e
 ·unfold zo
  by_cases e:b=nb
  ·rw[if_pos e,if_pos e]
   exact⟨by omega,Nat.le_refl _,fun j h1 h2=>by rw[show j=i by omega,he,e]⟩
  ·rw[if_neg e,if_neg e,if_neg e]
   obtain⟨a1,a2,a3⟩:=h.span b Ko
   exact⟨a1,by omega,a3⟩
 ·rcases Nat.lt_or_ge j i with g|g
  ·obtain⟨a1,a2,a3⟩:=h.each j g
   unfold zo
   rw[if_neg Ko,if_neg Ko,if_neg Ko]
   exact⟨by omega,a2,a3⟩
  ·obtain rfl:j=i:=by omega
   rw[he]
   unfold zo
   rw[if_pos rfl,if_pos rfl]
   omega
theorem SpI.old {bf f fr to pl:Nat→Nat} {n i nb:Nat} (h:SpI bf f i nb fr to pl) (hinj: ∀x y,x<n→y<n→f x=f y→x=y) (hi:i<n) (he:bf (f i)+1=nb):SpI bf f (i+1) nb fr (zo to (bf (f i)) (to (bf (f i))+1)) (zo pl (f i) i)∧to (bf (f i))=i:=by
 have hi0:0<i:=by
  rcases Nat.eq_zero_or_pos i with e|e
  ·have:=h.nb0 e;omega
  ·exact e
 have hc:=h.nb1 hi0
 have hce:bf (f (i - 1))=bf (f i):=by omega
 obtain⟨a1,a2,a3⟩:=h.each (i - 1) Ko
 rw[hce] at a1 a2 a3
 obtain⟨b1,b2,b3⟩:=h.span (bf (f i)) a1
 have hto:to (bf (f i))=i:=by omega
 refine⟨⟨fun j hj=>?_,fun h=>by omega,fun _=>by rw[Nat.add_sub_cancel];exact he.symm,fun b hb=>?_,fun j hj=>?_⟩,hto⟩
 ·unfold zo
  by_cases e:f j=f i
  ·rw[if_pos e];exact(hinj j i Ko hi e).symm
  ·rw[if_neg e]
   refine h.pl j ?_
   rcases Nat.lt_or_ge j i with g|g
   ·exact g
   ·exact absurd (by rw[show j=i by omega]) e
 ·unfold zo
  by_cases e:b=bf (f i)
  ·rw[if_pos e,e,hto]
   refine⟨by omega,Nat.le_refl _,fun j h1 h2=>?_⟩
   rcases Nat.lt_or_ge j i with g|g
   ·exact b3 j h1 Ko
   ·rw[show j=i by omega]
  ·rw[if_neg e]
   obtain⟨a1,a2,a3⟩:=h.span b hb
   exact⟨a1,by omega,a3⟩
 ·rcases Nat.lt_or_ge j i with g|g
  ·obtain⟨a1,a2,a3⟩:=h.each j g
   refine⟨a1,a2,?_⟩
   unfold zo
   split <;> rename_i e
   ·rw[e] at a3;omega
   ·exact a3
  ·obtain rfl:j=i:=by omega
   unfold zo
   rw[if_pos rfl]
   omega
theorem SpI.done {bf f fr to pl:Nat→Nat} {n nb:Nat} (h:SpI bf f n nb fr to pl) (hf:zks n f):PInv n nb f pl bf fr to fun _=>0:=by
 obtain⟨p,h1,h2⟩:=hf
 have hpl: ∀s,s<n→pl s=p s:=fun s hs=>by
  have:=h.pl (p s) (h2 s hs).1
  rw[(h2 s hs).2] at this
  exact this
 refine⟨fun i hi=>(h1 i hi).1,fun s hs=>by rw[hpl s hs];exact(h2 s hs).1,fun i hi=>h.pl i hi,fun s hs=>by rw[hpl s hs];exact(h2 s hs).2,fun s hs=>?_,fun s hs=>?_,fun s hs=>?_,fun b hb=>(h.span b hb).1,fun b hb=>(h.span b hb).2.1,fun b hb=>?_,fun b i hb g1 g2=>(h.span b hb).2.2 i g1 g2⟩
 ·have:=(h.each (p s) (h2 s hs).1).1
  rw[(h2 s hs).2] at this;exact this
 ·have:=(h.each (p s) (h2 s hs).1).2.1
  rw[(h2 s hs).2] at this;rw[hpl s hs];exact this
 ·have:=(h.each (p s) (h2 s hs).1).2.2
  rw[(h2 s hs).2] at this;rw[hpl s hs];exact this
 ·have:=(h.span b hb).1
  omega
theorem zAh {n:Nat} (hn:n≤2000000) {bq bp bs:Nat} {W:Int} {v1 va vb vsp vk vw vm:Value} {G:za} {H:zb}:
  Tri Tryz.prog Tryz.f103.ntmps (piece [1,1,1,0] Tryz.f103) G [(1,v1),(3, .int .i64 (n:Nat)),(4, .pointer (some ⟨bq,0,none⟩))] ((bq, .cells [.pointer (some ⟨bp,0,none⟩)] [] 129):: (bp, .cells (PC (.slice (some ⟨bs,0,none⟩) n n) va vb vsp vk vw vm W) [] 135):: (bs, .cells (zj n fun _=>0) [] 3)::H) (onlyN fun G' l H'=>
   G'=G∧zD [1,3,4] l=[(1,v1),(3, .int .i64 (n:Nat)),(4, .pointer (some ⟨bq,0,none⟩))]∧H'=(bq, .cells [.pointer (some ⟨bp,0,none⟩)] [] 129):: (bp, .cells (PC (.slice (some ⟨bs,0,none⟩) n n) va vb vsp vk vw vm W) [] 135):: (bs, .cells (zj n fun i=>i) [] 3)::H):=by
 refine Tri.sepT fun hs0=>?_
 have hE:=hs0
 try simp only[zzs] at hE
 repeat(obtain⟨hx',hE⟩:=hE)
 refine Tri.piece (f:=Tryz.f103) rfl ?_
 refine Tri.run tok [0,1,2,3,4,5,6,7,8,9,10,11,27,28,29,48,49,50,51,75,113,114,115,126,127,128,129] Kk ?_
 repeat' first
  |with_reducible first|refine Nx.go ?_ |refine Bk.go (fun _=>?_) fun _=>?_ |refine Nb fun nb hnb hnb1 hnb2=>?_ |refine Nr fun nb nsp ncap hnb hncap hnb1 hnb2=>?_
  |simp -dsimp -implicitDefEqProofs (disch:=first|exact Kd|fail) only[go_sem,↓reduceIte,seval]
 refine Tri.loopU tok [0,1,2,3,4,5,6,7,8,9,10,11,27,28,29,48,49,50,51,75,113,114,115,126,127,128,129] Kk [1,3,4,27,28] (fun q G' fr H'=> ∃s:Nat,s+q=n∧G'=G∧H'=(bq, .cells [.pointer (some ⟨bp,0,none⟩)] [] 129):: (bp, .cells (PC (.slice (some ⟨bs,0,none⟩) n n) va vb vsp vk vw vm W) [] 135):: (bs, .cells (zj n fun j=>if j<s then j else 0) [] 3)::H∧fr=[(1,v1),(3, .int .i64 (n:Nat)),(4, .pointer (some ⟨bq,0,none⟩)),(27, .int .i64 (n:Nat)),(28, .int .i64 (s:Nat))]) (n) ?_ ?_
 ·exact Upd.now ⟨0,by omega,rfl,by rw[zeF (f:=fun j=>if j<0 then j else 0) (g:=fun _=>0) fun i _=>if_neg Ko],rfl⟩
 ·rintro q G1 fr H1 hle hs1 ⟨s,hsq,rfl,rfl,rfl⟩
  have hE:=hs1
  try simp only[zzs] at hE
  repeat(obtain⟨hx',hE⟩:=hE)
  by_cases hsn:s<n
  ·have hp:=zbg (fun j=>if j<s then j else 0) hsn s
   have he:zj n (zo (fun j=>if j<s then j else 0) s s)=zj n fun j=>if j<s+1 then j else 0:=zeF fun i _=>by
    unfold zo
    by_cases e:i=s
    ·rw[if_pos e,if_pos Ko,e]
    ·rw[if_neg e]
     show(if i<s then i else 0)=_
     by_cases e2:i<s
     ·rw[if_pos e2,if_pos Ko]
     ·rw[if_neg e2,if_neg Ko]
   rw[he] at hp
   repeat' first
    |with_reducible first|refine Nx.go ?_ |refine Bk.go (fun _=>?_) fun _=>?_ |refine Nb fun nb hnb hnb1 hnb2=>?_ |refine Nr fun nb nsp ncap hnb hncap hnb1 hnb2=>?_
    |simp -dsimp -implicitDefEqProofs (disch:=first|exact Kd|fail) only[go_sem,↓reduceIte,seval,hp]
   exact Upd.now ⟨q - 1,by omega,s+1,by omega,rfl,rfl,rfl⟩
  ·obtain rfl:s=n:=by omega
   rw[zeF (f:=fun j=>if j<s then j else 0) (g:=fun i=>i) fun i hi=>if_pos hi] at hs1⊢
   repeat' first
    |with_reducible first|refine Nx.go ?_ |refine Bk.go (fun _=>?_) fun _=>?_ |refine Nb fun nb hnb hnb1 hnb2=>?_ |refine Nr fun nb nsp ncap hnb hncap hnb1 hnb2=>?_
    |simp -dsimp -implicitDefEqProofs (disch:=first|exact Kd|fail) only[go_sem,↓reduceIte,seval]
   exact Upd.now ⟨rfl,rfl,rfl⟩
theorem zAi {n:Nat} (hn:n≤2000000) {bq bp bl cb:Nat} {spb:List Value} {W:Int} {vs va vsp vk vw vm:Value} {bf:Nat→Nat} (hbf: ∀s,s<n→bf s<2000000) {sp:List Value} {bs:Nat} {G:za} {H:zb} (hsep:Sep G (zm ((bs,Res.cells [] [] 3):: (bq,Res.cells [.pointer (some ⟨bp,0,none⟩)] [] 129):: (bp,Res.cells (PC vs va (.slice (some ⟨bl,0,none⟩) n cb) vsp vk vw vm W) [] 135):: (bl,Res.cells (zj n bf) spb 3)::H))):zeg Tryz.prog 132 (.pointer (some ⟨bq,0,none⟩)) (fun s=>(bf s:Int)) n bs sp G ((bq, .cells [.pointer (some ⟨bp,0,none⟩)] [] 129):: (bp, .cells (PC vs va (.slice (some ⟨bl,0,none⟩) n cb) vsp vk vw vm W) [] 135):: (bl, .cells (zj n bf) spb 3)::H):=by
 intro x y g R hx hy hR
 have hE:=hsep
 try simp only[zzs] at hE
 repeat(obtain⟨hx',hE⟩:=hE)
 have hgx:=zaV bf (sp:=spb) hx
 have hgy:=zaV bf (sp:=spb) hy
 have hbx:=hbf x hx
 have hby:=hbf y hy
 refine FnT.body tok [0,1,2,5] Tryz.func132 rfl Kk Kk (by show _≤21;simp) fun hsep=>?_
 rw[Tryz.results132]
 have hE:=hsep
 try simp only[zzs] at hE
 repeat(obtain⟨hx',hE⟩:=hE)
 repeat' first
  |with_reducible first|refine Nx.go ?_ |refine Bk.go (fun _=>?_) fun _=>?_
  |simp -dsimp -implicitDefEqProofs (disch:=first|exact Kd|fail) only[go_sem,↓reduceIte,seval,hgx,hgy]
  |with_reducible refine Tri.drawM tok mixed [0,1,2,5] 1 [0,3,6,7,10,13] (.op 0 .held (.op 1 .plain (.op 2 .plain (.op 3 .held (.op 4 .plain (.op 5 .plain (.op 6 .held (.op 7 .held (.op 8 .plain (.op 9 .plain (.op 10 .held (.op 11 .plain (.op 12 .plain (.op 13 .held (.op 14 .plain (.op 15 .plain .nil)))))))))))))))) Kk _ (List.Sublist.refl _) ?_
 all_goals refine Upd.finL ?_ hR ?_
 any_goals first|exact Ks|skip
 rfl
set_option maxRecDepth 4000 in
theorem zAj {n:Nat} (hn:n≤2000000) {bq bp bs ba bl cb:Nat} {spb:List Value} {W:Int} {v1 vk vw vm:Value} {bf f:Nat→Nat} (hf:zks n f) (hs:zV (fun s=>(bf s:Int)) f 0 n) (hbl: ∀s,s<n→bf s<n) (ho: ∀j v,j<n→v≤bf (f j)→ ∃t,t<n∧bf (f t)=v) {G:za} {H:zb}:
  Tri Tryz.prog Tryz.f103.ntmps (piece [1,1,1,1,1,0] Tryz.f103) G [(1,v1),(3, .int .i64 (n:Nat)),(4, .pointer (some ⟨bq,0,none⟩))] ((bq, .cells [.pointer (some ⟨bp,0,none⟩)] [] 129):: (bp, .cells (PC (.slice (some ⟨bs,0,none⟩) n n) (.slice (some ⟨ba,0,none⟩) n n) (.slice (some ⟨bl,0,none⟩) n cb) (.slice none 0 0) vk vw vm W) [] 135):: (bs, .cells (zj n f) [] 3):: (ba, .cells (zj n fun _=>0) [] 3):: (bl, .cells (zj n bf) spb 3)::H) (onlyN fun G' l H'=>
   ∃w fr to pl vsp ks,PInv n w f pl bf fr to (fun _=>0)∧zS [] 159 3 vsp w (zF w fr to fun _=>0) ks∧G'=G∧zD [1,3,4] l=[(1,v1),(3, .int .i64 (n:Nat)),(4, .pointer (some ⟨bq,0,none⟩))]∧H'=(bq, .cells [.pointer (some ⟨bp,0,none⟩)] [] 129):: (bp, .cells (PC (.slice (some ⟨bs,0,none⟩) n n) (.slice (some ⟨ba,0,none⟩) n n) (.slice (some ⟨bl,0,none⟩) n cb) vsp vk vw vm W) [] 135):: (bs, .cells (zj n f) [] 3):: (ba, .cells (zj n pl) [] 3):: (bl, .cells (zj n bf) spb 3):: (ks++H)):=by
 have hinj: ∀x y,x<n→y<n→f x=f y→x=y:=fun x y h1 h2 e=>by
  obtain⟨p,g1,g2⟩:=hf
  rw[←(g1 x h1).2,e,(g1 y h2).2]
 have hflt: ∀x,x<n→f x<n:=fun x hx=>by
  obtain⟨p,g1,g2⟩:=hf
  exact(g1 x hx).1
 refine Tri.sepT fun hs0=>?_
 have hE:=hs0
 try simp only[zzs] at hE
 repeat(obtain⟨hx',hE⟩:=hE)
 refine Tri.piece (f:=Tryz.f103) rfl ?_
 refine Tri.run tok [0,1,2,3,4,5,6,7,8,9,10,11,27,28,29,48,49,50,51,75,113,114,115,126,127,128,129] Kk ?_
 repeat' first
  |with_reducible first|refine Nx.go ?_ |refine Bk.go (fun _=>?_) fun _=>?_ |refine Nb fun nb hnb hnb1 hnb2=>?_ |refine Nr fun nb nsp ncap hnb hncap hnb1 hnb2=>?_
  |simp -dsimp -implicitDefEqProofs (disch:=first|exact Kd|fail) only[go_sem,↓reduceIte,seval]
 refine Tri.loopU tok [0,1,2,3,4,5,6,7,8,9,10,11,27,28,29,48,49,50,51,75,113,114,115,126,127,128,129] Kk [1,3,4,48,49,50] (fun q G' fr' H'=> ∃ (i w:Nat) (fr to pl:Nat→Nat) (vsp:Value) (ks:zb),i+q=n∧SpI bf f i w fr to pl∧zS [] 159 3 vsp w (zF w fr to fun _=>0) ks∧G'=G∧H'=(bq, .cells [.pointer (some ⟨bp,0,none⟩)] [] 129):: (bp, .cells (PC (.slice (some ⟨bs,0,none⟩) n n) (.slice (some ⟨ba,0,none⟩) n n) (.slice (some ⟨bl,0,none⟩) n cb) vsp vk vw vm W) [] 135):: (bs, .cells (zj n f) [] 3):: (ba, .cells (zj n pl) [] 3):: (bl, .cells (zj n bf) spb 3):: (ks++H)∧fr'=[(1,v1),(3, .int .i64 (n:Nat)),(4, .pointer (some ⟨bq,0,none⟩)),(48, .slice (some ⟨bs,0,none⟩) n n),(49, .int .i64 (n:Nat)),(50, .int .i64 (i:Nat))]) (n) ?_ ?_
 ·exact Upd.now ⟨0,0,fun _=>0,fun _=>0,fun _=>0, .slice none 0 0,[],by omega,SpI.zero _ _ _ _ _, .inl ⟨none,rfl,rfl,rfl,rfl⟩,rfl,rfl,rfl⟩
 ·rintro q G1 fr' H1 hle hs1 ⟨i,w,fr,to,pl,vsp,ks,hiq,hI,hks,rfl,rfl,rfl⟩
  by_cases hin:i<n
  ·have hg1:=zdN f hin
   have hfi:=hflt i hin
   have hp:=zbg pl hfi i
   have hgb:=zaV bf (sp:=spb) hfi
   obtain⟨hn1,hn2⟩:=hI.next hs hin ho
   have hbn:=hbl (f i) hfi
   by_cases hnew:bf (f i)=w
   ·have hN:=hI.new hinj hin hnew
    have hg5:(zF (w+1) (zo fr w i) (zo to w i) (zo (fun _=>0) w 0))[w * 3+1]? =some (.int .i64 (i:Nat)):=by
     have:=zhp (n:=w+1) (fr:=zo fr w i) (to:=zo to w i) (mk:=zo (fun _=>0) w 0) (sp:=[]) (i:=w) Ko
     rw[List.append_nil,zby] at this;exact this
    have hmk:zo (fun _=>0) w 0=fun _=>0:=by funext x;unfold zo;split <;> rfl
    have hsn:=zmP w fr to (fun _=>0) i i 0
    have hpt:=zt3 (n:=w+1) (fr:=zo fr w i) (to:=zo to w i) (mk:=fun _=>0) (i:=w) Ko (i+1)
    have hg5':=fun sp=>zhp (n:=w+1) (fr:=zo fr w i) (to:=zo to w i) (mk:=fun _=>0) (sp:=sp) (i:=w) Ko
    simp only[zby] at hg5'
    rw[hmk] at hsn
    have ei:(i:Int)+1=((i+1 :Nat):Int):=rfl
    rcases hks with ⟨aa,rfl,h0,hx,rfl⟩| ⟨bsp,csp,ssp,rfl,rfl,hx,hc⟩
    ·subst h0
     rw[show zF 0 fr to (fun _=>0)=[] from rfl,List.nil_append] at hsn
     have hE:=hs1
     try simp only[zzs] at hE
     repeat(obtain⟨hx',hE⟩:=hE)
     repeat' first
      |with_reducible first|refine Nx.go ?_ |refine Bk.go (fun _=>?_) fun _=>?_ |refine Nb fun nb hnb hnb1 hnb2=>?_ |refine Nr fun nb nsp ncap hnb hncap hnb1 hnb2=>?_
      |simp -dsimp -implicitDefEqProofs (disch:=first|exact Kd|fail) only[go_sem,↓reduceIte,seval,hg1,hp,hgb,hnew]
      |with_reducible refine Tri.drawS tok mixed [0,1,2,3,4,5,6,7,8,9,10,11,27,28,29,48,49,50,51,75,113,114,115,126,127,128,129] 15 [0,1,4] (.op 0 .held (.op 1 .held (.op 2 .plain (.op 3 .plain (.op 4 .held (.op 5 .plain (.op 6 .plain (.op 7 .plain (.op 8 .keeps (.op 9 .keeps (.op 10 .plain (.op 11 .plain (.op 12 .plain .nil))))))))))))) Kk [(bq, .cells [.pointer (some ⟨bp,0,none⟩)] [] 129),(bp, .cells (PC (.slice (some ⟨bs,0,none⟩) n n) (.slice (some ⟨ba,0,none⟩) n n) (.slice (some ⟨bl,0,none⟩) n cb) (.slice aa 0 0) vk vw vm W) [] 135)] Ks ?_
     obtain⟨bx,ebx⟩: ∃x,x=nb:=⟨_,rfl⟩
     subst ebx
     have hsn':[Value.int .i64 (i:Nat),Value.int .i64 (i:Nat),Value.int .i64 0]=zF 1 (zo fr 0 i) (zo to 0 i) fun _=>0:=hsn
     rw[hsn']
     repeat' first
      |with_reducible first|refine Nx.go ?_ |refine Bk.go (fun _=>?_) fun _=>?_ |refine Nb fun nb hnb hnb1 hnb2=>?_ |refine Nr fun nb nsp ncap hnb hncap hnb1 hnb2=>?_
      |simp -dsimp -implicitDefEqProofs (disch:=first|exact Kd|fail) only[go_sem,↓reduceIte,seval,hgb,hnew,hpt,hg5',ei]
      |with_reducible refine Tri.drawS tok mixed [0,1,2,3,4,5,6,7,8,9,10,11,27,28,29,48,49,50,51,75,113,114,115,126,127,128,129] 16 [0,3,4,7,10,13] (.op 0 .held (.op 1 .plain (.op 2 .plain (.op 3 .held (.op 4 .held (.op 5 .plain (.op 6 .plain (.op 7 .held (.op 8 .plain (.op 9 .plain (.op 10 .held (.op 11 .plain (.op 12 .plain (.op 13 .held (.op 14 .plain (.op 15 .plain (.op 16 .plain (.op 17 .plain .nil)))))))))))))))))) Kk [(bq, .cells [.pointer (some ⟨bp,0,none⟩)] [] 129),(bp, .cells (PC (.slice (some ⟨bs,0,none⟩) n n) (.slice (some ⟨ba,0,none⟩) n n) (.slice (some ⟨bl,0,none⟩) n cb) (.slice (some ⟨bx,0,none⟩) 1 ncap) vk vw vm W) [] 135),(bl, .cells (zj n bf) spb 3),(bx, .cells (zF 1 (zo fr 0 i) (zo to 0 i) fun _=>0) nsp 159)] Ks ?_
     refine Upd.leave (H':=(bq, .cells [.pointer (some ⟨bp,0,none⟩)] [] 129):: (bp, .cells (PC (.slice (some ⟨bs,0,none⟩) n n) (.slice (some ⟨ba,0,none⟩) n n) (.slice (some ⟨bl,0,none⟩) n cb) (.slice (some ⟨bx,0,none⟩) 1 ncap) vk vw vm W) [] 135):: (bs, .cells (zj n f) [] 3):: (ba, .cells (zj n (zo pl (f i) i)) [] 3):: (bl, .cells (zj n bf) spb 3):: ([(bx, .cells (zF 1 (zo fr 0 i) (zo (zo to 0 i) 0 (i+1)) fun _=>0) nsp 159)]++H)) Ks ?_
     exact⟨q - 1,by omega,i+1,1,_,_,_,_,_,by omega,hN, .inr ⟨bx,ncap,nsp,rfl,rfl,by rw[zbu],by rw[zbu];simp at hncap;omega⟩,rfl,rfl,rfl⟩
    ·have hE:=hs1
     try simp only[zzs] at hE
     repeat(obtain⟨hx',hE⟩:=hE)
     repeat' first
      |with_reducible first|refine Nx.go ?_ |refine Bk.go (fun _=>?_) fun _=>?_ |refine Nb fun nb hnb hnb1 hnb2=>?_ |refine Nr fun nb nsp ncap hnb hncap hnb1 hnb2=>?_
      |simp -dsimp -implicitDefEqProofs (disch:=first|exact Kd|fail) only[go_sem,↓reduceIte,seval,hg1,hp,hgb,hnew]
      |with_reducible refine Tri.drawS tok mixed [0,1,2,3,4,5,6,7,8,9,10,11,27,28,29,48,49,50,51,75,113,114,115,126,127,128,129] 15 [0,1,4] (.op 0 .held (.op 1 .held (.op 2 .plain (.op 3 .plain (.op 4 .held (.op 5 .plain (.op 6 .plain (.op 7 .plain (.op 8 .keeps (.op 9 .keeps (.op 10 .plain (.op 11 .plain (.op 12 .plain .nil))))))))))))) Kk [(bq, .cells [.pointer (some ⟨bp,0,none⟩)] [] 129),(bp, .cells (PC (.slice (some ⟨bs,0,none⟩) n n) (.slice (some ⟨ba,0,none⟩) n n) (.slice (some ⟨bl,0,none⟩) n cb) (.slice (some ⟨bsp,0,none⟩) w csp) vk vw vm W) [] 135)] Ks ?_
     obtain⟨bx,ebx⟩: ∃x,x=nb:=⟨_,rfl⟩
     subst ebx
     have hsn':zF w fr to (fun _=>0)++[Value.int .i64 (i:Nat),Value.int .i64 (i:Nat),Value.int .i64 0]=zF (w+1) (zo fr w i) (zo to w i) fun _=>0:=hsn
     rw[hsn']
     repeat' first
      |with_reducible first|refine Nx.go ?_ |refine Bk.go (fun _=>?_) fun _=>?_ |refine Nb fun nb hnb hnb1 hnb2=>?_ |refine Nr fun nb nsp ncap hnb hncap hnb1 hnb2=>?_
      |simp -dsimp -implicitDefEqProofs (disch:=first|exact Kd|fail) only[go_sem,↓reduceIte,seval,hgb,hnew,hpt,hg5',ei]
      |with_reducible refine Tri.drawS tok mixed [0,1,2,3,4,5,6,7,8,9,10,11,27,28,29,48,49,50,51,75,113,114,115,126,127,128,129] 16 [0,3,4,7,10,13] (.op 0 .held (.op 1 .plain (.op 2 .plain (.op 3 .held (.op 4 .held (.op 5 .plain (.op 6 .plain (.op 7 .held (.op 8 .plain (.op 9 .plain (.op 10 .held (.op 11 .plain (.op 12 .plain (.op 13 .held (.op 14 .plain (.op 15 .plain (.op 16 .plain (.op 17 .plain .nil)))))))))))))))))) Kk [(bq, .cells [.pointer (some ⟨bp,0,none⟩)] [] 129),(bp, .cells (PC (.slice (some ⟨bs,0,none⟩) n n) (.slice (some ⟨ba,0,none⟩) n n) (.slice (some ⟨bl,0,none⟩) n cb) (.slice (some ⟨bx,0,none⟩) (w+1) ncap) vk vw vm W) [] 135),(bl, .cells (zj n bf) spb 3),(bx, .cells (zF (w+1) (zo fr w i) (zo to w i) fun _=>0) nsp 159)] Ks ?_
     refine Upd.leave (H':=(bq, .cells [.pointer (some ⟨bp,0,none⟩)] [] 129):: (bp, .cells (PC (.slice (some ⟨bs,0,none⟩) n n) (.slice (some ⟨ba,0,none⟩) n n) (.slice (some ⟨bl,0,none⟩) n cb) (.slice (some ⟨bx,0,none⟩) (w+1) ncap) vk vw vm W) [] 135):: (bs, .cells (zj n f) [] 3):: (ba, .cells (zj n (zo pl (f i) i)) [] 3):: (bl, .cells (zj n bf) spb 3):: ([(bx, .cells (zF (w+1) (zo fr w i) (zo (zo to w i) w (i+1)) fun _=>0) nsp 159)]++H)) Ks ?_
     exact⟨q - 1,by omega,i+1,w+1,_,_,_,_,_,by omega,hN, .inr ⟨bx,ncap,nsp,rfl,rfl,by rw[zbu],by rw[zbu];omega⟩,rfl,rfl,rfl⟩
   ·have hold:bf (f i)+1=w:=by omega
    obtain⟨hN,hto⟩:=hI.old hinj hin hold
    rcases hks with ⟨aa,rfl,h0,hx,rfl⟩| ⟨bsp,csp,ssp,rfl,rfl,hx,hc⟩
    ·omega
    ·have hgt:=zhp (n:=w) (fr:=fr) (to:=to) (mk:=fun _=>0) (sp:=ssp) (i:=bf (f i)) Ko
     have hpt:=zt3 (n:=w) (fr:=fr) (to:=to) (mk:=fun _=>0) (i:=bf (f i)) Ko (to (bf (f i))+1)
     have ei:((to (bf (f i)):Nat):Int)+1=((to (bf (f i))+1 :Nat):Int):=rfl
     have hnn: ¬((bf (f i):Nat):Int)=((w:Nat):Int):=by omega
     have hE:=hs1
     try simp only[zzs] at hE
     repeat(obtain⟨hx',hE⟩:=hE)
     repeat' first
      |with_reducible first|refine Nx.go ?_ |refine Bk.go (fun _=>?_) fun _=>?_ |refine Nb fun nb hnb hnb1 hnb2=>?_ |refine Nr fun nb nsp ncap hnb hncap hnb1 hnb2=>?_
      |simp -dsimp -implicitDefEqProofs (disch:=first|exact Kd|fail) only[go_sem,↓reduceIte,seval,hg1,hp,hgb,hpt,hgt,ei]
      |with_reducible refine Tri.drawS tok mixed [0,1,2,3,4,5,6,7,8,9,10,11,27,28,29,48,49,50,51,75,113,114,115,126,127,128,129] 16 [0,3,4,7,10,13] (.op 0 .held (.op 1 .plain (.op 2 .plain (.op 3 .held (.op 4 .held (.op 5 .plain (.op 6 .plain (.op 7 .held (.op 8 .plain (.op 9 .plain (.op 10 .held (.op 11 .plain (.op 12 .plain (.op 13 .held (.op 14 .plain (.op 15 .plain (.op 16 .plain (.op 17 .plain .nil)))))))))))))))))) Kk [(bq, .cells [.pointer (some ⟨bp,0,none⟩)] [] 129),(bp, .cells (PC (.slice (some ⟨bs,0,none⟩) n n) (.slice (some ⟨ba,0,none⟩) n n) (.slice (some ⟨bl,0,none⟩) n cb) (.slice (some ⟨bsp,0,none⟩) w csp) vk vw vm W) [] 135),(bl, .cells (zj n bf) spb 3),(bsp, .cells (zF w fr to fun _=>0) ssp 159)] Ks ?_
     all_goals first| (exfalso;omega)|skip
     refine Upd.leave (H':=(bq, .cells [.pointer (some ⟨bp,0,none⟩)] [] 129):: (bp, .cells (PC (.slice (some ⟨bs,0,none⟩) n n) (.slice (some ⟨ba,0,none⟩) n n) (.slice (some ⟨bl,0,none⟩) n cb) (.slice (some ⟨bsp,0,none⟩) w csp) vk vw vm W) [] 135):: (bs, .cells (zj n f) [] 3):: (ba, .cells (zj n (zo pl (f i) i)) [] 3):: (bl, .cells (zj n bf) spb 3):: ([(bsp, .cells (zF w fr (zo to (bf (f i)) (to (bf (f i))+1)) fun _=>0) ssp 159)]++H)) Ks ?_
     exact⟨q - 1,by omega,i+1,w,_,_,_,_,_,by omega,hN, .inr ⟨bsp,csp,ssp,rfl,rfl,by rw[zbu],by rw[zbu] at hc⊢;exact hc⟩,rfl,rfl,rfl⟩
  ·obtain rfl:i=n:=by omega
   have hE:=hs1
   try simp only[zzs] at hE
   repeat(obtain⟨hx',hE⟩:=hE)
   repeat' first
    |with_reducible first|refine Nx.go ?_ |refine Bk.go (fun _=>?_) fun _=>?_ |refine Nb fun nb hnb hnb1 hnb2=>?_ |refine Nr fun nb nsp ncap hnb hncap hnb1 hnb2=>?_
    |simp -dsimp -implicitDefEqProofs (disch:=first|exact Kd|fail) only[go_sem,↓reduceIte,seval]
   exact Upd.now ⟨w,fr,to,pl,vsp,ks,hI.done hf,hks,rfl,rfl,rfl⟩
end Go.Proofs.YtomdbjfdbkejoaaGreatDoor
namespace Go.Proofs.YtomdbjfdbkejoaaGreatDoor
open Go Go.V Go.Proofs
def dlF (d:DfaT) (k s:Nat):Nat:=((d.next.getD s []).getD k 0).toNat
theorem ziY {d:DfaT} (hok:zc d) {s k:Nat} (hs:s<d.next.length) (hk:(k:Int) <d.width): ∃h1:k< (d.next[s]).length,(d.next[s])[k]=(dlF d k s:Int)∧dlF d k s<d.label.length:=by
 obtain⟨hk1,hk2,hk3,hk4,hk5,hk6,hk7⟩:=hok
 obtain⟨w1,w2,w3,w4⟩:=hk7 s hs Ko
 have hkl:k< (d.next[s]).length:=by omega
 have h5:=w4 (d.next[s])[k] (List.getElem_mem hkl)
 have e:dlF d k s=((d.next[s])[k]).toNat:=by
  unfold dlF
  rw[List.getD_eq_getElem?_getD (l:=d.next),List.getElem?_eq_getElem hs]
  show((d.next[s]).getD k 0).toNat=_
  rw[List.getD_eq_getElem?_getD,List.getElem?_eq_getElem hkl];rfl
 exact⟨hkl,by omega,by omega⟩
def zcc (dl:Nat→Nat) (m t:Nat):List Int:=((List.range m).filter fun s:Nat=>decide (dl s=t)).map fun s:Nat=>(s:Int)
theorem zt7 (dl:Nat→Nat) (m t:Nat):zcc dl (m+1) t=if dl m=t then zcc dl m t++[(m:Int)] else zcc dl m t:=by
 unfold zcc
 rw[List.range_succ,List.filter_append]
 by_cases h:dl m=t
 ·rw[if_pos h,List.filter_cons,if_pos (by simpa using h),List.map_append];rfl
 ·rw[if_neg h,List.filter_cons,if_neg (by simpa using h),List.filter_nil,List.append_nil]
theorem zv9 {dl:Nat→Nat} {m t:Nat} {x:Int}:x∈zcc dl m t↔ ∃s:Nat,s<m∧dl s=t∧x=s:=by
 unfold zcc
 simp only[List.mem_map,List.mem_filter,List.mem_range,decide_eq_true_eq]
 constructor
 ·rintro⟨s,⟨h1,h2⟩,h3⟩;exact⟨s,h1,h2,h3.symm⟩
 ·rintro⟨s,h1,h2,h3⟩;exact⟨s,⟨h1,h2⟩,h3.symm⟩
theorem zky (dl:Nat→Nat) (m t:Nat):(zcc dl m t).length≤m:=by
 unfold zcc
 rw[List.length_map]
 have:=List.length_filter_le (fun s=>decide (dl s=t)) (List.range m)
 rw[List.length_range] at this
 exact this
def zh4 (dl:Nat→Nat) (n m:Nat):List (List Value):=(List.range n).map fun t=>(zcc dl m t).map (Value.int .i64)
theorem zeT (dl:Nat→Nat) (n m:Nat):(zh4 dl n m).length=n:=by simp [zh4]
theorem zh5 {dl:Nat→Nat} {n m t:Nat} (h:t<n):(zh4 dl n m)[t]'(by rw[zeT];exact h)=(zcc dl m t).map (Value.int .i64):=by simp [zh4]
theorem zt8 (dl:Nat→Nat) (n:Nat):zh4 dl n 0=List.replicate n []:=by
 unfold zh4 zcc
 simp [List.map_const']
theorem zt9 {dl:Nat→Nat} {n m:Nat} (h:dl m<n):zh4 dl n (m+1)=(zh4 dl n m).set (dl m) ((zcc dl m (dl m)).map (Value.int .i64)++[.int .i64 (m:Nat)]):=by
 apply List.ext_getElem
 ·simp [zeT]
 ·intro t h1 h2
  rw[zeT] at h1
  rw[zh5 h1,zt7,List.getElem_set]
  by_cases e:dl m=t
  ·rw[if_pos e,if_pos e,List.map_append,e];rfl
  ·rw[if_neg e,if_neg e,zh5 h1]
def zjz (G:za) (n:Nat) (dl:Nat→Nat) (v:Value):Prop:= ∃a c rv,v= .slice a n c∧Row G a rv∧rv.length=n∧n≤c∧ ∀t (h:t<n) (h2:t<rv.length),Sl G (Value.int .i64) rv[t] (zcc dl n t)
theorem zjz.mono {G G':za} (hle:PLe G G') {n:Nat} {dl:Nat→Nat} {v:Value} (h:zjz G n dl v):zjz G' n dl v:=by
 obtain⟨a,c,rv,h1,h2,h3,h4,h5⟩:=h
 exact⟨a,c,rv,h1,h2.mono hle,h3,h4,fun t g1 g2=>(h5 t g1 g2).mono hle⟩
def BkT (G:za) (n W:Nat) (dl:Nat→Nat→Nat) (v:Value):Prop:= ∃a c rv,v= .slice a W c∧Row G a rv∧rv.length=W∧W≤c∧ ∀k (h:k<W) (h2:k<rv.length),zjz G n (dl k) rv[k]
theorem BkT.mono {G G':za} (hle:PLe G G') {n W:Nat} {dl:Nat→Nat→Nat} {v:Value} (h:BkT G n W dl v):BkT G' n W dl v:=by
 obtain⟨a,c,rv,h1,h2,h3,h4,h5⟩:=h
 exact⟨a,c,rv,h1,h2.mono hle,h3,h4,fun t g1 g2=>(h5 t g1 g2).mono hle⟩
set_option maxRecDepth 4000 in
theorem zAk {d:DfaT} (hsm:zx d) (hok:zc d) {C:List Value} {an al ay:Option Addr} {cn cl cs:Nat} {rs:List Value} {G:za} {H:zb} (O:OpenD G d C an al ay cn cl cs rs) {n W:Nat} (hnl:n=d.label.length) (hW:d.width=(W:Int)) (hW2:W≤256) {b1 bq bp bk:Nat} {vs va vb vsp vw vm:Value}:
  Tri Tryz.prog Tryz.f103.ntmps (piece [1,1,1,1,1,1,1,0] Tryz.f103) G [(1, .pointer (some ⟨b1,0,none⟩)),(3, .int .i64 (n:Nat)),(4, .pointer (some ⟨bq,0,none⟩))] ((b1, .cells C [] 27):: (bq, .cells [.pointer (some ⟨bp,0,none⟩)] [] 129):: (bp, .cells (PC vs va vb vsp (.slice (some ⟨bk,0,none⟩) W W) vw vm (W:Nat)) [] 135):: (bk, .cells (List.replicate W (.slice none 0 0)) [] 23)::H) (onlyN fun G' l H'=>
   ∃rk,PLe G G'∧rk.length=W∧(∀k (h:k<W) (h2:k<rk.length),zjz G' n (dlF d k) rk[k])∧zD [4] l=[(4, .pointer (some ⟨bq,0,none⟩))]∧H'=(b1, .cells C [] 27):: (bq, .cells [.pointer (some ⟨bp,0,none⟩)] [] 129):: (bp, .cells (PC vs va vb vsp (.slice (some ⟨bk,0,none⟩) W W) vw vm (W:Nat)) [] 135):: (bk, .cells rk [] 23)::H):=by
 obtain⟨hm1,hm2,hm3,hm4,hm5⟩:=id hsm
 obtain⟨hk1,hk2,hk3,hk4,hk5,hk6,hk7⟩:=id hok
 have hCl:=O.len
 have hCw:=O.w
 have hCn:=O.n
 have hrnl:=O.rnl
 have hr1: ∀x:Value,List.replicate 1 x=[x]:=fun _=>rfl
 refine Tri.sepT fun hs0=>?_
 have hE:=hs0
 try simp only[zzs] at hE
 repeat(obtain⟨hx',hE⟩:=hE)
 refine Tri.piece (f:=Tryz.f103) rfl ?_
 refine Tri.run tok [0,1,2,3,4,5,6,7,8,9,10,11,27,28,29,48,49,50,51,75,113,114,115,126,127,128,129] Kk ?_
 repeat' first
  |with_reducible first|refine Nx.go ?_ |refine Bk.go (fun _=>?_) fun _=>?_ |refine Nb fun nb hnb hnb1 hnb2=>?_ |refine Nr fun nb nsp ncap hnb hncap hnb1 hnb2=>?_
  |simp -dsimp -implicitDefEqProofs (disch:=first|exact Kd|fail) only[go_sem,↓reduceIte,seval, -List.reduceReplicate,hCl,hCw,hW]
 refine Tri.loopU tok [0,1,2,3,4,5,6,7,8,9,10,11,27,28,29,48,49,50,51,75,113,114,115,126,127,128,129] Kk [1,3,4,113,114] (fun q G' fr H'=> ∃ (k:Nat) (rk:List Value),k+q=W∧rk.length=W∧PLe G G'∧(∀j (h:j<k) (h2:j<rk.length),zjz G' n (dlF d j) rk[j])∧rk.all zaL=true∧H'=(b1, .cells C [] 27):: (bq, .cells [.pointer (some ⟨bp,0,none⟩)] [] 129):: (bp, .cells (PC vs va vb vsp (.slice (some ⟨bk,0,none⟩) W W) vw vm (W:Nat)) [] 135):: (bk, .cells rk [] 23)::H∧fr=[(1, .pointer (some ⟨b1,0,none⟩)),(3, .int .i64 (n:Nat)),(4, .pointer (some ⟨bq,0,none⟩)),(113, .int .i64 (W:Nat)),(114, .int .i64 (k:Nat))]) (W) ?_ ?_
 ·exact Upd.now ⟨0,_,by omega,List.length_replicate ..,PLe.refl _,fun j h=>by omega,by rw[List.all_replicate];simp [zaL],rfl,rfl⟩
 ·rintro q G1 fr H1 hle1 hs1 ⟨k,rk,hkq,hrk,hle01,hbk,hro,rfl,rfl⟩
  have O1:=O.mono hle01
  have hE:=hs1
  try simp only[zzs] at hE
  repeat(obtain⟨hx',hE⟩:=hE)
  by_cases hkW:k<W
  ·have hput: ∀v,zf rk k [v]=rk.set k v:=fun v=>zlf Ko v
   repeat' first
    |with_reducible first|refine Nx.go ?_ |refine Bk.go (fun _=>?_) fun _=>?_ |refine Nb fun nb hnb hnb1 hnb2=>?_ |refine Nr fun nb nsp ncap hnb hncap hnb1 hnb2=>?_
    |simp -dsimp -implicitDefEqProofs (disch:=first|exact Kd|fail) only[go_sem,↓reduceIte,seval, -List.reduceReplicate,hCl,hCw,hCn,hW,hput,hrk,Nat.sub_self,List.replicate_zero]
    |with_reducible refine Tri.drawS tok mixed [0,1,2,3,4,5,6,7,8,9,10,11,27,28,29,48,49,50,51,75,113,114,115,126,127,128,129] 22 [0,3] (.op 0 .held (.op 1 .plain (.op 2 .plain (.op 3 .held (.op 4 .plain (.op 5 .plain (.op 6 .keeps (.op 7 .plain (.op 8 .plain .nil))))))))) Kk [(bq, .cells [.pointer (some ⟨bp,0,none⟩)] [] 129),(bp, .cells (PC vs va vb vsp (.slice (some ⟨bk,0,none⟩) W W) vw vm (W:Nat)) [] 135)] Ks ?_
   obtain⟨bh,ebh⟩: ∃x,x=nb:=⟨_,rfl⟩
   subst ebh
   obtain⟨rk',hrk'⟩: ∃rk',rk'=rk.set k (.slice (some ⟨bh,0,none⟩) n n):=⟨_,rfl⟩
   have hrl:rk'.length=W:=by rw[hrk',List.length_set,hrk]
   have hro':rk'.all zaL=true:=by
    rw[List.all_eq_true] at hro⊢
    intro x hx
    rw[hrk'] at hx
    rcases List.mem_or_eq_of_mem_set hx with h|h
    ·exact hro x h
    ·rw[h];rfl
   have hrg:rk'[k]? =some (.slice (some ⟨bh,0,none⟩) n n):=by rw[hrk',List.getElem?_set_self Ko]
   have hrold: ∀j (h:j<k) (h2:j<rk'.length),rk'[j]=rk[j]'Ko:=fun j h h2=>by simp only[hrk'];rw[List.getElem_set_ne Ko]
   rw[←hrk']
   refine Tri.loopS tok [0,1,2,3,4,5,6,7,8,9,10,11,27,28,29,48,49,50,51,75,113,114,115,126,127,128,129] (.seq .run (.seq .run (.seq (.block (.seq .run .cut)) .run))) Kk [1,3,4,9,113,114,126,127,128] (fun q2 G' fr H'=> ∃ (s:Nat) (hv:List Value) (Fm:zb),s+q2=n∧PLe G1 G'∧zgg 3 hv (zh4 (dlF d k) n s) Fm∧H'=(bh, .cells hv [] 24):: (b1, .cells C [] 27):: (bq, .cells [.pointer (some ⟨bp,0,none⟩)] [] 129):: (bp, .cells (PC vs va vb vsp (.slice (some ⟨bk,0,none⟩) W W) vw vm (W:Nat)) [] 135):: (bk, .cells rk' [] 23):: (Fm++H)∧fr=[(1, .pointer (some ⟨b1,0,none⟩)),(3, .int .i64 (n:Nat)),(4, .pointer (some ⟨bq,0,none⟩)),(9, .int .i64 (k:Nat)),(113, .int .i64 (W:Nat)),(114, .int .i64 (k:Nat)),(126, .slice an d.next.length cn),(127, .int .i64 (d.next.length:Nat)),(128, .int .i64 (s:Nat))]) (n) ?_ ?_
   ·exact Upd.leave (H':=(bh, .cells (List.replicate n (.slice none 0 0)) [] 24):: (b1, .cells C [] 27):: (bq, .cells [.pointer (some ⟨bp,0,none⟩)] [] 129):: (bp, .cells (PC vs va vb vsp (.slice (some ⟨bk,0,none⟩) W W) vw vm (W:Nat)) [] 135):: (bk, .cells rk' [] 23):: ([]++H)) Ks ⟨0,_,[],by omega,PLe.refl _,by rw[zt8];exact zgg.zero 3 n,rfl,rfl⟩
   ·rintro q2 G2 fr H2 hle2 hs2 ⟨s,hv,Fm,hsq,hle12,hF,rfl,rfl⟩
    have O2:=O1.mono hle12
    have hhv:hv.length=n:=by have:=hF.lenv;rw[zeT] at this;exact this
    by_cases hsn:s<n
    ·have hx':s<d.next.length:=by omega
     obtain⟨h1,e1,e2⟩:=ziY hok hx' (k:=k) Ko
     obtain⟨t,ht⟩: ∃t,t=dlF d k s:=⟨_,rfl⟩
     have htn:t<n:=by omega
     have hsucc:=zt9 (dl:=dlF d k) (n:=n) (m:=s) Ko
     rw[←ht] at e1 hsucc
     obtain⟨kb,F',hk,hsum,hback⟩:=hF.out (i:=t) (by rw[zeT];exact htn)
     have hfg:=zh5 (dl:=dlF d k) (n:=n) (m:=s) htn
     rw[hfg] at hk
     have hgv:hv[t]? =some hv[t]:=List.getElem?_eq_getElem Ko
     obtain⟨b,c,r1,r2,r3⟩:=O2.rs s hx' Ko
     have hadb:Adr b:=r2.adr (by rw[List.length_map];omega)
     have hadn:Adr an:=O2.rn.adr Ko
     have hputv: ∀v,zf hv t [v]=hv.set t v:=fun v=>zlf Ko v
     have hpl:=zky (dlF d k) s t
     have hE:=hs2
     try simp only[zzs] at hE
     repeat(obtain⟨hx',hE⟩:=hE)
     repeat' first
      |with_reducible first|refine Nx.go ?_ |refine Bk.go (fun _=>?_) fun _=>?_ |refine Nb fun nb hnb hnb1 hnb2=>?_ |refine Nr fun nb nsp ncap hnb hncap hnb1 hnb2=>?_
      |simp -dsimp -implicitDefEqProofs (disch:=first|exact Kd|fail) only[go_sem,↓reduceIte,seval, -List.reduceReplicate,hCl,hCw,hCn,hW,Row.obj O2.rn,r1]
     refine Tri.upd (Upd.go (H':=(bh, .cells hv [] 24):: (b1, .cells C [] 27):: (bq, .cells [.pointer (some ⟨bp,0,none⟩)] [] 129):: (bp, .cells (PC vs va vb vsp (.slice (some ⟨bk,0,none⟩) W W) vw vm (W:Nat)) [] 135):: (bk, .cells rk' [] 23):: (kb++(F'++H))) (by intro fsum;have:=hsum fsum;simp only[List.map_append,List.map_cons,List.sum_append,List.sum_cons];omega) (Upd.now ?_))
     refine Tri.sepT fun hs3=>?_
     rcases hk with ⟨aa,ev,hx0,hx,rfl⟩| ⟨bx,cx,spx,ev,rfl,hx,hcx⟩
     ·rw[List.nil_append] at hs3⊢
      rw[ev] at hgv
      have hE:=hs3
      try simp only[zzs] at hE
      repeat(obtain⟨hx',hE⟩:=hE)
      refine Tri.run tok [0,1,2,3,4,5,6,7,8,9,10,11,27,28,29,48,49,50,51,75,113,114,115,126,127,128,129] Kk ?_
      repeat' first
       |with_reducible first|refine Nx.go ?_ |refine Bk.go (fun _=>?_) fun _=>?_ |refine Nb fun nb hnb hnb1 hnb2=>?_ |refine Nr fun nb nsp ncap hnb hncap hnb1 hnb2=>?_
       |simp -dsimp -implicitDefEqProofs (disch:=first|exact Kd|fail) only[go_sem,↓reduceIte,seval, -List.reduceReplicate,hrg,e1,Row.obj r2,List.getElem_map,hgv,hputv,hr1,hhv]
       |with_reducible refine Tri.drawS tok mixed [0,1,2,3,4,5,6,7,8,9,10,11,27,28,29,48,49,50,51,75,113,114,115,126,127,128,129] 26 [0,3,6,10,11,14,17,21,23] (.op 0 .held (.op 1 .plain (.op 2 .plain (.op 3 .held (.op 4 .plain (.op 5 .plain (.op 6 .held (.op 7 .plain (.op 8 .plain (.op 9 .plain (.op 10 .held (.op 11 .held (.op 12 .plain (.op 13 .plain (.op 14 .held (.op 15 .plain (.op 16 .plain (.op 17 .held (.op 18 .plain (.op 19 .plain (.op 20 .plain (.op 21 .held (.op 22 .plain (.op 23 .held (.op 24 .plain (.op 25 .keeps (.op 26 .keeps (.op 27 .plain (.op 28 .plain .nil))))))))))))))))))))))))))))) Kk [(bq, .cells [.pointer (some ⟨bp,0,none⟩)] [] 129),(bp, .cells (PC vs va vb vsp (.slice (some ⟨bk,0,none⟩) W W) vw vm (W:Nat)) [] 135),(bk, .cells rk' [] 23),(bh, .cells hv [] 24)] Ks ?_
      obtain⟨F'',hF2,hsum2⟩:=hback (.slice (some ⟨nb,0,none⟩) 1 ncap) [.int .i64 (s:Nat)] [(nb, .cells [.int .i64 (s:Nat)] nsp 3)] (.inr ⟨nb,ncap,nsp,rfl,rfl,rfl,by simp at hncap⊢;omega⟩)
      rw[hx,List.nil_append] at hsucc
      rw[←hsucc] at hF2
      refine Upd.leave (H':=(bh, .cells (hv.set t (.slice (some ⟨nb,0,none⟩) 1 ncap)) [] 24):: (b1, .cells C [] 27):: (bq, .cells [.pointer (some ⟨bp,0,none⟩)] [] 129):: (bp, .cells (PC vs va vb vsp (.slice (some ⟨bk,0,none⟩) W W) vw vm (W:Nat)) [] 135):: (bk, .cells rk' [] 23):: (F''++H)) (by intro fsum;have:=hsum2 fsum;simp only[List.map_append,List.map_cons,List.map_nil,List.sum_append,List.sum_cons,List.sum_nil] at this⊢;omega) ?_
      exact⟨q2 - 1,by omega,s+1,_,F'',by omega,hle12,hF2,rfl,rfl⟩
     ·rw[ev] at hgv
      rw[List.length_map,Nat.mul_one] at hx hcx
      have hx:=hx
      have hE:=hs3
      try simp only[zzs] at hE
      repeat(obtain⟨hx',hE⟩:=hE)
      refine Tri.run tok [0,1,2,3,4,5,6,7,8,9,10,11,27,28,29,48,49,50,51,75,113,114,115,126,127,128,129] Kk ?_
      repeat' first
       |with_reducible first|refine Nx.go ?_ |refine Bk.go (fun _=>?_) fun _=>?_ |refine Nb fun nb hnb hnb1 hnb2=>?_ |refine Nr fun nb nsp ncap hnb hncap hnb1 hnb2=>?_
       |simp -dsimp -implicitDefEqProofs (disch:=first|exact Kd|fail) only[go_sem,↓reduceIte,seval, -List.reduceReplicate,hrg,e1,Row.obj r2,List.getElem_map,hgv,hputv,hr1,hhv,List.length_map]
       |with_reducible refine Tri.drawS tok mixed [0,1,2,3,4,5,6,7,8,9,10,11,27,28,29,48,49,50,51,75,113,114,115,126,127,128,129] 26 [0,3,6,10,11,14,17,21,23] (.op 0 .held (.op 1 .plain (.op 2 .plain (.op 3 .held (.op 4 .plain (.op 5 .plain (.op 6 .held (.op 7 .plain (.op 8 .plain (.op 9 .plain (.op 10 .held (.op 11 .held (.op 12 .plain (.op 13 .plain (.op 14 .held (.op 15 .plain (.op 16 .plain (.op 17 .held (.op 18 .plain (.op 19 .plain (.op 20 .plain (.op 21 .held (.op 22 .plain (.op 23 .held (.op 24 .plain (.op 25 .keeps (.op 26 .keeps (.op 27 .plain (.op 28 .plain .nil))))))))))))))))))))))))))))) Kk [(bq, .cells [.pointer (some ⟨bp,0,none⟩)] [] 129),(bp, .cells (PC vs va vb vsp (.slice (some ⟨bk,0,none⟩) W W) vw vm (W:Nat)) [] 135),(bk, .cells rk' [] 23),(bh, .cells hv [] 24)] Ks ?_
      obtain⟨F'',hF2,hsum2⟩:=hback (.slice (some ⟨nb,0,none⟩) ((zcc (dlF d k) s t).length+1) ncap) ((zcc (dlF d k) s t).map (Value.int .i64)++[.int .i64 (s:Nat)]) [(nb, .cells ((zcc (dlF d k) s t).map (Value.int .i64)++[.int .i64 (s:Nat)]) nsp 3)] (.inr ⟨nb,ncap,nsp,by rw[List.length_append,List.length_map];rfl,rfl,by simp,by simp at hncap⊢;omega⟩)
      rw[←hsucc] at hF2
      refine Upd.leave (H':=(bh, .cells (hv.set t (.slice (some ⟨nb,0,none⟩) ((zcc (dlF d k) s t).length+1) ncap)) [] 24):: (b1, .cells C [] 27):: (bq, .cells [.pointer (some ⟨bp,0,none⟩)] [] 129):: (bp, .cells (PC vs va vb vsp (.slice (some ⟨bk,0,none⟩) W W) vw vm (W:Nat)) [] 135):: (bk, .cells rk' [] 23):: (F''++H)) (by intro fsum;have:=hsum2 fsum;simp only[List.map_append,List.map_cons,List.map_nil,List.sum_append,List.sum_cons,List.sum_nil] at this⊢;omega) ?_
      exact⟨q2 - 1,by omega,s+1,_,F'',by omega,hle12,hF2,rfl,rfl⟩
    ·obtain rfl:s=n:=by omega
     have hE:=hs2
     try simp only[zzs] at hE
     repeat(obtain⟨hx',hE⟩:=hE)
     repeat' first
      |with_reducible first|refine Nx.go ?_ |refine Bk.go (fun _=>?_) fun _=>?_ |refine Nb fun nb hnb hnb1 hnb2=>?_ |refine Nr fun nb nsp ncap hnb hncap hnb1 hnb2=>?_
      |simp -dsimp -implicitDefEqProofs (disch:=first|exact Kd|fail) only[go_sem,↓reduceIte,seval, -List.reduceReplicate,hCl]
     refine Upd.go (H':=Fm++((bh, .cells hv [] 24):: (b1, .cells C [] 27):: (bq, .cells [.pointer (some ⟨bp,0,none⟩)] [] 129):: (bp, .cells (PC vs va vb vsp (.slice (some ⟨bk,0,none⟩) W W) vw vm (W:Nat)) [] 135):: (bk, .cells rk' [] 23)::H)) Ks (Upd.sepI fun hx'=>Upd.trans (hF.share hx' fun G3 hle3 hs3 hall=>?_))
     refine Upd.shareRow hs3.1.1 fun G4 hle4 hs4 hr4=>?_
     have k4:=hle12.trans (hle3.trans hle4)
     refine⟨q - 1,by omega,k+1,rk',by omega,hrl,hle01.trans k4,fun j hj h2=>?_,hro',rfl,rfl⟩
     rcases Nat.lt_or_ge j k with g|g
     ·rw[hrold j g h2]
      exact(hbk j g Ko).mono k4
     ·obtain rfl:j=k:=by omega
      have hrg2:rk'[j]= .slice (some ⟨bh,0,none⟩) s s:=by
       rw[List.getElem?_eq_getElem h2,Option.some.injEq] at hrg;exact hrg
      rw[hrg2]
      refine⟨_,s,hv,rfl,hr4,hhv,Nat.le_refl _,fun t ht h3=>?_⟩
      obtain⟨a,c,g1,g2,g3⟩:=hall t (by rw[zeT];exact ht) h3
      rw[zh5 ht] at g1 g2 g3
      rw[List.length_map] at g1 g3
      exact⟨a,c,g1,g2.mono hle4,g3⟩
  ·obtain rfl:k=W:=by omega
   repeat' first
    |with_reducible first|refine Nx.go ?_ |refine Bk.go (fun _=>?_) fun _=>?_ |refine Nb fun nb hnb hnb1 hnb2=>?_ |refine Nr fun nb nsp ncap hnb hncap hnb1 hnb2=>?_
    |simp -dsimp -implicitDefEqProofs (disch:=first|exact Kd|fail) only[go_sem,↓reduceIte,seval]
   exact Upd.now ⟨rk,hle01,hrk,fun j h h2=>hbk j h h2,rfl,rfl⟩
end Go.Proofs.YtomdbjfdbkejoaaGreatDoor
