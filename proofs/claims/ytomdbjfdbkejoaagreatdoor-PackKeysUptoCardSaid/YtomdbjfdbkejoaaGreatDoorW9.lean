/- A part of the proof, joined of several texts: the verification layer, contracts of functions, plain law. -/
import Derived.Test.YtomdbjfdbkejoaaGreatDoorW8
set_option maxHeartbeats 64000000
set_option linter.unusedSimpArgs false
set_option linter.unusedVariables false
set_option linter.unusedSectionVars false
namespace Go.Proofs.YtomdbjfdbkejoaaGreatDoor
open Go Go.V Go.Proofs
set_option maxRecDepth 4000 in
theorem zp2 {d:DfaT} (hsm:zx d) (hok:zc d) {n W:Nat} (hnl:n=d.label.length) (hW:d.width=(W:Int)) (hW2:W≤256) {G:za} {H:zb} {R:Value→za→zb→Prop} {v:Value} (hv:IsD G d v)
  (hR: ∀G' bp bs ba bl bm cb spb vsp ks vk st pl nb fr to,PLe G G'→n≤cb→PInv n nb st pl (blF d.label) fr to (fun _=>0)→zS [] 159 3 vsp nb (zF nb fr to fun _=>0) ks→BkT G' n W (dlF d) vk→R (.pointer (some ⟨bp,0,none⟩)) G' ((bp, .cells (PC (.slice (some ⟨bs,0,none⟩) n n) (.slice (some ⟨ba,0,none⟩) n n) (.slice (some ⟨bl,0,none⟩) n cb) vsp vk (.slice none 0 0) (.map (some bm)) (W:Nat)) [] 135):: (bs, .cells (zj n st) [] 3):: (ba, .cells (zj n pl) [] 3):: (bl, .cells (zj n (blF d.label)) spb 3):: (bm, .map []):: (ks++H))):FnT Tryz.prog 103 [v] G H R:=by
 obtain⟨C,an,al,ay,cn,cl,cs,rs,rfl,O⟩:=hv.opened
 obtain⟨hm1,hm2,hm3,hm4,hm5⟩:=id hsm
 obtain⟨hk1,hk2,hk3,hk4,hk5,hk6,hk7⟩:=id hok
 have hCl:=O.len
 have hCa:=O.all
 have hCx:=O.l
 have hCw:=O.w
 refine FnT.bodyS tok [0,1,2,3,4,5,6,7,8,9,10,11,27,28,29,48,49,50,51,75,113,114,115,126,127,128,129] (.seq .run (.seq .run (.seq .cut (.seq .cut (.seq .cut (.seq .cut (.seq .cut (.seq .cut .cut)))))))) Tryz.func103 rfl Kk Kk (by show _≤164;simp) fun hsep=>?_
 rw[Tryz.results103]
 have hE:=hsep
 try simp only[zzs] at hE
 repeat(obtain⟨hx',hE⟩:=hE)
 repeat' first
  |with_reducible first|refine Nx.go ?_ |refine Bk.go (fun _=>?_) fun _=>?_ |refine Nb fun nb hnb hnb1 hnb2=>?_ |refine Nr fun nb nsp ncap hnb hncap hnb1 hnb2=>?_
  |simp -dsimp -implicitDefEqProofs (disch:=first|exact Kd|fail) only[go_sem,↓reduceIte,seval, -List.reduceReplicate,List.toList_toArray,hCl,hCa,hCx]
 obtain⟨b1,e10⟩: ∃x,x=nb:=⟨_,rfl⟩
 subst e10
 refine Tri.live [1,2,3] ?_
 refine Tri.isPiece [1,1,0] Tryz.f103 Kk ?_
 refine Tri.onlyN (zAg hsm O) fun G2 l2 H2 hle2 hs2 hM=>?_
 obtain⟨bq,bp,bs,ba,bm,vb,kb,hO,rfl,hfr,rfl⟩:=hM
 rcases hO with ⟨_,_,h0,_,_⟩| ⟨bl,cb,spb,rfl,rfl,hx,hcb⟩
 ·omega
 have hncb:n≤cb:=by rw[List.length_map,zr] at hx hcb;omega
 simp only[go_sem]
 refine Tri.live [1,3,4] ?_
 rw[hfr,hW]
 rw[ztV,zx8,←hnl]
 refine Tri.upd (Upd.go (H':=(bq, .cells [.pointer (some ⟨bp,0,none⟩)] [] 129):: (bp, .cells (PC (.slice (some ⟨bs,0,none⟩) n n) (.slice (some ⟨ba,0,none⟩) n n) (.slice (some ⟨bl,0,none⟩) n cb) (.slice none 0 0) (.slice none 0 0) (.slice none 0 0) (.map (some bm)) (W:Nat)) [] 135):: (bs, .cells (zj n fun _=>0) [] 3):: ((ba, .cells (zj n fun _=>0) [] 3):: (bl, .cells (zj n (blF d.label)) spb 3):: (bm, .map []):: (b1, .cells C [] 27)::H)) Ks (Upd.now ?_))
 refine Tri.isPiece [1,1,1,0] Tryz.f103 Kk ?_
 refine Tri.onlyN (zAh Ko) fun G3 l3 H3 hle3 hs3 hM=>?_
 obtain⟨rfl,hfr3,rfl⟩:=hM
 simp only[go_sem]
 refine Tri.live [1,3,4] ?_
 rw[hfr3]
 refine Tri.sepT fun hs4=>?_
 have hs4':=hs4
 have hE:=hs4
 try simp only[zzs] at hE
 repeat(obtain⟨hx',hE⟩:=hE)
 refine Tri.run tok [0,1,2,3,4,5,6,7,8,9,10,11,27,28,29,48,49,50,51,75,113,114,115,126,127,128,129] Kk ?_
 repeat' first
  |with_reducible first|refine Nx.go ?_ |refine Bk.go (fun _=>?_) fun _=>?_ |refine Nb fun nb hnb hnb1 hnb2=>?_ |refine Nr fun nb nsp ncap hnb hncap hnb1 hnb2=>?_
  |simp -dsimp -implicitDefEqProofs (disch:=first|exact Kd|fail) only[go_sem,↓reduceIte,seval]
 have hcmp:=zAi (n:=n) Ko (bq:=bq) (bp:=bp) (bl:=bl) (cb:=cb) (spb:=spb) (W:=(W:Int)) (vs:= .slice (some ⟨bs,0,none⟩) n n) (va:= .slice (some ⟨ba,0,none⟩) n n) (vsp:= .slice none 0 0) (vk:= .slice none 0 0) (vw:= .slice none 0 0) (vm:= .map (some bm)) (bf:=blF d.label) (fun s hs=>by have:=zt6 (l:=d.label) (s:=s) Ko;omega) (sp:=[]) (bs:=bs) (G:=G3) (H:=(ba, .cells (zj n fun _=>0) [] 3):: (bm, .map []):: (b1, .cells C [] 27)::H) ?hsp
 case hsp=>
  simp only[zbl,zhN,zbc]
  repeat' first
   |assumption
   | (apply Ne.symm;assumption)
   |with_reducible refine And.intro ?_ ?_
 refine FnT.upd (FnT.leave (H':=(bs, .cells (zj n fun i=>i) [] 3):: (bq, .cells [.pointer (some ⟨bp,0,none⟩)] [] 129):: (bp, .cells (PC (.slice (some ⟨bs,0,none⟩) n n) (.slice (some ⟨ba,0,none⟩) n n) (.slice (some ⟨bl,0,none⟩) n cb) (.slice none 0 0) (.slice none 0 0) (.slice none 0 0) (.map (some bm)) (W:Nat)) [] 135):: (bl, .cells (zj n (blF d.label)) spb 3):: ((ba, .cells (zj n fun _=>0) [] 3):: (bm, .map []):: (b1, .cells C [] 27)::H)) (zoG Ko (fun i hi=>hi) hcmp fun f hrea hsrt=>?_) Ks)
 refine Upd.go (H':=(bq, .cells [.pointer (some ⟨bp,0,none⟩)] [] 129):: (bp, .cells (PC (.slice (some ⟨bs,0,none⟩) n n) (.slice (some ⟨ba,0,none⟩) n n) (.slice (some ⟨bl,0,none⟩) n cb) (.slice none 0 0) (.slice none 0 0) (.slice none 0 0) (.map (some bm)) (W:Nat)) [] 135):: (bs, .cells (zj n f) [] 3):: (ba, .cells (zj n fun _=>0) [] 3):: (bl, .cells (zj n (blF d.label)) spb 3):: ((bm, .map []):: (b1, .cells C [] 27)::H)) Ks (Upd.now ?_)
 repeat' first
  |with_reducible first|refine Nx.go ?_ |refine Bk.go (fun _=>?_) fun _=>?_ |refine Nb fun nb hnb hnb1 hnb2=>?_ |refine Nr fun nb nsp ncap hnb hncap hnb1 hnb2=>?_
  |simp -dsimp -implicitDefEqProofs (disch:=first|exact Kd|fail) only[go_sem,↓reduceIte,seval]
 have hbij:zks n f:=zks.rea (f:=fun i=>i) ⟨fun i=>i,fun i hi=>⟨hi,rfl⟩,fun s hs=>⟨hs,rfl⟩⟩ hrea
 refine Tri.live [1,3,4] ?_
 refine Tri.isPiece [1,1,1,1,1,0] Tryz.f103 Kk ?_
 refine Tri.onlyN (zAj Ko hbij hsrt (fun s hs=>by have:=zt6 (l:=d.label) (s:=s) Ko;omega) (fun j v hj hv=>by
  obtain⟨p,g1,g2⟩:=hbij
  obtain⟨t,h1,h2⟩:=zv8 (l:=d.label) (s:=f j) (by have:=(g1 j hj).1;omega) hv
  exact⟨p t,(g2 t Ko).1,by rw[(g2 t Ko).2];exact h2⟩)) fun G5 l5 H5 hle5 hs5 hM=>?_
 obtain⟨w,fr,to,pl,vsp,ks,hP,hks,rfl,hfr5,rfl⟩:=hM
 simp only[go_sem]
 refine Tri.live [1,3,4] ?_
 rw[hfr5]
 refine Tri.upd (Upd.go (H':=(bq, .cells [.pointer (some ⟨bp,0,none⟩)] [] 129):: (bp, .cells (PC (.slice (some ⟨bs,0,none⟩) n n) (.slice (some ⟨ba,0,none⟩) n n) (.slice (some ⟨bl,0,none⟩) n cb) vsp (.slice none 0 0) (.slice none 0 0) (.map (some bm)) (W:Nat)) [] 135):: (b1, .cells C [] 27):: (bs, .cells (zj n f) [] 3):: (ba, .cells (zj n pl) [] 3):: (bl, .cells (zj n (blF d.label)) spb 3):: (bm, .map []):: (ks++H)) Ks (Upd.now ?_))
 refine Tri.sepT fun hs6=>?_
 have hE:=hs6
 try simp only[zzs] at hE
 repeat(obtain⟨hx',hE⟩:=hE)
 refine Tri.run tok [0,1,2,3,4,5,6,7,8,9,10,11,27,28,29,48,49,50,51,75,113,114,115,126,127,128,129] Kk ?_
 repeat' first
  |with_reducible first|refine Nx.go ?_ |refine Bk.go (fun _=>?_) fun _=>?_ |refine Nb fun nb hnb hnb1 hnb2=>?_ |refine Nr fun nb nsp ncap hnb hncap hnb1 hnb2=>?_
  |simp -dsimp -implicitDefEqProofs (disch:=first|exact Kd|fail) only[go_sem,↓reduceIte,seval, -List.reduceReplicate,hCl,hCw,hW,Nat.sub_self,List.replicate_zero]
  |with_reducible refine Tri.drawS tok mixed [0,1,2,3,4,5,6,7,8,9,10,11,27,28,29,48,49,50,51,75,113,114,115,126,127,128,129] 18 [0,2] (.op 0 .held (.op 1 .plain (.op 2 .held (.op 3 .keeps (.op 4 .plain (.op 5 .plain (.op 6 .plain .nil))))))) Kk [(bq, .cells [.pointer (some ⟨bp,0,none⟩)] [] 129),(b1, .cells C [] 27)] Ks ?_
 obtain⟨bk,ebk⟩: ∃x,x=nb:=⟨_,rfl⟩
 subst ebk
 refine Tri.live [1,3,4] ?_
 refine Tri.upd (Upd.go (H':=(b1, .cells C [] 27):: (bq, .cells [.pointer (some ⟨bp,0,none⟩)] [] 129):: (bp, .cells (PC (.slice (some ⟨bs,0,none⟩) n n) (.slice (some ⟨ba,0,none⟩) n n) (.slice (some ⟨bl,0,none⟩) n cb) vsp (.slice (some ⟨bk,0,none⟩) W W) (.slice none 0 0) (.map (some bm)) (W:Nat)) [] 135):: (bk, .cells (List.replicate W (.slice none 0 0)) [] 23):: ((bs, .cells (zj n f) [] 3):: (ba, .cells (zj n pl) [] 3):: (bl, .cells (zj n (blF d.label)) spb 3):: (bm, .map []):: (ks++H))) Ks (Upd.now ?_))
 refine Tri.isPiece [1,1,1,1,1,1,1,0] Tryz.f103 Kk ?_
 refine Tri.onlyN (zAk hsm hok (O.mono hle2) hnl hW hW2) fun G7 l7 H7 hle7 hs7 hM=>?_
 obtain⟨rk,hle57,hrk,hbk,hfr7,rfl⟩:=hM
 simp only[go_sem]
 refine Tri.live [4] ?_
 rw[hfr7]
 refine Tri.upd (Upd.go (H':=(bk, .cells rk [] 23):: (bq, .cells [.pointer (some ⟨bp,0,none⟩)] [] 129):: (bp, .cells (PC (.slice (some ⟨bs,0,none⟩) n n) (.slice (some ⟨ba,0,none⟩) n n) (.slice (some ⟨bl,0,none⟩) n cb) vsp (.slice (some ⟨bk,0,none⟩) W W) (.slice none 0 0) (.map (some bm)) (W:Nat)) [] 135):: (bs, .cells (zj n f) [] 3):: (ba, .cells (zj n pl) [] 3):: (bl, .cells (zj n (blF d.label)) spb 3):: (bm, .map []):: (ks++H)) Ks (Upd.sepI fun hs8=>Upd.shareRow hs8.1.1 fun G8 hle8 hs9 hr8=>?_))
 have hE:=hs9
 try simp only[zzs] at hE
 repeat(obtain⟨hx',hE⟩:=hE)
 refine Tri.run tok [0,1,2,3,4,5,6,7,8,9,10,11,27,28,29,48,49,50,51,75,113,114,115,126,127,128,129] Kk ?_
 repeat' first
  |with_reducible first|refine Nx.go ?_ |refine Bk.go (fun _=>?_) fun _=>?_ |refine Nb fun nb hnb hnb1 hnb2=>?_ |refine Nr fun nb nsp ncap hnb hncap hnb1 hnb2=>?_
  |simp -dsimp -implicitDefEqProofs (disch:=first|exact Kd|fail) only[go_sem,↓reduceIte,seval]
 unfold zv
 refine Upd.leave (H':=(bp, .cells (PC (.slice (some ⟨bs,0,none⟩) n n) (.slice (some ⟨ba,0,none⟩) n n) (.slice (some ⟨bl,0,none⟩) n cb) vsp (.slice (some ⟨bk,0,none⟩) W W) (.slice none 0 0) (.map (some bm)) (W:Nat)) [] 135):: (bs, .cells (zj n f) [] 3):: (ba, .cells (zj n pl) [] 3):: (bl, .cells (zj n (blF d.label)) spb 3):: (bm, .map []):: (ks++H)) Ks ?_
 exact hR G8 bp bs ba bl bm cb spb vsp ks _ f pl w fr to (hle2.trans (hle57.trans hle8)) hncb hP hks ⟨_,W,rk,rfl,hr8,hrk,Nat.le_refl _,fun k h h2=>(hbk k h h2).mono hle8⟩
end Go.Proofs.YtomdbjfdbkejoaaGreatDoor
namespace Go.Proofs.YtomdbjfdbkejoaaGreatDoor
open Go Go.V Go.Proofs
theorem zua {n:Nat} {fr to mk:Nat→Nat} {sp:List Value} {i:Nat} (hi:i<n):List.take 3 (List.drop (i * 3) (zF n fr to mk++sp))=[.int .i64 (fr i:Nat), .int .i64 (to i:Nat), .int .i64 (mk i:Nat)]:=by
 have hl:(zF n fr to mk++sp).length≥n * 3:=by rw[List.length_append,zbu];omega
 apply List.ext_getElem?
 intro j
 rw[List.getElem?_take]
 by_cases hj:j<3
 ·rw[if_pos hj,List.getElem?_drop,zh2 hi hj];rfl
 ·rw[if_neg hj,List.getElem?_eq_none (by simp;omega)]
theorem zoH {n w:Nat} {st pl bf fr to mk:Nat→Nat} (hP:PInv n w st pl bf fr to mk) (hn:n≤70000) {bp bs bx csp:Nat} {spx:List Value} {va vb vk vw vm:Value} {W:Int} {b:Nat} (hb:b<w) {G:za} {H:zb} {R:Value→za→zb→Prop}
  (hR:R (.slice (some ⟨bs,fr b,none⟩) (to b - fr b) (to b - fr b)) G ((bp, .cells (PC (.slice (some ⟨bs,0,none⟩) n n) va vb (.slice (some ⟨bx,0,none⟩) w csp) vk vw vm W) [] 135):: (bx, .cells (zF w fr to mk) spx 159)::H)):FnT Tryz.prog 133 [.pointer (some ⟨bp,0,none⟩), .int .i64 (b:Nat)] G ((bp, .cells (PC (.slice (some ⟨bs,0,none⟩) n n) va vb (.slice (some ⟨bx,0,none⟩) w csp) vk vw vm W) [] 135):: (bx, .cells (zF w fr to mk) spx 159)::H) R:=by
 have h1:=hP.ne b hb
 have h2:=hP.le b hb
 have hw:=hP.nb_le
 have g0:=zls (fr:=fr) (to:=to) (mk:=mk) (sp:=spx) hb
 have g1:=zhp (fr:=fr) (to:=to) (mk:=mk) (sp:=spx) hb
 have g2:=zlt (fr:=fr) (to:=to) (mk:=mk) (sp:=spx) hb
 have e1:((to b:Nat):Int) - ((fr b:Nat):Int)=((to b - fr b:Nat):Int):=by omega
 have hrt:=zua (fr:=fr) (to:=to) (mk:=mk) (sp:=spx) hb
 refine FnT.body tok [0,1,4,5] Tryz.func133 rfl Kk Kk (by show _≤24;simp) fun hsep=>?_
 rw[Tryz.results133]
 have hE:=hsep
 try simp only[zzs] at hE
 repeat(obtain⟨hx',hE⟩:=hE)
 repeat' first
  |with_reducible first|refine Nx.go ?_ |refine Bk.go (fun _=>?_) fun _=>?_ |refine Nb fun nb hnb hnb1 hnb2=>?_
  |simp -dsimp -implicitDefEqProofs (disch:=first|exact Kd|fail) only[go_sem,↓reduceIte,seval,g0,g1,g2,e1,hrt]
  |with_reducible refine Tri.drawS tok mixed [0,1,4,5] 2 [3,5,7,9] (.op 0 .plain (.op 1 .plain (.op 2 .plain (.op 3 .held (.op 4 .plain (.op 5 .held (.op 6 .plain (.op 7 .held (.op 8 .plain (.op 9 .held (.op 10 .plain (.op 11 .plain .nil)))))))))))) Kk [(bp, .cells (PC (.slice (some ⟨bs,0,none⟩) n n) va vb (.slice (some ⟨bx,0,none⟩) w csp) vk vw vm W) [] 135),(nb, .cells [.int .i64 (fr b:Nat), .int .i64 (to b:Nat), .int .i64 (mk b:Nat)] [] 159)] Ks ?_
 refine⟨rfl,?_⟩
 all_goals refine Upd.finL ?_ hR ?_
 any_goals first|exact Ks|skip
 rfl
theorem zoI {n w:Nat} {st pl bf fr to mk:Nat→Nat} (hP:PInv n w st pl bf fr to mk) (hn:n≤70000) {bp bs ba bl bx cb csp:Nat} {spb spx:List Value} {vk vw vm:Value} {W:Int} {s:Nat} (hs:s<n) {G:za} {H:zb} {R:Value→za→zb→Prop}
  (hR: ∀r st' pl' mk',PInv n w st' pl' bf fr to mk'→(∀x,x<n→(Mkd pl' bf fr mk' x↔Mkd pl bf fr mk x∨x=s))→(∀b,b≠bf s→mk' b=mk b)→1≤mk' (bf s)→R (.bool r) G ((bp, .cells (PC (.slice (some ⟨bs,0,none⟩) n n) (.slice (some ⟨ba,0,none⟩) n n) (.slice (some ⟨bl,0,none⟩) n cb) (.slice (some ⟨bx,0,none⟩) w csp) vk vw vm W) [] 135):: (bx, .cells (zF w fr to mk') spx 159):: (bs, .cells (zj n st') [] 3):: (ba, .cells (zj n pl') [] 3):: (bl, .cells (zj n bf) spb 3)::H)):
  FnT Tryz.prog 134 [.pointer (some ⟨bp,0,none⟩), .int .i64 (s:Nat)] G ((bp, .cells (PC (.slice (some ⟨bs,0,none⟩) n n) (.slice (some ⟨ba,0,none⟩) n n) (.slice (some ⟨bl,0,none⟩) n cb) (.slice (some ⟨bx,0,none⟩) w csp) vk vw vm W) [] 135):: (bx, .cells (zF w fr to mk) spx 159):: (bs, .cells (zj n st) [] 3):: (ba, .cells (zj n pl) [] 3):: (bl, .cells (zj n bf) spb 3)::H) R:=by
 have hb:=hP.bl_lt s hs
 have hlo:=hP.lo s hs
 have hhi:=hP.hi s hs
 have hle:=hP.le _ hb
 have hmk:=hP.mk_le _ hb
 have hps:=hP.pl_lt s hs
 have hw:=hP.nb_le
 have gb:=zaV bf (sp:=spb) hs
 have ga:=zdN pl hs
 have g0:=zls (fr:=fr) (to:=to) (mk:=mk) (sp:=spx) hb
 have g2:=zlt (fr:=fr) (to:=to) (mk:=mk) (sp:=spx) hb
 have e1:((fr (bf s):Nat):Int)+((mk (bf s):Nat):Int)=((fr (bf s)+mk (bf s):Nat):Int):=by omega
 by_cases hm:Mkd pl bf fr mk s
 ·unfold Mkd at hm
  refine FnT.body tok [0,1,4,5,6,7,37] Tryz.func134 rfl Kk Kk (by show _≤92;simp) fun hsep=>?_
  rw[Tryz.results134]
  have hE:=hsep
  try simp only[zzs] at hE
  repeat(obtain⟨hx',hE⟩:=hE)
  repeat' first
   |with_reducible first|refine Nx.go ?_ |refine Bk.go (fun _=>?_) fun _=>?_ |refine Nb fun nb hnb hnb1 hnb2=>?_
   |simp -dsimp -implicitDefEqProofs (disch:=first|exact Kd|fail) only[go_sem,↓reduceIte,seval,gb,ga,g0,g2,e1]
   |with_reducible refine Tri.drawS tok mixed [0,1,4,5,6,7,37] 1 [3,7,10] (.op 0 .plain (.op 1 .plain (.op 2 .plain (.op 3 .held (.op 4 .plain (.op 5 .plain (.op 6 .plain (.op 7 .held (.op 8 .plain (.op 9 .plain (.op 10 .held (.op 11 .plain (.op 12 .plain .nil))))))))))))) Kk [(bp, .cells (PC (.slice (some ⟨bs,0,none⟩) n n) (.slice (some ⟨ba,0,none⟩) n n) (.slice (some ⟨bl,0,none⟩) n cb) (.slice (some ⟨bx,0,none⟩) w csp) vk vw vm W) [] 135),(bl, .cells (zj n bf) spb 3)] Ks ?_
   |with_reducible refine Tri.drawS tok mixed [0,1,4,5,6,7,37] 2 [3,7] (.op 0 .plain (.op 1 .plain (.op 2 .plain (.op 3 .held (.op 4 .plain (.op 5 .plain (.op 6 .plain (.op 7 .held (.op 8 .plain (.op 9 .plain .nil)))))))))) Kk [(bx, .cells (zF w fr to mk) spx 159)] Ks ?_
  exact Upd.now (hR false st pl mk hP (fun x _=>⟨.inl,fun h=>h.elim id fun e=>by rw[e];exact hm⟩) (fun _ _=>rfl) Ko)
 ·have hmark:=hP.mark hs hm
  unfold Mkd at hm
  have hpl:fr (bf s)+mk (bf s) <n:=by omega
  have hst:=hP.st_lt _ hpl
  have gs:=zdN st hpl
  have p1:=zbg st hpl s
  have p2:=zbg (zo st (fr (bf s)+mk (bf s)) s) hps (st (fr (bf s)+mk (bf s)))
  have p3:=zbg pl hst (pl s)
  have p4:=zbg (zo pl (st (fr (bf s)+mk (bf s))) (pl s)) hs (fr (bf s)+mk (bf s))
  have p5:=zt4 (fr:=fr) (to:=to) (mk:=mk) hb (mk (bf s)+1)
  have e2:((mk (bf s):Nat):Int)+1=((mk (bf s)+1 :Nat):Int):=rfl
  refine FnT.body tok [0,1,4,5,6,7,37] Tryz.func134 rfl Kk Kk (by show _≤92;simp) fun hsep=>?_
  rw[Tryz.results134]
  have hE:=hsep
  try simp only[zzs] at hE
  repeat(obtain⟨hx',hE⟩:=hE)
  repeat' first
   |with_reducible first|refine Nx.go ?_ |refine Bk.go (fun _=>?_) fun _=>?_ |refine Nb fun nb hnb hnb1 hnb2=>?_
   |simp -dsimp -implicitDefEqProofs (disch:=first|exact Kd|fail) only[go_sem,↓reduceIte,seval,gb,ga,gs,g0,g2,e1,e2,p1,p2,p3,p4,p5]
   |with_reducible refine Tri.drawS tok mixed [0,1,4,5,6,7,37] 1 [3,7,10] (.op 0 .plain (.op 1 .plain (.op 2 .plain (.op 3 .held (.op 4 .plain (.op 5 .plain (.op 6 .plain (.op 7 .held (.op 8 .plain (.op 9 .plain (.op 10 .held (.op 11 .plain (.op 12 .plain .nil))))))))))))) Kk [(bp, .cells (PC (.slice (some ⟨bs,0,none⟩) n n) (.slice (some ⟨ba,0,none⟩) n n) (.slice (some ⟨bl,0,none⟩) n cb) (.slice (some ⟨bx,0,none⟩) w csp) vk vw vm W) [] 135),(bl, .cells (zj n bf) spb 3)] Ks ?_
   |with_reducible refine Tri.drawS tok mixed [0,1,4,5,6,7,37] 2 [3,7] (.op 0 .plain (.op 1 .plain (.op 2 .plain (.op 3 .held (.op 4 .plain (.op 5 .plain (.op 6 .plain (.op 7 .held (.op 8 .plain (.op 9 .plain .nil)))))))))) Kk [(bx, .cells (zF w fr to mk) spx 159)] Ks ?_
   |with_reducible refine Tri.drawS tok mixed [0,1,4,5,6,7,37] 6 [3,8,12,15] (.op 0 .plain (.op 1 .plain (.op 2 .plain (.op 3 .held (.op 4 .plain (.op 5 .plain (.op 6 .plain (.op 7 .plain (.op 8 .held (.op 9 .plain (.op 10 .plain (.op 11 .plain (.op 12 .held (.op 13 .plain (.op 14 .plain (.op 15 .held (.op 16 .plain (.op 17 .plain (.op 18 .plain (.op 19 .plain (.op 20 .plain (.op 21 .plain .nil)))))))))))))))))))))) Kk [(bp, .cells (PC (.slice (some ⟨bs,0,none⟩) n n) (.slice (some ⟨ba,0,none⟩) n n) (.slice (some ⟨bl,0,none⟩) n cb) (.slice (some ⟨bx,0,none⟩) w csp) vk vw vm W) [] 135),(ba, .cells (zj n pl) [] 3)] Ks ?_
   |with_reducible refine Tri.drawS tok mixed [0,1,4,5,6,7,37] 7 [3,8,13,16] (.op 0 .plain (.op 1 .plain (.op 2 .plain (.op 3 .held (.op 4 .plain (.op 5 .plain (.op 6 .plain (.op 7 .plain (.op 8 .held (.op 9 .plain (.op 10 .plain (.op 11 .plain (.op 12 .plain (.op 13 .held (.op 14 .plain (.op 15 .plain (.op 16 .held (.op 17 .plain (.op 18 .plain (.op 19 .plain (.op 20 .plain (.op 21 .plain .nil)))))))))))))))))))))) Kk [(bp, .cells (PC (.slice (some ⟨bs,0,none⟩) n n) (.slice (some ⟨ba,0,none⟩) n n) (.slice (some ⟨bl,0,none⟩) n cb) (.slice (some ⟨bx,0,none⟩) w csp) vk vw vm W) [] 135),(ba, .cells (zj n pl) [] 3)] Ks ?_
  exact Upd.now (hR true _ _ _ hmark.1 hmark.2 (fun b hb=>zba _ _ hb) (by rw[zby];omega))
theorem zy7 {n w:Nat} {st pl bf fr to mk:Nat→Nat} (hP:PInv n w st pl bf fr to mk) (hn:n≤70000) {bp bs ba bl bx cb csp:Nat} {spb spx:List Value} {vk vw vm:Value} {W:Int} {b:Nat} (hb:b<w) (h1:1≤mk b) (hcx:w * 3+spx.length=csp * 3) {G:za} {H:zb} {R:Value→za→zb→Prop}
  (hR0:fr b+mk b=to b→R (.int .i64 (-1)) G ((bp, .cells (PC (.slice (some ⟨bs,0,none⟩) n n) (.slice (some ⟨ba,0,none⟩) n n) (.slice (some ⟨bl,0,none⟩) n cb) (.slice (some ⟨bx,0,none⟩) w csp) vk vw vm W) [] 135):: (bx, .cells (zF w fr to (zo mk b 0)) spx 159):: (bs, .cells (zj n st) [] 3):: (bl, .cells (zj n bf) spb 3)::H))
  (hR: ∀bx' csp' spx',fr b+mk b<to b→(w+1) * 3+spx'.length=csp' * 3→R (.int .i64 (w:Nat)) G ((bp, .cells (PC (.slice (some ⟨bs,0,none⟩) n n) (.slice (some ⟨ba,0,none⟩) n n) (.slice (some ⟨bl,0,none⟩) n cb) (.slice (some ⟨bx',0,none⟩) (w+1) csp') vk vw vm W) [] 135):: (bx', .cells (zF (w+1) (zo (zo fr b (fr b+mk b)) w (fr b)) (zo to w (fr b+mk b)) (zo (zo mk b 0) w 0)) spx' 159):: (bs, .cells (zj n st) [] 3):: (bl, .cells (zj n (fun s=>if bf s=b∧pl s<fr b+mk b then w else bf s)) spb 3)::H)):
  FnT Tryz.prog 135 [.pointer (some ⟨bp,0,none⟩), .int .i64 (b:Nat)] G ((bp, .cells (PC (.slice (some ⟨bs,0,none⟩) n n) (.slice (some ⟨ba,0,none⟩) n n) (.slice (some ⟨bl,0,none⟩) n cb) (.slice (some ⟨bx,0,none⟩) w csp) vk vw vm W) [] 135):: (bx, .cells (zF w fr to mk) spx 159):: (bs, .cells (zj n st) [] 3):: (bl, .cells (zj n bf) spb 3)::H) R:=by
 have hne:=hP.ne b hb
 have hle:=hP.le b hb
 have hmk:=hP.mk_le b hb
 have hw:=hP.nb_le
 have g2:=zlt (fr:=fr) (to:=to) (mk:=mk) (sp:=spx) hb
 have g0':=zls (fr:=fr) (to:=to) (mk:=zo mk b 0) (sp:=spx) hb
 have g1':=zhp (fr:=fr) (to:=to) (mk:=zo mk b 0) (sp:=spx) hb
 have p2:=zt4 (fr:=fr) (to:=to) (mk:=mk) hb 0
 have e1:((to b:Nat):Int) - ((fr b:Nat):Int)=((to b - fr b:Nat):Int):=by omega
 have e2:((fr b:Nat):Int)+((mk b:Nat):Int)=((fr b+mk b:Nat):Int):=by omega
 have hz:(Value.int .i64 ((0 :Nat):Int))=Value.int .i64 0:=rfl
 rw[hz] at p2
 by_cases hall:fr b+mk b=to b
 ·have hme:mk b=to b - fr b:=by omega
  have hR0:=hR0 hall
  refine FnT.body tok [0,1,4,5,6,7,8,10,34,71,72,73,74] Tryz.func135 rfl Kk Kk (by show _≤86;simp) fun hsep=>?_
  rw[Tryz.results135]
  have hE:=hsep
  try simp only[zzs] at hE
  repeat(obtain⟨hx',hE⟩:=hE)
  repeat' first
   |with_reducible first|refine Nx.go ?_ |refine Bk.go (fun _=>?_) fun _=>?_ |refine Nb fun nb hnb hnb1 hnb2=>?_ |refine Nr fun nb nsp ncap hnb hncap hnb1 hnb2=>?_
   |simp -dsimp -implicitDefEqProofs (disch:=first|exact Kd|fail) only[go_sem,↓reduceIte,seval,g2,g0',g1',p2,e1]
   |with_reducible refine Tri.drawS tok mixed [0,1,4,5,6,7,8,10,34,71,72,73,74] 4 [4,8] (.op 0 .plain (.op 1 .plain (.op 2 .plain (.op 3 .plain (.op 4 .held (.op 5 .plain (.op 6 .plain (.op 7 .plain (.op 8 .held (.op 9 .plain (.op 10 .plain .nil))))))))))) Kk [(bx, .cells (zF w fr to (zo mk b 0)) spx 159)] Ks ?_
  all_goals first| (exfalso;omega)|skip
  exact Upd.now hR0
 ·have hme: ¬((mk b:Nat):Int)=((to b - fr b:Nat):Int):=by omega
  have p0:=zy5 (fr:=fr) (to:=to) (mk:=zo mk b 0) hb (fr b+mk b)
  have hsn:=zmP w (zo fr b (fr b+mk b)) to (zo mk b 0) (fr b) (fr b+mk b) 0
  rw[hz] at hsn
  refine FnT.body tok [0,1,4,5,6,7,8,10,34,71,72,73,74] Tryz.func135 rfl Kk Kk (by show _≤86;simp) fun hsep=>?_
  rw[Tryz.results135]
  have hE:=hsep
  try simp only[zzs] at hE
  repeat(obtain⟨hx',hE⟩:=hE)
  repeat' first
   |with_reducible first|refine Nx.go ?_ |refine Bk.go (fun _=>?_) fun _=>?_ |refine Nb fun nb hnb hnb1 hnb2=>?_ |refine Nr fun nb nsp ncap hnb hncap hnb1 hnb2=>?_
   |simp -dsimp -implicitDefEqProofs (disch:=first|exact Kd|fail) only[go_sem,↓reduceIte,seval,g2,g0',g1',p2,p0,e1,e2]
   |with_reducible refine Tri.drawS tok mixed [0,1,4,5,6,7,8,10,34,71,72,73,74] 4 [4,8] (.op 0 .plain (.op 1 .plain (.op 2 .plain (.op 3 .plain (.op 4 .held (.op 5 .plain (.op 6 .plain (.op 7 .plain (.op 8 .held (.op 9 .plain (.op 10 .plain .nil))))))))))) Kk [(bx, .cells (zF w fr to (zo mk b 0)) spx 159)] Ks ?_
   |with_reducible refine Tri.drawS tok mixed [0,1,4,5,6,7,8,10,34,71,72,73,74] 7 [3,7] (.op 0 .plain (.op 1 .plain (.op 2 .plain (.op 3 .held (.op 4 .plain (.op 5 .plain (.op 6 .plain (.op 7 .held (.op 8 .plain (.op 9 .plain (.op 10 .plain (.op 11 .keeps (.op 12 .plain .nil))))))))))))) Kk [(bx, .cells (zF w fr to (zo mk b 0)) spx 159)] Ks ?_
  obtain⟨b8,e80⟩: ∃x,x=nb:=⟨_,rfl⟩
  subst e80
  repeat' first
   |with_reducible first|refine Nx.go ?_ |refine Bk.go (fun _=>?_) fun _=>?_ |refine Nb fun nb hnb hnb1 hnb2=>?_ |refine Nr fun nb nsp ncap hnb hncap hnb1 hnb2=>?_
   |simp -dsimp -implicitDefEqProofs (disch:=first|exact Kd|fail) only[go_sem,↓reduceIte,seval,hsn]
   |with_reducible refine Tri.drawS tok mixed [0,1,4,5,6,7,8,10,34,71,72,73,74] 9 [4,5] (.op 0 .plain (.op 1 .plain (.op 2 .plain (.op 3 .plain (.op 4 .held (.op 5 .held (.op 6 .keeps (.op 7 .keeps (.op 8 .plain (.op 9 .plain (.op 10 .plain .nil))))))))))) Kk [(bp, .cells (PC (.slice (some ⟨bs,0,none⟩) n n) (.slice (some ⟨ba,0,none⟩) n n) (.slice (some ⟨bl,0,none⟩) n cb) (.slice (some ⟨bx,0,none⟩) w csp) vk vw vm W) [] 135),(b8, .cells [.int .i64 (fr b:Nat), .int .i64 ((fr b+mk b:Nat):Int), .int .i64 0] [] 159)] Ks ?_
  obtain⟨bx',ebx⟩: ∃x,x=nb:=⟨_,rfl⟩
  subst ebx
  rename_i y1 y2 y3 y4
  have hPN:=hP.part hb h1 Ko
  have hfw:zo (zo fr b (fr b+mk b)) w (fr b) w=fr b:=zby _ _ _
  have htw:zo to w (fr b+mk b) w=fr b+mk b:=zby _ _ _
  refine FnT.upd (FnT.leave (H':=(bp, .cells (PC (.slice (some ⟨bs,0,none⟩) n n) (.slice (some ⟨ba,0,none⟩) n n) (.slice (some ⟨bl,0,none⟩) n cb) (.slice (some ⟨bx',0,none⟩) (w+1) ncap) vk vw vm W) [] 135):: (bx', .cells (zF (w+1) (zo (zo fr b (fr b+mk b)) w (fr b)) (zo to w (fr b+mk b)) (zo (zo mk b 0) w 0)) nsp 159):: ((bs, .cells (zj n st) [] 3):: (bl, .cells (zj n bf) spb 3)::H)) (zoH hPN hn Ko (Upd.sepI fun hs2=>Upd.now ?_)) Ks)
  rw[hfw,htw,Nat.add_sub_cancel_left]
  clear g2 g0' g1' p2 p0 hsn
  clear y1 y2 y3 y4
  have hE:=hs2
  try simp only[zzs] at hE
  repeat(obtain⟨hx',hE⟩:=hE)
  repeat' first
   |with_reducible first|refine Nx.go ?_ |refine Bk.go (fun _=>?_) fun _=>?_ |refine Nb fun nb hnb hnb1 hnb2=>?_ |refine Nr fun nb nsp ncap hnb hncap hnb1 hnb2=>?_
   |simp -dsimp -implicitDefEqProofs (disch:=first|exact Kd|fail) only[go_sem,↓reduceIte,seval]
  refine Tri.loopU tok [0,1,4,5,6,7,8,10,34,71,72,73,74] Kk [0,7,71,72,73] (fun q G' l H'=> ∃i:Nat,i+q=mk b∧G'=G∧H'=(bp, .cells (PC (.slice (some ⟨bs,0,none⟩) n n) (.slice (some ⟨ba,0,none⟩) n n) (.slice (some ⟨bl,0,none⟩) n cb) (.slice (some ⟨bx',0,none⟩) (w+1) ncap) vk vw vm W) [] 135):: (bx', .cells (zF (w+1) (zo (zo fr b (fr b+mk b)) w (fr b)) (zo to w (fr b+mk b)) (zo (zo mk b 0) w 0)) nsp 159):: (bs, .cells (zj n st) [] 3):: (bl, .cells (zj n (fun s=>if bf s=b∧pl s<fr b+i then w else bf s)) spb 3)::H∧l=[(0, .pointer (some ⟨bp,0,none⟩)),(7, .int .i64 (w:Nat)),(71, .slice (some ⟨bs,fr b,none⟩) (mk b) (mk b)),(72, .int .i64 (mk b:Nat)),(73, .int .i64 (i:Nat))]) ((mk b)) ?_ ?_
  ·refine Upd.now ⟨0,by omega,rfl,?_,rfl⟩
   rw[zeF (f:=bf) (g:=fun s=>if bf s=b∧pl s<fr b+0 then w else bf s) fun s hs=>by
    show _=if _ then _ else _
    rw[if_neg]
    rintro⟨e,h⟩
    have:=hP.lo s hs
    rw[e] at this
    omega]
  ·rintro q G2 l H2 hle2 hs3 ⟨i,hiq,rfl,rfl,rfl⟩
   have hE:=hs3
   try simp only[zzs] at hE
   repeat(obtain⟨hx',hE⟩:=hE)
   by_cases hi:i<mk b
   ·have hpn:fr b+i<n:=by omega
    have hsn:=hP.st_lt _ hpn
    have hbi:=hP.own b (fr b+i) hb Ko Ko
    have hpi:=hP.pl_st _ hpn
    have gs:=zdN st hpn
    have pb:=zbg (fun s=>if bf s=b∧pl s<fr b+i then w else bf s) hsn w
    have hnx:zj n (zo (fun s=>if bf s=b∧pl s<fr b+i then w else bf s) (st (fr b+i)) w)=zj n fun s=>if bf s=b∧pl s<fr b+(i+1) then w else bf s:=zeF fun s hs=>by
     unfold zo
     by_cases e:s=st (fr b+i)
     ·rw[if_pos e,e]
      show _=if _ then _ else _
      rw[if_pos ⟨hbi,by rw[hpi];omega⟩]
     ·rw[if_neg e]
      have hne:pl s≠fr b+i:=fun h=>e (by rw[←h,hP.st_pl s hs])
      show(if _ then _ else _)=if _ then _ else _
      by_cases c:bf s=b∧pl s<fr b+i
      ·rw[if_pos c,if_pos ⟨c.1,by omega⟩]
      ·rw[if_neg c,if_neg fun c2=>c ⟨c2.1,by omega⟩]
    rw[hnx] at pb
    repeat' first
     |with_reducible first|refine Nx.go ?_ |refine Bk.go (fun _=>?_) fun _=>?_ |refine Nb fun nb hnb hnb1 hnb2=>?_ |refine Nr fun nb nsp ncap hnb hncap hnb1 hnb2=>?_
     |simp -dsimp -implicitDefEqProofs (disch:=first|exact Kd|fail) only[go_sem,↓reduceIte,seval,gs,pb]
    exact Upd.now ⟨q - 1,by omega,i+1,by omega,rfl,rfl,rfl⟩
   ·obtain rfl:i=mk b:=by omega
    repeat' first
     |with_reducible first|refine Nx.go ?_ |refine Bk.go (fun _=>?_) fun _=>?_ |refine Nb fun nb hnb hnb1 hnb2=>?_ |refine Nr fun nb nsp ncap hnb hncap hnb1 hnb2=>?_
     |simp -dsimp -implicitDefEqProofs (disch:=first|exact Kd|fail) only[go_sem,↓reduceIte,seval]
    exact Upd.now (hR bx' ncap nsp Ko Ko)
end Go.Proofs.YtomdbjfdbkejoaaGreatDoor
namespace Go.Proofs.YtomdbjfdbkejoaaGreatDoor
open Go Go.V Go.Proofs
section
variable {α β:Type} [DecidableEq α]
theorem ziZ (k:α) (v:β): ∀l:List (α×β),zb9 k (zcA k v l)=some v
 | []=>by simp [zcA,zb9]
 |e::l=>by
  unfold zcA
  by_cases h:k=e.1
  ·rw[if_pos h];simp [zb9]
  ·rw[if_neg h];unfold zb9;rw[if_neg h];exact ziZ k v l
theorem zgm {k k':α} (v:β) (h:k'≠k): ∀l:List (α×β),zb9 k' (zcA k v l)=zb9 k' l
 | []=>by simp [zcA,zb9,h]
 |e::l=>by
  unfold zcA
  by_cases h1:k=e.1
  ·rw[if_pos h1]
   unfold zb9
   rw[if_neg h,if_neg (by rw[←h1];exact h)]
  ·rw[if_neg h1]
   unfold zb9
   split
   ·rfl
   ·exact zgm v h l
end
def zbz (am:List ((Int×Int)×Int)) (ws:List (Nat×Nat)):Prop:= ∀b k:Nat,((b,k)∈ws→zb9 ((b:Int),(k:Int)) am=some 1)∧((b,k)∉ws→zb9 ((b:Int),(k:Int)) am=none∨zb9 ((b:Int),(k:Int)) am=some 0)
theorem zbz.nil:zbz [] []:=fun b k=>⟨(fun h=>by cases h),fun _=> .inl rfl⟩
theorem zbz.put {am:List ((Int×Int)×Int)} {ws:List (Nat×Nat)} (h:zbz am ws) (b k:Nat):zbz (zcA ((b:Int),(k:Int)) 1 am) (ws++[(b,k)]):=fun b' k'=>by
 by_cases e:((b':Int),(k':Int))=((b:Int),(k:Int))
 ·rw[Prod.mk.injEq] at e
  obtain⟨e1,e2⟩:=e
  obtain rfl:b'=b:=by omega
  obtain rfl:k'=k:=by omega
  exact⟨fun _=>ziZ _ _ _,fun hn=>absurd (List.mem_append_right _ (List.mem_singleton.2 rfl)) hn⟩
 ·have e':(b',k')≠(b,k):=fun h=>e (by rw[Prod.mk.injEq] at h;rw[h.1,h.2])
  rw[zgm _ e]
  refine⟨fun hm=>?_,fun hm=>?_⟩
  ·rcases List.mem_append.1 hm with hm|hm
   ·exact(h b' k').1 hm
   ·exact absurd (List.mem_singleton.1 hm) e'
  ·exact(h b' k').2 fun h2=>hm (List.mem_append_left _ h2)
theorem zbz.take {am:List ((Int×Int)×Int)} {ws:List (Nat×Nat)} {b k:Nat} (h:zbz am (ws++[(b,k)])) (hnd:(ws++[(b,k)]).Nodup):zbz (zcA ((b:Int),(k:Int)) 0 am) ws:=fun b' k'=>by
 have hni:(b,k)∉ws:=fun hm=>(List.nodup_append.1 hnd).2.2 _ hm _ (List.mem_singleton.2 rfl) rfl
 by_cases e:((b':Int),(k':Int))=((b:Int),(k:Int))
 ·rw[Prod.mk.injEq] at e
  obtain⟨e1,e2⟩:=e
  obtain rfl:b'=b:=by omega
  obtain rfl:k'=k:=by omega
  exact⟨fun hm=>absurd hm hni,fun _=> .inr (ziZ _ _ _)⟩
 ·have e':(b',k')≠(b,k):=fun h=>e (by rw[Prod.mk.injEq] at h;rw[h.1,h.2])
  rw[zgm _ e]
  refine⟨fun hm=>(h b' k').1 (List.mem_append_left _ hm),fun hm=>(h b' k').2 fun h2=>?_⟩
  rcases List.mem_append.1 h2 with h2|h2
  ·exact hm h2
  ·exact e' (List.mem_singleton.1 h2)
def zbQ (p:Nat×Nat):List Value:=[.int .i64 (p.1:Nat), .int .i64 (p.2:Nat)]
theorem zcZ (ws:List (Nat×Nat)):(ws.flatMap zbQ).length=ws.length * 2:=zbq (m:=2) (fun _=>rfl) ws
theorem zc7 (ws:List (Nat×Nat)) (b k:Nat):(ws++[(b,k)]).flatMap zbQ=ws.flatMap zbQ++[.int .i64 (b:Nat), .int .i64 (k:Nat)]:=by rw[List.flatMap_append];rfl
theorem zgR (ws:List (Nat×Nat)):(ws.flatMap zbQ).all zaL=true:=by
 rw[List.all_flatMap]
 exact List.all_eq_true.2 fun i _=>rfl
theorem zlu (ws:List (Nat×Nat)) (b k:Nat) (sp:List Value):List.take 2 (List.drop (ws.length * 2) ((ws++[(b,k)]).flatMap zbQ++sp))=[.int .i64 (b:Nat), .int .i64 (k:Nat)]:=by
 rw[zc7,List.append_assoc,List.drop_append_of_le_length (by rw[zcZ];exact Nat.le_refl _),List.drop_of_length_le (by rw[zcZ];exact Nat.le_refl _)];rfl
def WtO (vw:Value) (ws:List (Nat×Nat)) (kw:zb):Prop:=(∃a,vw= .slice a 0 0∧ws=[]∧kw=[])∨(∃b cap sp,vw= .slice (some ⟨b,0,none⟩) ws.length cap∧kw=[(b, .cells (ws.flatMap zbQ) sp 77)]∧ws.length * 2+sp.length=cap * 2)∨ ∃b sp,vw= .slice (some ⟨b,0,none⟩) ws.length ws.length∧kw=[(b, .cells (ws.flatMap zbQ) sp 77)]
def zaC (p:Int×Int):Value:= .agg #[.int .i64 p.1, .int .i64 p.2]
theorem zwa:zeB T 77 zaC:=zlb (T:=T) (t:=77) (e:=3) (k:= .i64) rfl rfl rfl
theorem zeU (f:Int→Value) (a b:Int) (l:List ((Int×Int)×Int)):zhE T 77 (.agg #[.int .i64 a, .int .i64 b]) (l.map fun p=>(zaC p.1,f p.2))=some ((zb9 (a,b) l).map f):=zb2 zwa f (a,b) l
theorem zi0 (a b v:Int) (l:List ((Int×Int)×Int)):ziC T 77 (.agg #[.int .i64 a, .int .i64 b]) (.int .i64 v) (l.map fun p=>(zaC p.1,Value.int .i64 p.2))=some ((zcA (a,b) v l).map fun p=>(zaC p.1,Value.int .i64 p.2)):=
 zcB zwa (Value.int .i64) (a,b) v l
theorem zdO (a b:Int):ze7 T 77 (.agg #[.int .i64 a, .int .i64 b]):=zb3 zwa (a,b)
theorem znE {ws:List (Nat×Nat)} {am:List ((Int×Int)×Int)} (hw:ws.length≤30000000) (hA:zbz am ws) {b k:Nat} {bp bm:Nat} {vs va vb vsp vk vw:Value} {W:Int} {kw:zb} (hO:WtO vw ws kw) {G:za} {H:zb} {R:Value→za→zb→Prop}
  (hR: ∀vw' am' kw',WtO vw' (zcI ws (b,k)) kw'→zbz am' (zcI ws (b,k))→R (.tuple #[]) G ((bp, .cells (PC vs va vb vsp vk vw' (.map (some bm)) W) [] 135):: (bm, .map (am'.map fun p=>(zaC p.1,Value.int .i64 p.2))):: (kw'++H))):
  FnT Tryz.prog 104 [.pointer (some ⟨bp,0,none⟩), .int .i64 (b:Nat), .int .i64 (k:Nat)] G ((bp, .cells (PC vs va vb vsp vk vw (.map (some bm)) W) [] 135):: (bm, .map (am.map fun p=>(zaC p.1,Value.int .i64 p.2))):: (kw++H)) R:=by
 have hr1: ∀x:Value,List.replicate 1 x=[x]:=fun _=>rfl
 by_cases hm:(b,k)∈ws
 ·have hg:=(hA b k).1 hm
  have hask:zcI ws (b,k)=ws:=by unfold zcI;rw[if_pos hm]
  rw[hask] at hR
  have hR:=hR vw am kw hO hA
  refine FnT.body tok [0,1,2,14] Tryz.func104 rfl Kk Kk (by show _≤34;simp) fun hsep=>?_
  rw[Tryz.results104]
  have hE:=hsep
  try simp only[zzs] at hE
  repeat(obtain⟨hx',hE⟩:=hE)
  repeat' first
   |with_reducible first|refine Nx.go ?_ |refine Bk.go (fun _=>?_) fun _=>?_ |refine zas.mk (fun _ _=>?_) fun _=>?_ |refine Nb fun nb hnb hnb1 hnb2=>?_ |refine Nr fun nb nsp ncap hnb hncap hnb1 hnb2=>?_
   |simp -dsimp -implicitDefEqProofs (disch:=first|exact Kd|fail) only[go_sem,↓reduceIte,seval,zeU (Value.int .i64),zdO,hg,Option.map_some]
  exact Upd.now hR
 ·have hask:zcI ws (b,k)=ws++[(b,k)]:=by unfold zcI;rw[if_neg hm]
  rw[hask] at hR
  have hA2:=hA.put b k
  have hg: ∀K:Prop,(zb9 ((b:Int),(k:Int)) am=none→K)→(zb9 ((b:Int),(k:Int)) am=some 0→K)→K:=fun K h1 h2=>((hA b k).2 hm).elim h1 h2
  rcases hO with ⟨aa,rfl,rfl,rfl⟩| ⟨bw,cap,sp,rfl,rfl,hc⟩| ⟨bw,sp,rfl,rfl⟩
  ·refine hg _ (fun hg=>?_) fun hg=>?_
   all_goals
    refine FnT.body tok [0,1,2,14] Tryz.func104 rfl Kk Kk (by show _≤34;simp) fun hsep=>?_
    rw[Tryz.results104]
    have hE:=hsep
    try simp only[zzs] at hE
    repeat(obtain⟨hx',hE⟩:=hE)
    repeat' first
     |with_reducible first|refine Nx.go ?_ |refine Bk.go (fun _=>?_) fun _=>?_ |refine zas.mk (fun _ _=>?_) fun _=>?_ |refine Nb fun nb hnb hnb1 hnb2=>?_ |refine Nr fun nb nsp ncap hnb hncap hnb1 hnb2=>?_
     |simp -dsimp -implicitDefEqProofs (disch:=first|exact Kd|fail) only[go_sem,↓reduceIte,seval, -List.reduceReplicate,zeU (Value.int .i64),zi0,zdO,hg,Option.map_some,Option.map_none,hr1]
    unfold zv
    refine Upd.leave (H':=(bp, .cells (PC vs va vb vsp vk (.slice (some ⟨nb,0,none⟩) 1 ncap) (.map (some bm)) W) [] 135):: (bm, .map ((zcA ((b:Int),(k:Int)) 1 am).map fun p=>(zaC p.1,Value.int .i64 p.2))):: ([(nb, .cells [.int .i64 (b:Nat), .int .i64 (k:Nat)] nsp 77)]++H)) Ks ?_
    exact hR _ _ _ (.inr (.inl ⟨nb,ncap,nsp,rfl,rfl,by simp at hncap⊢;omega⟩)) hA2
  ·have hl:=zcZ ws
   have ho:=zgR ws
   refine hg _ (fun hg=>?_) fun hg=>?_
   all_goals
    refine FnT.body tok [0,1,2,14] Tryz.func104 rfl Kk Kk (by show _≤34;simp) fun hsep=>?_
    rw[Tryz.results104]
    have hE:=hsep
    try simp only[zzs] at hE
    repeat(obtain⟨hx',hE⟩:=hE)
    repeat' first
     |with_reducible first|refine Nx.go ?_ |refine Bk.go (fun _=>?_) fun _=>?_ |refine zas.mk (fun _ _=>?_) fun _=>?_ |refine Nb fun nb hnb hnb1 hnb2=>?_ |refine Nr fun nb nsp ncap hnb hncap hnb1 hnb2=>?_
     |simp -dsimp -implicitDefEqProofs (disch:=first|exact Kd|fail) only[go_sem,↓reduceIte,seval, -List.reduceReplicate,zeU (Value.int .i64),zi0,zdO,hg,Option.map_some,Option.map_none,hr1,hl,ho]
    unfold zv
    refine Upd.leave (H':=(bp, .cells (PC vs va vb vsp vk (.slice (some ⟨nb,0,none⟩) (ws.length+1) ncap) (.map (some bm)) W) [] 135):: (bm, .map ((zcA ((b:Int),(k:Int)) 1 am).map fun p=>(zaC p.1,Value.int .i64 p.2))):: ([(nb, .cells (ws.flatMap zbQ++[.int .i64 (b:Nat), .int .i64 (k:Nat)]) nsp 77)]++H)) Ks ?_
    exact hR _ _ _ (.inr (.inl ⟨nb,ncap,nsp,by simp,by rw[zc7],by simp only[List.length_append,List.length_singleton];omega⟩)) hA2
  ·have hl:=zcZ ws
   have ho:=zgR ws
   refine hg _ (fun hg=>?_) fun hg=>?_
   all_goals
    refine FnT.body tok [0,1,2,14] Tryz.func104 rfl Kk Kk (by show _≤34;simp) fun hsep=>?_
    rw[Tryz.results104]
    have hE:=hsep
    try simp only[zzs] at hE
    repeat(obtain⟨hx',hE⟩:=hE)
    repeat' first
     |with_reducible refine Br.yes ?_
     |with_reducible refine Br.no ?_
     |with_reducible refine Br.dec (fun _=>?_) (fun _=>?_)
     |with_reducible refine Br.beqB (fun _=>?_) (fun _=>?_)
     |with_reducible refine Br.beqb (fun _=>?_) (fun _=>?_)
     |with_reducible refine Br.mk (fun _=>?_) (fun _=>?_)
     |with_reducible refine zas.mk (fun _ _=>?_) (fun _=>?_)
     |with_reducible refine zd8.zero ?_
     | ((with_reducible refine zdm.mk fun nb hnb=>?_);have hnb1:=hnb.1.1;have hnb2:=hnb.1.2;try simp only[zbl,zbS,zea,zbc,zb1,zdu,and_true] at hnb2)
     | ((with_reducible refine zbV.mk fun nb nsp ncap hnb hncap=>?_);have hnb1:=hnb.1.1;have hnb2:=hnb.1.2;try simp only[zbl,zbS,zea,zbc,zb1,zdu,and_true] at hnb2)
     |simp -dsimp -implicitDefEqProofs (disch:=first|exact Kd|fail) only[go_sem,↓reduceIte,seval, -List.reduceReplicate,zeU (Value.int .i64),zi0,zdO,hg,Option.map_some,Option.map_none,hr1,hl,ho]
     |with_reducible refine zd8.tight ?_
    unfold zv
    refine Upd.leave (H':=(bp, .cells (PC vs va vb vsp vk (.slice (some ⟨nb,0,none⟩) (ws.length+1) ncap) (.map (some bm)) W) [] 135):: (bm, .map ((zcA ((b:Int),(k:Int)) 1 am).map fun p=>(zaC p.1,Value.int .i64 p.2))):: ([(nb, .cells (ws.flatMap zbQ++[.int .i64 (b:Nat), .int .i64 (k:Nat)]) nsp 77)]++H)) Ks ?_
    exact hR _ _ _ (.inr (.inl ⟨nb,ncap,nsp,by simp,by rw[zc7],by simp only[List.length_append,List.length_singleton];omega⟩)) hA2
theorem zy8 {ws:List (Nat×Nat)} {b k:Nat} {am:List ((Int×Int)×Int)} (hw:ws.length≤30000000) (hA:zbz am (ws++[(b,k)])) (hnd:(ws++[(b,k)]).Nodup) {bp bm:Nat} {vs va vb vsp vk vw:Value} {W:Int} {kw:zb} (hO:WtO vw (ws++[(b,k)]) kw) {G:za} {H:zb} {R:Value→za→zb→Prop}
  (hR: ∀vw' am' kw',WtO vw' ws kw'→zbz am' ws→R (.agg #[.int .i64 (b:Nat), .int .i64 (k:Nat)]) G ((bp, .cells (PC vs va vb vsp vk vw' (.map (some bm)) W) [] 135):: (bm, .map (am'.map fun p=>(zaC p.1,Value.int .i64 p.2))):: (kw'++H))):
  FnT Tryz.prog 105 [.pointer (some ⟨bp,0,none⟩)] G ((bp, .cells (PC vs va vb vsp vk vw (.map (some bm)) W) [] 135):: (bm, .map (am.map fun p=>(zaC p.1,Value.int .i64 p.2))):: (kw++H)) R:=by
 have hA2:=hA.take hnd
 have hl:=zcZ (ws++[(b,k)])
 have hwl:(ws++[(b,k)]).length=ws.length+1:=by simp
 rw[hwl] at hl
 have key: ∃bw cap sp,vw= .slice (some ⟨bw,0,none⟩) (ws.length+1) cap∧kw=[(bw, .cells ((ws++[(b,k)]).flatMap zbQ) sp 77)]∧ws.length+1≤cap:=by
  rcases hO with ⟨aa,_,h,_⟩| ⟨bw,cap,sp,rfl,rfl,hc⟩| ⟨bw,sp,rfl,rfl⟩
  ·simp at h
  ·exact⟨bw,cap,sp,by rw[hwl],rfl,by rw[hwl] at hc;omega⟩
  ·exact⟨bw,_,sp,by rw[hwl],rfl,Nat.le_refl _⟩
 obtain⟨bw,cap,sp,rfl,rfl,hcap⟩:=key
 have hla:=zlu ws b k sp
 have e1:((ws.length+1 :Nat):Int) - 1=((ws.length:Nat):Int):=by omega
 refine FnT.body tok [0,2,3,4] Tryz.func105 rfl Kk Kk (by show _≤34;simp) fun hsep=>?_
 rw[Tryz.results105]
 have hE:=hsep
 try simp only[zzs] at hE
 repeat(obtain⟨hx',hE⟩:=hE)
 repeat' first
  |with_reducible first|refine Nx.go ?_ |refine Bk.go (fun _=>?_) fun _=>?_ |refine Nb fun nb hnb hnb1 hnb2=>?_
  |simp -dsimp -implicitDefEqProofs (disch:=first|exact Kd|fail) only[go_sem,↓reduceIte,seval,zi0,zdO,hl,hla,e1,Nat.sub_zero,Option.isSome_some,true_and]
 rename_i bz y1 y2 y3
 repeat' first
  |with_reducible first|refine Nx.go ?_ |refine Bk.go (fun _=>?_) fun _=>?_ |refine Nb fun nb hnb hnb1 hnb2=>?_
  |simp -dsimp -implicitDefEqProofs (disch:=first|exact Kd|fail) only[go_sem,↓reduceIte,seval,zi0,zdO,hl,hla,e1,Nat.sub_zero]
  |with_reducible refine Tri.drawS tok mixed [0,2,3,4] 4 [3,4] (.op 0 .plain (.op 1 .plain (.op 2 .plain (.op 3 .held (.op 4 .held (.op 5 .plain .nil)))))) Kk [(bp, .cells (PC vs va vb vsp vk (.slice (some ⟨bw,0,none⟩) ws.length ws.length) (.map (some bm)) W) [] 135),(nb, .cells [.int .i64 (b:Nat), .int .i64 (k:Nat)] [] 77)] Ks ?_
 unfold zv
 refine Upd.refind bw (ws.flatMap zbQ) ([.int .i64 (b:Nat), .int .i64 (k:Nat)]++sp) (xs:=(ws++[(b,k)]).flatMap zbQ) (sp:=sp) (e:=77) ?_ (by rw[zc7,List.append_assoc]) ?_
 ·simp -dsimp -implicitDefEqProofs (disch:=first|exact Kd|fail) only[go_sem,↓reduceIte,seval]
 ·simp -dsimp -implicitDefEqProofs (disch:=first|exact Kd|fail) only[go_sem,↓reduceIte,seval]
  refine Upd.leave (H':=(bp, .cells (PC vs va vb vsp vk (.slice (some ⟨bw,0,none⟩) ws.length ws.length) (.map (some bm)) W) [] 135):: (bm, .map ((zcA ((b:Int),(k:Int)) 0 am).map fun p=>(zaC p.1,Value.int .i64 p.2))):: ([(bw, .cells (ws.flatMap zbQ) ([.int .i64 (b:Nat), .int .i64 (k:Nat)]++sp) 77)]++H)) Ks ?_
  exact hR _ _ _ (.inr (.inr ⟨bw,_,rfl,rfl⟩)) hA2
theorem zlv {w b:Nat} (hb:b<w) (hw:w≤70000) {fr to mk:Nat→Nat} (hbd:fr b≤to b∧to b≤70000) {bp b4 bx csp:Nat} {spx:List Value} {vs va vb vk vw vm:Value} {W:Int} {G:za} {H:zb} {R:Value→za→zb→Prop}
  (hR:R (.int .i64 ((to b - fr b:Nat):Int)) G ((b4, .cells [.pointer (some ⟨bp,0,none⟩)] [] 129):: (bp, .cells (PC vs va vb (.slice (some ⟨bx,0,none⟩) w csp) vk vw vm W) [] 135):: (bx, .cells (zF w fr to mk) spx 159)::H)):
  FnT Tryz.prog 161 [.int .i64 (b:Nat), .pointer (some ⟨b4,0,none⟩)] G ((b4, .cells [.pointer (some ⟨bp,0,none⟩)] [] 129):: (bp, .cells (PC vs va vb (.slice (some ⟨bx,0,none⟩) w csp) vk vw vm W) [] 135):: (bx, .cells (zF w fr to mk) spx 159)::H) R:=by
 have g0:=zls (fr:=fr) (to:=to) (mk:=mk) (sp:=spx) hb
 have g1:=zhp (fr:=fr) (to:=to) (mk:=mk) (sp:=spx) hb
 have e1:((to b:Nat):Int) - ((fr b:Nat):Int)=((to b - fr b:Nat):Int):=by omega
 refine FnT.body tok [0,1,3] Tryz.func161 rfl Kk Kk (by show _≤21;simp) fun hsep=>?_
 rw[Tryz.results161]
 have hE:=hsep
 try simp only[zzs] at hE
 repeat(obtain⟨hx',hE⟩:=hE)
 repeat' first
  |with_reducible first|refine Nx.go ?_ |refine Bk.go (fun _=>?_) fun _=>?_
  |simp -dsimp -implicitDefEqProofs (disch:=first|exact Kd|fail) only[go_sem,↓reduceIte,seval,g0,g1,e1]
  |with_reducible refine Tri.drawM tok mixed [0,1,3] 1 [0,3,7,8,11,15] (.op 0 .held (.op 1 .plain (.op 2 .plain (.op 3 .held (.op 4 .plain (.op 5 .plain (.op 6 .plain (.op 7 .held (.op 8 .held (.op 9 .plain (.op 10 .plain (.op 11 .held (.op 12 .plain (.op 13 .plain (.op 14 .plain (.op 15 .held (.op 16 .plain (.op 17 .plain .nil)))))))))))))))))) Kk _ (List.Sublist.refl _) ?_
 all_goals refine Upd.finL ?_ hR ?_
 any_goals first|exact Ks|skip
 rfl
end Go.Proofs.YtomdbjfdbkejoaaGreatDoor
namespace Go.Proofs.YtomdbjfdbkejoaaGreatDoor
open Go Go.V Go.Proofs
theorem zwb {ws:List (Nat×Nat)} {am:List ((Int×Int)×Int)} (hw:ws.length≤30000000) (hA:zbz am ws) {n w W k old fresh:Nat} (hwn:w≤70000) (ho:old<w) (hf:fresh<w) {fr to mk:Nat→Nat} (hbd: ∀b,b<w→fr b≤to b∧to b≤70000) {bp bm bx csp:Nat} {spx:List Value} {vs va vb vk vw:Value} {kw:zb} (hO:WtO vw ws kw) {G:za} {H:zb} {R:Value→za→zb→Prop}
  (hR: ∀vw' am' kw',WtO vw' (zcg (decide (to fresh - fr fresh≤to old - fr old)) old fresh ws k) kw'→zbz am' (zcg (decide (to fresh - fr fresh≤to old - fr old)) old fresh ws k)→R (.tuple #[]) G ((bp, .cells (PC vs va vb (.slice (some ⟨bx,0,none⟩) w csp) vk vw' (.map (some bm)) (W:Nat)) [] 135):: (bx, .cells (zF w fr to mk) spx 159):: (bm, .map (am'.map fun p=>(zaC p.1,Value.int .i64 p.2))):: (kw'++H))):
  FnT Tryz.prog 136 [.pointer (some ⟨bp,0,none⟩), .int .i64 (old:Nat), .int .i64 (fresh:Nat), .int .i64 (k:Nat)] G ((bp, .cells (PC vs va vb (.slice (some ⟨bx,0,none⟩) w csp) vk vw (.map (some bm)) (W:Nat)) [] 135):: (bx, .cells (zF w fr to mk) spx 159):: (bm, .map (am.map fun p=>(zaC p.1,Value.int .i64 p.2))):: (kw++H)) R:=by
 by_cases hm:(old,k)∈ws
 ·have hg:=(hA old k).1 hm
  have hl:zcg (decide (to fresh - fr fresh≤to old - fr old)) old fresh ws k=zcI ws (fresh,k):=by unfold zcg;rw[if_pos (.inl hm)]
  rw[hl] at hR
  refine FnT.body tok [0,1,2,3,4,8,27] Tryz.func136 rfl Kk Kk (by show _≤36;simp) fun hsep=>?_
  rw[Tryz.results136]
  have hE:=hsep
  try simp only[zzs] at hE
  repeat(obtain⟨hx',hE⟩:=hE)
  repeat' first
   |with_reducible first|refine Nx.go ?_ |refine Bk.go (fun _=>?_) fun _=>?_ |refine zas.mk (fun _ _=>?_) fun _=>?_ |refine Nb fun nb hnb hnb1 hnb2=>?_ |refine Nr fun nb nsp ncap hnb hncap hnb1 hnb2=>?_
   |simp -dsimp -implicitDefEqProofs (disch:=first|exact Kd|fail) only[go_sem,↓reduceIte,seval,zeU (Value.int .i64),zdO,hg,Option.map_some]
  refine FnT.upd (FnT.leave (H':=(bp, .cells (PC vs va vb (.slice (some ⟨bx,0,none⟩) w csp) vk vw (.map (some bm)) (W:Nat)) [] 135):: (bm, .map (am.map fun p=>(zaC p.1,Value.int .i64 p.2))):: (kw++((bx, .cells (zF w fr to mk) spx 159)::H))) (znE hw hA hO fun vw' am' kw' hO' hA'=>?_) Ks)
  refine Upd.go (H':=(bp, .cells (PC vs va vb (.slice (some ⟨bx,0,none⟩) w csp) vk vw' (.map (some bm)) (W:Nat)) [] 135):: (bx, .cells (zF w fr to mk) spx 159):: (bm, .map (am'.map fun p=>(zaC p.1,Value.int .i64 p.2))):: (kw'++H)) Ks (Upd.now ?_)
  repeat' first
   |with_reducible first|refine Nx.go ?_ |refine Bk.go (fun _=>?_) fun _=>?_ |refine zas.mk (fun _ _=>?_) fun _=>?_ |refine Nb fun nb hnb hnb1 hnb2=>?_ |refine Nr fun nb nsp ncap hnb hncap hnb1 hnb2=>?_
   |simp -dsimp -implicitDefEqProofs (disch:=first|exact Kd|fail) only[go_sem,↓reduceIte,seval]
  exact Upd.now (hR vw' am' kw' hO' hA')
 ·have hg: ∀K:Prop,(zb9 ((old:Int),(k:Int)) am=none→K)→(zb9 ((old:Int),(k:Int)) am=some 0→K)→K:=fun K h1 h2=>((hA old k).2 hm).elim h1 h2
  have hbo:=hbd old ho
  have hbf:=hbd fresh hf
  by_cases hsm:to fresh - fr fresh≤to old - fr old
  ·have hl:zcg (decide (to fresh - fr fresh≤to old - fr old)) old fresh ws k=zcI ws (fresh,k):=by unfold zcg;rw[if_pos (.inr (decide_eq_true hsm))]
   rw[hl] at hR
   refine hg _ (fun hg=>?_) fun hg=>?_
   all_goals
    refine FnT.body tok [0,1,2,3,4,8,27] Tryz.func136 rfl Kk Kk (by show _≤36;simp) fun hsep=>?_
    rw[Tryz.results136]
    have hE:=hsep
    try simp only[zzs] at hE
    repeat(obtain⟨hx',hE⟩:=hE)
    repeat' first
     |with_reducible first|refine Nx.go ?_ |refine Bk.go (fun _=>?_) fun _=>?_ |refine zas.mk (fun _ _=>?_) fun _=>?_ |refine Nb fun nb hnb hnb1 hnb2=>?_ |refine Nr fun nb nsp ncap hnb hncap hnb1 hnb2=>?_
     |simp -dsimp -implicitDefEqProofs (disch:=first|exact Kd|fail) only[go_sem,↓reduceIte,seval,zeU (Value.int .i64),zdO,hg,Option.map_some,Option.map_none]
     |with_reducible refine zlv hf hwn hbf ?_
     |with_reducible refine zlv ho hwn hbo ?_
    refine FnT.upd (FnT.leave (H':=(bp, .cells (PC vs va vb (.slice (some ⟨bx,0,none⟩) w csp) vk vw (.map (some bm)) (W:Nat)) [] 135):: (bm, .map (am.map fun p=>(zaC p.1,Value.int .i64 p.2))):: (kw++((bx, .cells (zF w fr to mk) spx 159)::H))) (znE hw hA hO fun vw' am' kw' hO' hA'=>?_) Ks)
    refine Upd.go (H':=(bp, .cells (PC vs va vb (.slice (some ⟨bx,0,none⟩) w csp) vk vw' (.map (some bm)) (W:Nat)) [] 135):: (bx, .cells (zF w fr to mk) spx 159):: (bm, .map (am'.map fun p=>(zaC p.1,Value.int .i64 p.2))):: (kw'++H)) Ks (Upd.now ?_)
    repeat' first
     |with_reducible first|refine Nx.go ?_ |refine Bk.go (fun _=>?_) fun _=>?_ |refine zas.mk (fun _ _=>?_) fun _=>?_ |refine Nb fun nb hnb hnb1 hnb2=>?_ |refine Nr fun nb nsp ncap hnb hncap hnb1 hnb2=>?_
     |simp -dsimp -implicitDefEqProofs (disch:=first|exact Kd|fail) only[go_sem,↓reduceIte,seval]
    exact Upd.now (hR vw' am' kw' hO' hA')
  ·have hl:zcg (decide (to fresh - fr fresh≤to old - fr old)) old fresh ws k=zcI ws (old,k):=by unfold zcg;rw[if_neg];rintro(h|h);exact hm h;exact hsm (of_decide_eq_true h)
   rw[hl] at hR
   refine hg _ (fun hg=>?_) fun hg=>?_
   all_goals
    refine FnT.body tok [0,1,2,3,4,8,27] Tryz.func136 rfl Kk Kk (by show _≤36;simp) fun hsep=>?_
    rw[Tryz.results136]
    have hE:=hsep
    try simp only[zzs] at hE
    repeat(obtain⟨hx',hE⟩:=hE)
    repeat' first
     |with_reducible first|refine Nx.go ?_ |refine Bk.go (fun _=>?_) fun _=>?_ |refine zas.mk (fun _ _=>?_) fun _=>?_ |refine Nb fun nb hnb hnb1 hnb2=>?_ |refine Nr fun nb nsp ncap hnb hncap hnb1 hnb2=>?_
     |simp -dsimp -implicitDefEqProofs (disch:=first|exact Kd|fail) only[go_sem,↓reduceIte,seval,zeU (Value.int .i64),zdO,hg,Option.map_some,Option.map_none]
     |with_reducible refine zlv hf hwn hbf ?_
     |with_reducible refine zlv ho hwn hbo ?_
    refine FnT.upd (FnT.leave (H':=(bp, .cells (PC vs va vb (.slice (some ⟨bx,0,none⟩) w csp) vk vw (.map (some bm)) (W:Nat)) [] 135):: (bm, .map (am.map fun p=>(zaC p.1,Value.int .i64 p.2))):: (kw++((bx, .cells (zF w fr to mk) spx 159)::H))) (znE hw hA hO fun vw' am' kw' hO' hA'=>?_) Ks)
    refine Upd.go (H':=(bp, .cells (PC vs va vb (.slice (some ⟨bx,0,none⟩) w csp) vk vw' (.map (some bm)) (W:Nat)) [] 135):: (bx, .cells (zF w fr to mk) spx 159):: (bm, .map (am'.map fun p=>(zaC p.1,Value.int .i64 p.2))):: (kw'++H)) Ks (Upd.now ?_)
    repeat' first
     |with_reducible first|refine Nx.go ?_ |refine Bk.go (fun _=>?_) fun _=>?_ |refine zas.mk (fun _ _=>?_) fun _=>?_ |refine Nb fun nb hnb hnb1 hnb2=>?_ |refine Nr fun nb nsp ncap hnb hncap hnb1 hnb2=>?_
     |simp -dsimp -implicitDefEqProofs (disch:=first|exact Kd|fail) only[go_sem,↓reduceIte,seval]
    exact Upd.now (hR vw' am' kw' hO' hA')
theorem zAl {ws:List (Nat×Nat)} {am:List ((Int×Int)×Int)} {w W old fresh:Nat} (hw:ws.length+W≤29000000) (hA:zbz am ws) (hwn:w≤70000) (hW:W≤70000) (ho:old<w) (hf:fresh<w) {fr to mk:Nat→Nat} (hbd: ∀b,b<w→fr b≤to b∧to b≤70000) {bp bm bx csp:Nat} {spx:List Value} {vs va vb vk vw v72 v73 v74:Value} {kw:zb} (hO:WtO vw ws kw) {G:za} {H:zb}:
  Tri Tryz.prog Tryz.f106.ntmps (piece [1,1,1,1,1,0,0,1,1,0,0,1,1,1] Tryz.f106) G [(0, .pointer (some ⟨bp,0,none⟩)),(13, .int .i64 (old:Nat)),(14, .int .i64 (fresh:Nat)),(72,v72),(73,v73),(74,v74)] ((bp, .cells (PC vs va vb (.slice (some ⟨bx,0,none⟩) w csp) vk vw (.map (some bm)) (W:Nat)) [] 135):: (bx, .cells (zF w fr to mk) spx 159):: (bm, .map (am.map fun p=>(zaC p.1,Value.int .i64 p.2))):: (kw++H)) (onlyN fun G' l H'=> ∃vw' am' kw',WtO vw' (zct (decide (to fresh - fr fresh≤to old - fr old)) old fresh ws W) kw'∧zbz am' (zct (decide (to fresh - fr fresh≤to old - fr old)) old fresh ws W)∧G'=G∧zD [0,72,73,74] l=[(0, .pointer (some ⟨bp,0,none⟩)),(72,v72),(73,v73),(74,v74)]∧H'=(bp, .cells (PC vs va vb (.slice (some ⟨bx,0,none⟩) w csp) vk vw' (.map (some bm)) (W:Nat)) [] 135):: (bx, .cells (zF w fr to mk) spx 159):: (bm, .map (am'.map fun p=>(zaC p.1,Value.int .i64 p.2))):: (kw'++H)):=by
 refine Tri.sepT fun hs0=>?_
 have hE:=hs0
 try simp only[zzs] at hE
 repeat(obtain⟨hx',hE⟩:=hE)
 refine Tri.piece (f:=Tryz.f106) rfl ?_
 refine Tri.run tok [0,1,2,6,8,9,11,13,14,15,18,19,20,21,37,38,39,40,57,72,73,74,75,82,86,87,88] Kk ?_
 repeat' first
  |with_reducible first|refine Nx.go ?_ |refine Bk.go (fun _=>?_) fun _=>?_ |refine Nb fun nb hnb hnb1 hnb2=>?_ |refine Nr fun nb nsp ncap hnb hncap hnb1 hnb2=>?_
  |simp -dsimp -implicitDefEqProofs (disch:=first|exact Kd|fail) only[go_sem,↓reduceIte,seval]
 refine Tri.loopU tok [0,1,2,6,8,9,11,13,14,15,18,19,20,21,37,38,39,40,57,72,73,74,75,82,86,87,88] Kk [0,13,14,72,73,74,86,87] (fun q G' l H'=> ∃ (j:Nat) (vw':Value) (am':List ((Int×Int)×Int)) (kw':zb),j+q=W∧WtO vw' (zct (decide (to fresh - fr fresh≤to old - fr old)) old fresh ws j) kw'∧zbz am' (zct (decide (to fresh - fr fresh≤to old - fr old)) old fresh ws j)∧G'=G∧H'=(bp, .cells (PC vs va vb (.slice (some ⟨bx,0,none⟩) w csp) vk vw' (.map (some bm)) (W:Nat)) [] 135):: (bx, .cells (zF w fr to mk) spx 159):: (bm, .map (am'.map fun p=>(zaC p.1,Value.int .i64 p.2))):: (kw'++H)∧l=[(0, .pointer (some ⟨bp,0,none⟩)),(13, .int .i64 (old:Nat)),(14, .int .i64 (fresh:Nat)),(72,v72),(73,v73),(74,v74),(86, .int .i64 (W:Nat)),(87, .int .i64 (j:Nat))]) (W) ?_ ?_
 ·exact Upd.now ⟨0,vw,am,kw,by omega,hO,hA,rfl,rfl,rfl⟩
 ·rintro q G1 l H1 hle hs1 ⟨j,vw',am',kw',hjq,hO',hA',rfl,rfl,rfl⟩
  have hlen:=(ziX (decide (to fresh - fr fresh≤to old - fr old)) old fresh ws j).2.2.2.2.1
  by_cases hj:j<W
  ·repeat' first
    |with_reducible first|refine Nx.go ?_ |refine Bk.go (fun _=>?_) fun _=>?_ |refine Nb fun nb hnb hnb1 hnb2=>?_ |refine Nr fun nb nsp ncap hnb hncap hnb1 hnb2=>?_
    |simp -dsimp -implicitDefEqProofs (disch:=first|exact Kd|fail) only[go_sem,↓reduceIte,seval]
   refine zwb (n:=0) Ko hA' hwn ho hf hbd hO' fun vw2 am2 kw2 hO2 hA2=>?_
   rw[←zlr] at hO2 hA2
   repeat' first
    |with_reducible first|refine Nx.go ?_ |refine Bk.go (fun _=>?_) fun _=>?_ |refine Nb fun nb hnb hnb1 hnb2=>?_ |refine Nr fun nb nsp ncap hnb hncap hnb1 hnb2=>?_
    |simp -dsimp -implicitDefEqProofs (disch:=first|exact Kd|fail) only[go_sem,↓reduceIte,seval]
   exact Upd.now ⟨q - 1,by omega,j+1,vw2,am2,kw2,by omega,hO2,hA2,rfl,rfl,rfl⟩
  ·obtain rfl:j=W:=by omega
   repeat' first
    |with_reducible first|refine Nx.go ?_ |refine Bk.go (fun _=>?_) fun _=>?_ |refine Nb fun nb hnb hnb1 hnb2=>?_ |refine Nr fun nb nsp ncap hnb hncap hnb1 hnb2=>?_
    |simp -dsimp -implicitDefEqProofs (disch:=first|exact Kd|fail) only[go_sem,↓reduceIte,seval]
   exact Upd.now ⟨vw',am',kw',hO',hA',rfl,rfl,rfl⟩
def zdq (dl:Nat→Nat) (n:Nat) (st:Nat→Nat) (f i:Nat):List Int:=(List.range i).flatMap fun j=>zcc dl n (st (f+j))
theorem zlw (dl:Nat→Nat) (n:Nat) (st:Nat→Nat) (f i:Nat):zdq dl n st f (i+1)=zdq dl n st f i++zcc dl n (st (f+i)):=by
 unfold zdq;rw[List.range_succ,List.flatMap_append];simp
theorem zi1 (dl:Nat→Nat) (n:Nat) (st:Nat→Nat) (f:Nat): ∀i,(zdq dl n st f i).length≤i * n
 |0=>by simp [zdq]
 |i+1=>by
  rw[zlw,List.length_append,Nat.succ_mul]
  have h1:=zi1 dl n st f i
  have h2:=zky dl n (st (f+i))
  omega
theorem zub {dl:Nat→Nat} {n:Nat} {st:Nat→Nat} {f i:Nat} {x:Int}:x∈zdq dl n st f i↔ ∃s:Nat,s<n∧(∃j,j<i∧dl s=st (f+j))∧x=s:=by
 unfold zdq
 simp only[List.mem_flatMap,List.mem_range,zv9]
 constructor
 ·rintro⟨j,h1,s,h2,h3,h4⟩;exact⟨s,h2,⟨j,h1,h3⟩,h4⟩
 ·rintro⟨s,h2,⟨j,h1,h3⟩,h4⟩;exact⟨j,h1,s,h2,h3,h4⟩
theorem zAm {n w W:Nat} {st pl bf fr to mk:Nat→Nat} (hP:PInv n w st pl bf fr to mk) (hn:n≤66000) {b k:Nat} (hb:b<w) (hk:k<W) {dl:Nat→Nat→Nat} {bp bs bx csp:Nat} {spx:List Value} {va vb vk vw vm:Value} {G:za} {H:zb} (hbk:BkT G n W dl vk):
  Tri Tryz.prog Tryz.f106.ntmps (piece [1,0] Tryz.f106) G [(0, .pointer (some ⟨bp,0,none⟩)),(1, .int .i64 (b:Nat)),(2, .int .i64 (k:Nat)),(6, .slice none 0 0)] ((bp, .cells (PC (.slice (some ⟨bs,0,none⟩) n n) va vb (.slice (some ⟨bx,0,none⟩) w csp) vk vw vm (W:Nat)) [] 135):: (bx, .cells (zF w fr to mk) spx 159):: (bs, .cells (zj n st) [] 3)::H) (onlyN fun G' l H'=> ∃vf kf,zS [] 3 1 vf (zdq (dl k) n st (fr b) (to b - fr b)).length ((zdq (dl k) n st (fr b) (to b - fr b)).map (Value.int .i64)) kf∧G'=G∧zD [0,6] l=[(0, .pointer (some ⟨bp,0,none⟩)),(6,vf)]∧H'=(bp, .cells (PC (.slice (some ⟨bs,0,none⟩) n n) va vb (.slice (some ⟨bx,0,none⟩) w csp) vk vw vm (W:Nat)) [] 135):: (bx, .cells (zF w fr to mk) spx 159):: (bs, .cells (zj n st) [] 3):: (kf++H)):=by
 have h1:=hP.ne b hb
 have h2:=hP.le b hb
 obtain⟨ak,ck,rk,rfl,hrk,hrl,hrc,hrr⟩:=hbk
 obtain⟨a2,c2,rv,e2,hr2,hl2,hc2,hrv⟩:=hrr k hk Ko
 have hadk:Adr ak:=hrk.adr Ko
 have hn0:0<n:=by omega
 have had2:Adr a2:=hr2.adr Ko
 refine Tri.sepT fun hs0=>?_
 have hE:=hs0
 try simp only[zzs] at hE
 repeat(obtain⟨hx',hE⟩:=hE)
 refine Tri.piece (f:=Tryz.f106) rfl ?_
 refine Tri.run tok [0,1,2,6,8,9,11,13,14,15,18,19,20,21,37,38,39,40,57,72,73,74,75,82,86,87,88] Kk ?_
 repeat' first
  |with_reducible first|refine Nx.go ?_ |refine Bk.go (fun _=>?_) fun _=>?_ |refine Nb fun nb hnb hnb1 hnb2=>?_ |refine Nr fun nb nsp ncap hnb hncap hnb1 hnb2=>?_
  |simp -dsimp -implicitDefEqProofs (disch:=first|exact Kd|fail) only[go_sem,↓reduceIte,seval]
  |with_reducible refine zoH hP Ko hb ?_
 refine Tri.loopU tok [0,1,2,6,8,9,11,13,14,15,18,19,20,21,37,38,39,40,57,72,73,74,75,82,86,87,88] Kk [0,2,6,18,19,20] (fun q G' l H'=> ∃ (i:Nat) (vf:Value) (kf:zb),i+q=to b - fr b∧zS [] 3 1 vf (zdq (dl k) n st (fr b) i).length ((zdq (dl k) n st (fr b) i).map (Value.int .i64)) kf∧G'=G∧H'=(bp, .cells (PC (.slice (some ⟨bs,0,none⟩) n n) va vb (.slice (some ⟨bx,0,none⟩) w csp) (.slice ak W ck) vw vm (W:Nat)) [] 135):: (bx, .cells (zF w fr to mk) spx 159):: (bs, .cells (zj n st) [] 3):: (kf++H)∧l=[(0, .pointer (some ⟨bp,0,none⟩)),(2, .int .i64 (k:Nat)),(6,vf),(18, .slice (some ⟨bs,fr b,none⟩) (to b - fr b) (to b - fr b)),(19, .int .i64 ((to b - fr b:Nat):Int)),(20, .int .i64 (i:Nat))]) ((to b - fr b)) ?_ ?_
 ·exact Upd.now ⟨0,_,[],by omega, .inl ⟨none,rfl,rfl,rfl,rfl⟩,rfl,rfl,rfl⟩
 ·rintro q G1 l H1 hle hs1 ⟨i,vf,kf,hiq,hO,rfl,rfl,rfl⟩
  by_cases hi:i<to b - fr b
  ·have hpn:fr b+i<n:=by omega
   have gs:=zdN st hpn
   have hst:=hP.st_lt _ hpn
   obtain⟨a3,c3,e3,hr3,hc3⟩:=hrv _ hst Ko
   have hfl:=zi1 (dl k) n st (fr b) i
   have hpl:=zky (dl k) n (st (fr b+i))
   have hmul:i * n≤66000 * 66000:=Nat.mul_le_mul Ko hn
   have hsucc:=zlw (dl k) n st (fr b) i
   have hrall:=fun(H:zb) (k':List Value→Prop)=>hr3.rdSlAll (n:=(zcc (dl k) n (st (fr b+i))).length) (by rw[List.length_map]) H k'
   rcases hO with ⟨aa,rfl,hx0,hx,rfl⟩| ⟨bfm,cfm,spf,rfl,rfl,hx,hcf⟩
   ·have hE:=hs1
    try simp only[zzs] at hE
    repeat(obtain⟨hx',hE⟩:=hE)
    have hnil:zdq (dl k) n st (fr b) i=[]:=List.eq_nil_of_length_eq_zero hx0
    rw[hnil,List.nil_append] at hsucc
    repeat' first
     |with_reducible first|refine Nx.go ?_ |refine Bk.go (fun _=>?_) fun _=>?_ |refine Nb fun nb hnb hnb1 hnb2=>?_ |refine Nr fun nb nsp ncap hnb hncap hnb1 hnb2=>?_
     |simp -dsimp -implicitDefEqProofs (disch:=first|exact Kd|fail) only[go_sem,↓reduceIte,seval,gs,Row.obj hrk,e2,Row.obj hr2,e3,hrall]
    ·rename_i h0
     have hp0:zcc (dl k) n (st (fr b+i))=[]:=List.eq_nil_of_length_eq_zero h0
     exact Upd.now ⟨q - 1,by omega,i+1, .slice aa 0 0,[],by omega,by rw[hsucc,hp0];exact .inl ⟨aa,rfl,rfl,rfl,rfl⟩,rfl,rfl,rfl⟩
    ·refine Upd.leave (H':=(bp, .cells (PC (.slice (some ⟨bs,0,none⟩) n n) va vb (.slice (some ⟨bx,0,none⟩) w csp) (.slice ak W ck) vw vm (W:Nat)) [] 135):: (bx, .cells (zF w fr to mk) spx 159):: (bs, .cells (zj n st) [] 3):: ([(nb, .cells ((zcc (dl k) n (st (fr b+i))).map (Value.int .i64)) nsp 3)]++H)) Ks ?_
     exact⟨q - 1,by omega,i+1,_,_,by omega,by rw[hsucc];exact .inr ⟨nb,ncap,nsp,rfl,rfl,by rw[List.length_map,Nat.mul_one],by rw[List.length_map];omega⟩,rfl,rfl,rfl⟩
   ·have hE:=hs1
    try simp only[zzs] at hE
    repeat(obtain⟨hx',hE⟩:=hE)
    rw[List.length_map,Nat.mul_one] at hx hcf
    repeat' first
     |with_reducible first|refine Nx.go ?_ |refine Bk.go (fun _=>?_) fun _=>?_ |refine Nb fun nb hnb hnb1 hnb2=>?_ |refine Nr fun nb nsp ncap hnb hncap hnb1 hnb2=>?_
     |simp -dsimp -implicitDefEqProofs (disch:=first|exact Kd|fail) only[go_sem,↓reduceIte,seval,gs,Row.obj hrk,e2,Row.obj hr2,e3,hrall,List.length_map]
    refine Upd.leave (H':=(bp, .cells (PC (.slice (some ⟨bs,0,none⟩) n n) va vb (.slice (some ⟨bx,0,none⟩) w csp) (.slice ak W ck) vw vm (W:Nat)) [] 135):: (bx, .cells (zF w fr to mk) spx 159):: (bs, .cells (zj n st) [] 3):: ([(nb, .cells ((zdq (dl k) n st (fr b) i).map (Value.int .i64)++(zcc (dl k) n (st (fr b+i))).map (Value.int .i64)) nsp 3)]++H)) Ks ?_
    exact⟨q - 1,by omega,i+1,_,_,by omega,by rw[hsucc];exact .inr ⟨nb,ncap,nsp,by rw[List.length_append],by rw[List.map_append],by rw[List.length_map,Nat.mul_one],by rw[List.length_map,List.length_append];omega⟩,rfl,rfl,rfl⟩
  ·obtain rfl:i=to b - fr b:=by omega
   have hE:=hs1
   try simp only[zzs] at hE
   repeat(obtain⟨hx',hE⟩:=hE)
   repeat' first
    |with_reducible first|refine Nx.go ?_ |refine Bk.go (fun _=>?_) fun _=>?_ |refine Nb fun nb hnb hnb1 hnb2=>?_ |refine Nr fun nb nsp ncap hnb hncap hnb1 hnb2=>?_
    |simp -dsimp -implicitDefEqProofs (disch:=first|exact Kd|fail) only[go_sem,↓reduceIte,seval]
   exact Upd.now ⟨vf,kf,hO,rfl,rfl,rfl⟩
end Go.Proofs.YtomdbjfdbkejoaaGreatDoor
namespace Go.Proofs.YtomdbjfdbkejoaaGreatDoor
open Go Go.V Go.Proofs
def zfy (D:List Nat):List Value:=D.map fun c:Nat=>Value.int .i64 (c:Int)
theorem zeV (D:List Nat):(zfy D).length=D.length:=List.length_map ..
theorem zAn {n w:Nat} {st pl bf fr to:Nat→Nat} (hP:PInv n w st pl bf fr to fun _=>0) (hn:n≤66000) {L:List Int} (hL: ∀x∈L,∃s:Nat,s<n∧x=s) (hLl:L.length≤5000000000) {a:Option Addr} {c:Nat} {G:za} (hrow:Row G a (L.map (Value.int .i64))) {bp bs ba bl bx cb csp:Nat} {spb spx:List Value} {vk vw vm:Value} {W:Int} {H:zb}:
  Tri Tryz.prog Tryz.f106.ntmps (piece [1,1,1,0] Tryz.f106) G [(0, .pointer (some ⟨bp,0,none⟩)),(6, .slice a L.length c),(9, .slice none 0 0)] ((bp, .cells (PC (.slice (some ⟨bs,0,none⟩) n n) (.slice (some ⟨ba,0,none⟩) n n) (.slice (some ⟨bl,0,none⟩) n cb) (.slice (some ⟨bx,0,none⟩) w csp) vk vw vm W) [] 135):: (bx, .cells (zF w fr to fun _=>0) spx 159):: (bs, .cells (zj n st) [] 3):: (ba, .cells (zj n pl) [] 3):: (bl, .cells (zj n bf) spb 3)::H) (onlyN fun G' l H'=> ∃st' pl' mk' D vd kd,PInv n w st' pl' bf fr to mk'∧(∀x,x<n→(Mkd pl' bf fr mk' x↔(x:Int)∈L))∧D.Nodup∧(∀c,c∈D→c<w∧1≤mk' c)∧(∀c,c∉D→mk' c=0)∧zS [] 3 1 vd D.length (zfy D) kd∧G'=G∧zD [0,9] l=[(0, .pointer (some ⟨bp,0,none⟩)),(9,vd)]∧H'=(bp, .cells (PC (.slice (some ⟨bs,0,none⟩) n n) (.slice (some ⟨ba,0,none⟩) n n) (.slice (some ⟨bl,0,none⟩) n cb) (.slice (some ⟨bx,0,none⟩) w csp) vk vw vm W) [] 135):: (bx, .cells (zF w fr to mk') spx 159):: (bs, .cells (zj n st') [] 3):: (ba, .cells (zj n pl') [] 3):: (bl, .cells (zj n bf) spb 3):: (kd++H)):=by
 have hr1: ∀x:Value,List.replicate 1 x=[x]:=fun _=>rfl
 refine Tri.sepT fun hs0=>?_
 have hE:=hs0
 try simp only[zzs] at hE
 repeat(obtain⟨hx',hE⟩:=hE)
 refine Tri.piece (f:=Tryz.f106) rfl ?_
 refine Tri.run tok [0,1,2,6,8,9,11,13,14,15,18,19,20,21,37,38,39,40,57,72,73,74,75,82,86,87,88] Kk ?_
 repeat' first
  |with_reducible first|refine Nx.go ?_ |refine Bk.go (fun _=>?_) fun _=>?_ |refine Nb fun nb hnb hnb1 hnb2=>?_ |refine Nr fun nb nsp ncap hnb hncap hnb1 hnb2=>?_
  |simp -dsimp -implicitDefEqProofs (disch:=first|exact Kd|fail) only[go_sem,↓reduceIte,seval]
 refine Tri.loopU tok [0,1,2,6,8,9,11,13,14,15,18,19,20,21,37,38,39,40,57,72,73,74,75,82,86,87,88] Kk [0,9,37,38,39] (fun q G' l H'=> ∃ (i:Nat) (st' pl' mk':Nat→Nat) (D:List Nat) (vd:Value) (kd:zb),i+q=L.length∧PInv n w st' pl' bf fr to mk'∧(∀x,x<n→(Mkd pl' bf fr mk' x↔(x:Int)∈L.take i))∧D.Nodup∧(∀c,c∈D→c<w∧1≤mk' c)∧(∀c,c∉D→mk' c=0)∧zS [] 3 1 vd D.length (zfy D) kd∧G'=G∧H'=(bp, .cells (PC (.slice (some ⟨bs,0,none⟩) n n) (.slice (some ⟨ba,0,none⟩) n n) (.slice (some ⟨bl,0,none⟩) n cb) (.slice (some ⟨bx,0,none⟩) w csp) vk vw vm W) [] 135):: (bx, .cells (zF w fr to mk') spx 159):: (bs, .cells (zj n st') [] 3):: (ba, .cells (zj n pl') [] 3):: (bl, .cells (zj n bf) spb 3):: (kd++H)∧l=[(0, .pointer (some ⟨bp,0,none⟩)),(9,vd),(37, .slice a L.length c),(38, .int .i64 (L.length:Nat)),(39, .int .i64 (i:Nat))]) (L.length) ?_ ?_
 ·refine Upd.now ⟨0,st,pl,fun _=>0,[], .slice none 0 0,[],by omega,hP,fun x hx=>⟨fun h=>?_,fun h=>by rw[List.take_zero] at h;cases h⟩,List.nodup_nil,fun c h=>(by cases h),fun c _=>rfl, .inl ⟨none,rfl,rfl,rfl,rfl⟩,rfl,rfl,rfl⟩
  have h:pl x<fr (bf x)+0:=h
  have:=hP.lo x hx
  omega
 ·rintro q G1 l H1 hle hs1 ⟨i,st,pl,mk,D,vd,kd,hiq,hP,hM,hD1,hD2,hD3,hO,rfl,rfl,rfl⟩
  by_cases hi:i<L.length
  ·obtain⟨s,hsn,hse⟩:=hL _ (List.getElem_mem hi)
   have hada:Adr a:=hrow.adr (by rw[List.length_map];omega)
   have hbw:=hP.bl_lt s hsn
   have gb:=zaV bf (sp:=spb) hsn
   have g2:=zlt (fr:=fr) (to:=to) (mk:=mk) (sp:=spx) hbw
   have hDl:D.length≤w:=zfc hD1 fun c hc=>(hD2 c hc).1
   have hw:=hP.nb_le
   have htk:L.take (i+1)=L.take i++[(s:Int)]:=by rw[List.take_succ_eq_append_getElem hi,hse]
   have hnext: ∀ (pl' mk':Nat→Nat),(∀x,x<n→(Mkd pl' bf fr mk' x↔Mkd pl bf fr mk x∨x=s))→ ∀x,x<n→(Mkd pl' bf fr mk' x↔(x:Int)∈L.take (i+1)):=fun pl' mk' h x hx=>by
    rw[h x hx,hM x hx,htk,List.mem_append,List.mem_singleton]
    constructor
    ·rintro(h|h)
     ·exact .inl h
     ·exact .inr (by rw[h])
    ·rintro(h|h)
     ·exact .inl h
     ·exact .inr Ko
   by_cases hz:mk (bf s)=0
   ·have hzi:((mk (bf s):Nat):Int)=0:=by omega
    have hnD:bf s∉D:=fun h=>by have:=(hD2 _ h).2;omega
    have hfin: ∀mk':Nat→Nat,(∀b,b≠bf s→mk' b=mk b)→1≤mk' (bf s)→(D++[bf s]).Nodup∧(∀c,c∈D++[bf s]→c<w∧1≤mk' c)∧ ∀c,c∉D++[bf s]→mk' c=0:=fun mk' h1 h2=>by
     refine⟨List.nodup_append.2 ⟨hD1,by simp,fun x hx y hy=>by rw[List.mem_singleton] at hy;intro e;subst e;subst hy;exact hnD hx⟩,fun c hc=>?_,fun c hc=>?_⟩
     ·rcases List.mem_append.1 hc with hc|hc
      ·rw[h1 c fun e=>hnD (e▸hc)];exact hD2 c hc
      ·rw[List.mem_singleton] at hc;subst hc;exact⟨hbw,h2⟩
     ·rw[List.mem_append,not_or,List.mem_singleton] at hc
      rw[h1 c hc.2];exact hD3 c hc.1
    have hni:zfy (D++[bf s])=zfy D++[.int .i64 (bf s:Nat)]:=by unfold zfy;rw[List.map_append];rfl
    have hnl:=zeV D
    rcases hO with ⟨aa,rfl,hx0,hx,rfl⟩| ⟨bd,cd,spd,rfl,rfl,hx,hcd⟩
    ·have hDn:D=[]:=List.eq_nil_of_length_eq_zero hx0
     subst hDn
     have hE:=hs1
     try simp only[zzs] at hE
     repeat(obtain⟨hx',hE⟩:=hE)
     repeat' first
      |with_reducible first|refine Nx.go ?_ |refine Bk.go (fun _=>?_) fun _=>?_ |refine Nb fun nb hnb hnb1 hnb2=>?_ |refine Nr fun nb nsp ncap hnb hncap hnb1 hnb2=>?_
      |simp -dsimp -implicitDefEqProofs (disch:=first|exact Kd|fail) only[go_sem,↓reduceIte,seval,Row.obj hrow,List.getElem_map,hse,gb,g2,hzi,hr1]
      |with_reducible refine Tri.drawS tok mixed [0,1,2,6,8,9,11,13,14,15,18,19,20,21,37,38,39,40,57,72,73,74,75,82,86,87,88] 10 [3,7,10,13] (.op 0 .plain (.op 1 .plain (.op 2 .plain (.op 3 .held (.op 4 .plain (.op 5 .plain (.op 6 .plain (.op 7 .held (.op 8 .plain (.op 9 .plain (.op 10 .held (.op 11 .plain (.op 12 .plain (.op 13 .held (.op 14 .plain .nil))))))))))))))) Kk [(bp, .cells (PC (.slice (some ⟨bs,0,none⟩) n n) (.slice (some ⟨ba,0,none⟩) n n) (.slice (some ⟨bl,0,none⟩) n cb) (.slice (some ⟨bx,0,none⟩) w csp) vk vw vm W) [] 135),(bl, .cells (zj n bf) spb 3),(bx, .cells (zF w fr to mk) spx 159)] Ks ?_
     refine FnT.upd (FnT.leave (H':=(bp, .cells (PC (.slice (some ⟨bs,0,none⟩) n n) (.slice (some ⟨ba,0,none⟩) n n) (.slice (some ⟨bl,0,none⟩) n cb) (.slice (some ⟨bx,0,none⟩) w csp) vk vw vm W) [] 135):: (bx, .cells (zF w fr to mk) spx 159):: (bs, .cells (zj n st) [] 3):: (ba, .cells (zj n pl) [] 3):: (bl, .cells (zj n bf) spb 3):: ([(nb, .cells [.int .i64 (bf s:Nat)] nsp 3)]++H)) (zoI hP Ko hsn fun r st' pl' mk' hP' hM' h1 h2=>Upd.sepI fun hs2=>Upd.now ?_) Ks)
     obtain⟨f1,f2,f3⟩:=hfin mk' h1 h2
     have hE:=hs2
     try simp only[zzs] at hE
     repeat(obtain⟨hx',hE⟩:=hE)
     repeat' first
      |with_reducible first|refine Nx.go ?_ |refine Bk.go (fun _=>?_) fun _=>?_ |refine Nb fun nb hnb hnb1 hnb2=>?_ |refine Nr fun nb nsp ncap hnb hncap hnb1 hnb2=>?_
      |simp -dsimp -implicitDefEqProofs (disch:=first|exact Kd|fail) only[go_sem,↓reduceIte,seval]
     exact Upd.now ⟨q - 1,by omega,i+1,st',pl',mk',_,_,_,by omega,hP',hnext pl' mk' hM',f1,f2,f3, .inr ⟨nb,ncap,nsp,rfl,rfl,rfl,by simp [zfy] at hncap⊢;omega⟩,rfl,rfl,rfl⟩
    ·have hE:=hs1
     try simp only[zzs] at hE
     repeat(obtain⟨hx',hE⟩:=hE)
     rw[hnl,Nat.mul_one] at hx hcd
     repeat' first
      |with_reducible first|refine Nx.go ?_ |refine Bk.go (fun _=>?_) fun _=>?_ |refine Nb fun nb hnb hnb1 hnb2=>?_ |refine Nr fun nb nsp ncap hnb hncap hnb1 hnb2=>?_
      |simp -dsimp -implicitDefEqProofs (disch:=first|exact Kd|fail) only[go_sem,↓reduceIte,seval,Row.obj hrow,List.getElem_map,hse,gb,g2,hzi,hr1,hnl]
      |with_reducible refine Tri.drawS tok mixed [0,1,2,6,8,9,11,13,14,15,18,19,20,21,37,38,39,40,57,72,73,74,75,82,86,87,88] 10 [3,7,10,13] (.op 0 .plain (.op 1 .plain (.op 2 .plain (.op 3 .held (.op 4 .plain (.op 5 .plain (.op 6 .plain (.op 7 .held (.op 8 .plain (.op 9 .plain (.op 10 .held (.op 11 .plain (.op 12 .plain (.op 13 .held (.op 14 .plain .nil))))))))))))))) Kk [(bp, .cells (PC (.slice (some ⟨bs,0,none⟩) n n) (.slice (some ⟨ba,0,none⟩) n n) (.slice (some ⟨bl,0,none⟩) n cb) (.slice (some ⟨bx,0,none⟩) w csp) vk vw vm W) [] 135),(bl, .cells (zj n bf) spb 3),(bx, .cells (zF w fr to mk) spx 159)] Ks ?_
     refine FnT.upd (FnT.leave (H':=(bp, .cells (PC (.slice (some ⟨bs,0,none⟩) n n) (.slice (some ⟨ba,0,none⟩) n n) (.slice (some ⟨bl,0,none⟩) n cb) (.slice (some ⟨bx,0,none⟩) w csp) vk vw vm W) [] 135):: (bx, .cells (zF w fr to mk) spx 159):: (bs, .cells (zj n st) [] 3):: (ba, .cells (zj n pl) [] 3):: (bl, .cells (zj n bf) spb 3):: ([(nb, .cells (zfy D++[.int .i64 (bf s:Nat)]) nsp 3)]++H)) (zoI hP Ko hsn fun r st' pl' mk' hP' hM' h1 h2=>Upd.sepI fun hs2=>Upd.now ?_) Ks)
     obtain⟨f1,f2,f3⟩:=hfin mk' h1 h2
     have hE:=hs2
     try simp only[zzs] at hE
     repeat(obtain⟨hx',hE⟩:=hE)
     repeat' first
      |with_reducible first|refine Nx.go ?_ |refine Bk.go (fun _=>?_) fun _=>?_ |refine Nb fun nb hnb hnb1 hnb2=>?_ |refine Nr fun nb nsp ncap hnb hncap hnb1 hnb2=>?_
      |simp -dsimp -implicitDefEqProofs (disch:=first|exact Kd|fail) only[go_sem,↓reduceIte,seval]
     exact Upd.now ⟨q - 1,by omega,i+1,st',pl',mk',D++[bf s],_,_,by omega,hP',hnext pl' mk' hM',f1,f2,f3, .inr ⟨nb,ncap,nsp,by rw[List.length_append,List.length_singleton],by rw[hni],by rw[zeV,Nat.mul_one],by rw[zeV,List.length_append,List.length_singleton];omega⟩,rfl,rfl,rfl⟩
   ·have hzi: ¬((mk (bf s):Nat):Int)=0:=by omega
    have hE:=hs1
    try simp only[zzs] at hE
    repeat(obtain⟨hx',hE⟩:=hE)
    repeat' first
     |with_reducible first|refine Nx.go ?_ |refine Bk.go (fun _=>?_) fun _=>?_ |refine Nb fun nb hnb hnb1 hnb2=>?_ |refine Nr fun nb nsp ncap hnb hncap hnb1 hnb2=>?_
     |simp -dsimp -implicitDefEqProofs (disch:=first|exact Kd|fail) only[go_sem,↓reduceIte,seval,Row.obj hrow,List.getElem_map,hse,gb,g2]
     |with_reducible refine Tri.drawS tok mixed [0,1,2,6,8,9,11,13,14,15,18,19,20,21,37,38,39,40,57,72,73,74,75,82,86,87,88] 10 [3,7,10,13] (.op 0 .plain (.op 1 .plain (.op 2 .plain (.op 3 .held (.op 4 .plain (.op 5 .plain (.op 6 .plain (.op 7 .held (.op 8 .plain (.op 9 .plain (.op 10 .held (.op 11 .plain (.op 12 .plain (.op 13 .held (.op 14 .plain .nil))))))))))))))) Kk [(bp, .cells (PC (.slice (some ⟨bs,0,none⟩) n n) (.slice (some ⟨ba,0,none⟩) n n) (.slice (some ⟨bl,0,none⟩) n cb) (.slice (some ⟨bx,0,none⟩) w csp) vk vw vm W) [] 135),(bl, .cells (zj n bf) spb 3),(bx, .cells (zF w fr to mk) spx 159)] Ks ?_
    refine zoI hP Ko hsn fun r st' pl' mk' hP' hM' h1 h2=>?_
    have hin:bf s∈D:=Classical.byContradiction fun h=>hz (hD3 _ h)
    repeat' first
     |with_reducible first|refine Nx.go ?_ |refine Bk.go (fun _=>?_) fun _=>?_ |refine Nb fun nb hnb hnb1 hnb2=>?_ |refine Nr fun nb nsp ncap hnb hncap hnb1 hnb2=>?_
     |simp -dsimp -implicitDefEqProofs (disch:=first|exact Kd|fail) only[go_sem,↓reduceIte,seval]
    exact Upd.now ⟨q - 1,by omega,i+1,st',pl',mk',D,_,_,by omega,hP',hnext pl' mk' hM',hD1,fun c hc=>⟨(hD2 c hc).1,by
     by_cases e:c=bf s
     ·rw[e];exact h2
     ·rw[h1 c e];exact(hD2 c hc).2⟩,fun c hc=>by rw[h1 c fun e=>hc (e▸hin)];exact hD3 c hc,hO,rfl,rfl,rfl⟩
  ·obtain rfl:i=L.length:=by omega
   rw[List.take_length] at hM
   have hE:=hs1
   try simp only[zzs] at hE
   repeat(obtain⟨hx',hE⟩:=hE)
   repeat' first
    |with_reducible first|refine Nx.go ?_ |refine Bk.go (fun _=>?_) fun _=>?_ |refine Nb fun nb hnb hnb1 hnb2=>?_ |refine Nr fun nb nsp ncap hnb hncap hnb1 hnb2=>?_
    |simp -dsimp -implicitDefEqProofs (disch:=first|exact Kd|fail) only[go_sem,↓reduceIte,seval]
   exact Upd.now ⟨st,pl,mk,D,vd,kd,hP,hM,hD1,hD2,hD3,hO,rfl,rfl,rfl⟩
structure ByI (n W:Nat) (al:Nat→Nat) (dl:Nat→Nat→Nat) (k:Nat) (X:Nat→Prop) (bf0 st pl:Nat→Nat) (D:List Nat) (m0 w:Nat) (bf fr to mk:Nat→Nat) (ws:List (Nat×Nat)):Prop where
 P:PInv n w st pl bf fr to mk
 rest: ∀c,c∈D→c<w∧1≤mk c∧ ∀s,s<n→bf s=c→(Mkd pl bf fr mk s↔X s)
 zero: ∀c,c<w→c∉D→mk c=0
 same: ∀s t,s<n→t<n→bf s=bf t→bf s∉D→(X s↔X t)
 fine: ∀s t,s<n→t<n→al s=al t→bf s=bf t
 lab: ∀s t,s<n→t<n→bf s=bf t→bf0 s=bf0 t
 law:zcT n W bf dl ws k X
 nd:ws.Nodup
 bd: ∀p∈ws,p.1<w∧p.2<W
 ms:ws.length+W * (n - w)≤m0
section
variable {n W k m0 w c:Nat} {al bf0 st pl bf fr to mk:Nat→Nat} {dl:Nat→Nat→Nat} {X:Nat→Prop} {D:List Nat} {ws:List (Nat×Nat)}
theorem ByI.all (h:ByI n W al dl k X bf0 st pl (c::D) m0 w bf fr to mk ws) (hnd:(c::D).Nodup) (he:fr c+mk c=to c):ByI n W al dl k X bf0 st pl D m0 w bf fr to (zo mk c 0) ws:=by
 rw[List.nodup_cons] at hnd
 obtain⟨hc1,hc2,hc3⟩:=h.rest c (List.mem_cons_self ..)
 refine⟨h.P.clear c,fun c' hc'=>?_,fun c' h1 h2=>?_,fun s t hs ht e hn=>?_,h.fine,h.lab,h.law,h.nd,h.bd,h.ms⟩
 ·obtain⟨g1,g2,g3⟩:=h.rest c' (List.mem_cons_of_mem _ hc')
  have hne:c'≠c:=fun e=>hnd.1 (e▸hc')
  refine⟨g1,by rw[zba _ _ hne];exact g2,fun s hs e=>?_⟩
  have:=g3 s hs e
  unfold Mkd at this⊢
  rw[e,zba _ _ hne]
  rw[e] at this
  exact this
 ·by_cases e:c'=c
  ·rw[e,zby]
  ·rw[zba _ _ e]
   exact h.zero c' h1 fun hm=>(List.mem_cons.1 hm).elim e h2
 ·by_cases e2:bf s=c
  ·have m1:Mkd pl bf fr mk s:=by have:=h.P.hi s hs;unfold Mkd;rw[e2] at this⊢;omega
   have m2:Mkd pl bf fr mk t:=by have:=h.P.hi t ht;unfold Mkd;rw[←e,e2] at this⊢;omega
   exact⟨fun _=>(hc3 t ht (by rw[←e,e2])).1 m2,fun _=>(hc3 s hs e2).1 m1⟩
  ·exact h.same s t hs ht e fun hm=>(List.mem_cons.1 hm).elim e2 hn
theorem ByI.part (h:ByI n W al dl k X bf0 st pl (c::D) m0 w bf fr to mk ws) (hnd:(c::D).Nodup) (he:fr c+mk c<to c) (hdl: ∀j s,j<W→s<n→dl j s<n) (hX: ∀s t,s<n→t<n→al s=al t→(X s↔X t)) (small:Bool):
  ByI n W al dl k X bf0 st pl D m0 (w+1) (fun s=>if bf s=c∧pl s<fr c+mk c then w else bf s) (zo (zo fr c (fr c+mk c)) w (fr c)) (zo to w (fr c+mk c)) (zo (zo mk c 0) w 0) (zct small c w ws W):=by
 rw[List.nodup_cons] at hnd
 obtain⟨hc1,hc2,hc3⟩:=h.rest c (List.mem_cons_self ..)
 have hbw:=h.P.bl_lt
 have hPN:=h.P.part hc1 hc2 Ko
 obtain⟨l1,l2,l3,l4,l5,l6⟩:=ziX small c w ws W
 have hmk: ∀s,s<n→bf s=c→(pl s<fr c+mk c↔X s):=fun s hs e=>by
  have:=hc3 s hs e
  unfold Mkd at this
  rw[e] at this
  exact this
 have hback: ∀s t,s<n→t<n→(if bf s=c∧pl s<fr c+mk c then w else bf s)=(if bf t=c∧pl t<fr c+mk c then w else bf t)→bf s=bf t:=fun s t hs ht e=>by
  have h1:=hbw s hs
  have h2:=hbw t ht
  split at e
  ·rename_i g1
   split at e
   ·rename_i g2;rw[g1.1,g2.1]
   ·omega
  ·split at e
   ·omega
   ·exact e
 refine⟨hPN,fun c' hc'=>?_,fun c' h1 h2=>?_,fun s t hs ht e hn=>?_,fun s t hs ht e=>?_,fun s t hs ht e=>h.lab s t hs ht (hback s t hs ht e),h.law.split hdl hbw l1 l3 l4,l6 h.nd,fun p hp=>?_,?_⟩
 ·obtain⟨g1,g2,g3⟩:=h.rest c' (List.mem_cons_of_mem _ hc')
  have hne:c'≠c:=fun e=>hnd.1 (e▸hc')
  have hnw:c'≠w:=by omega
  refine⟨by omega,by rw[zba _ _ hnw,zba _ _ hne];exact g2,fun s hs e=>?_⟩
  have e:(if bf s=c∧pl s<fr c+mk c then w else bf s)=c':=e
  have e1:bf s=c':=by
   split at e
   ·omega
   ·exact e
  have:=g3 s hs e1
  unfold Mkd at this⊢
  rw[e1] at this
  show pl s<zo _ w _ (if _ then _ else _)+zo _ w _ (if _ then _ else _)↔_
  rw[e,zba _ _ hnw,zba _ _ hne,zba _ _ hnw,zba _ _ hne]
  exact this
 ·by_cases e:c'=w
  ·rw[e,zby]
  ·rw[zba _ _ e]
   by_cases e2:c'=c
   ·rw[e2,zby]
   ·rw[zba _ _ e2]
    exact h.zero c' Ko fun hm=>(List.mem_cons.1 hm).elim e2 h2
 ·have e:(if bf s=c∧pl s<fr c+mk c then w else bf s)=(if bf t=c∧pl t<fr c+mk c then w else bf t):=e
  have hn:(if bf s=c∧pl s<fr c+mk c then w else bf s)∉D:=hn
  have e0:=hback s t hs ht e
  by_cases e2:bf s=c
  ·have e3:bf t=c:=by rw[←e0,e2]
   have h1:=hbw s hs
   rw[←hmk s hs e2,←hmk t ht e3]
   rw[e2,e3] at e
   simp only[true_and] at e
   by_cases g1:pl s<fr c+mk c
   ·rw[if_pos g1] at e
    refine⟨fun _=>?_,fun _=>g1⟩
    apply Classical.byContradiction
    intro g2
    rw[if_neg g2] at e
    omega
   ·rw[if_neg g1] at e
    refine⟨fun g=>absurd g g1,fun g2=>?_⟩
    rw[if_pos g2] at e
    omega
  ·rw[if_neg fun g=>e2 g.1] at hn
   exact h.same s t hs ht e0 fun hm=>(List.mem_cons.1 hm).elim e2 hn
 ·show(if _ then _ else _)=(if _ then _ else _)
  have e0:=h.fine s t hs ht e
  by_cases e2:bf s=c
  ·have e3:bf t=c:=by rw[←e0,e2]
   have hx:=hX s t hs ht e
   rw[←hmk s hs e2,←hmk t ht e3] at hx
   by_cases g1:pl s<fr c+mk c
   ·rw[if_pos ⟨e2,g1⟩,if_pos ⟨e3,hx.1 g1⟩]
   ·rw[if_neg fun g=>g1 g.2,if_neg fun g=>g1 (hx.2 g.2)];exact e0
  ·rw[if_neg fun g=>e2 g.1,if_neg fun g=>e2 (by rw[e0];exact g.1)];exact e0
 ·rcases l2 p hp with g| ⟨g1,g2⟩
  ·have:=h.bd p g;omega
  ·refine⟨?_,g2⟩
   rcases g1 with g|g <;> omega
 ·have h1:=h.ms
  have h2:=hPN.nb_le
  have h3:W * (n - w)=W * (n - (w+1))+W:=by rw[←Nat.mul_succ];congr 1;omega
  omega
end
end Go.Proofs.YtomdbjfdbkejoaaGreatDoor
namespace Go.Proofs.YtomdbjfdbkejoaaGreatDoor
open Go Go.V Go.Proofs
theorem zwc {D:List Nat} {i:Nat} (h:i<D.length):(zfy D)[i]'(by rw[zeV];exact h)= .int .i64 (D[i]:Nat):=by simp [zfy]
theorem zAo {n W k m0:Nat} {al bf0 st pl:Nat→Nat} {dl:Nat→Nat→Nat} {X:Nat→Prop} (hdl: ∀j s,j<W→s<n→dl j s<n) (hX: ∀s t,s<n→t<n→al s=al t→(X s↔X t)) (hn:n≤66000) (hW:W≤256) {D:List Nat} (hD:D.Nodup) (hDl:D.length≤66000) {w:Nat} {bf fr to mk:Nat→Nat} {ws:List (Nat×Nat)} (hI:ByI n W al dl k X bf0 st pl D m0 w bf fr to mk ws) (hm0:m0≤20000000) {am:List ((Int×Int)×Int)} (hA:zbz am ws) {a:Option Addr} {c:Nat} {G:za} (hrow:Row G a (zfy D)) {bp bs ba bl bx bm cb csp:Nat} {spb spx:List Value} (hcx:w * 3+spx.length=csp * 3) {vk vw:Value} {kw:zb} (hO:WtO vw ws kw) {H:zb}:
  Tri Tryz.prog Tryz.f106.ntmps (piece [1,1,1,1] Tryz.f106) G [(0, .pointer (some ⟨bp,0,none⟩)),(9, .slice a D.length c)] ((bp, .cells (PC (.slice (some ⟨bs,0,none⟩) n n) (.slice (some ⟨ba,0,none⟩) n n) (.slice (some ⟨bl,0,none⟩) n cb) (.slice (some ⟨bx,0,none⟩) w csp) vk vw (.map (some bm)) (W:Nat)) [] 135):: (bx, .cells (zF w fr to mk) spx 159):: (bs, .cells (zj n st) [] 3):: (bl, .cells (zj n bf) spb 3):: (bm, .map (am.map fun p=>(zaC p.1,Value.int .i64 p.2))):: (kw++H)) (onlyN fun G' l H'=> ∃ (w:Nat) (bf fr to mk:Nat→Nat) (ws:List (Nat×Nat)) (am:List ((Int×Int)×Int)) (vw:Value) (kw:zb) (bx csp:Nat) (spx:List Value),ByI n W al dl k X bf0 st pl [] m0 w bf fr to mk ws∧zbz am ws∧WtO vw ws kw∧w * 3+spx.length=csp * 3∧G'=G∧H'=(bp, .cells (PC (.slice (some ⟨bs,0,none⟩) n n) (.slice (some ⟨ba,0,none⟩) n n) (.slice (some ⟨bl,0,none⟩) n cb) (.slice (some ⟨bx,0,none⟩) w csp) vk vw (.map (some bm)) (W:Nat)) [] 135):: (bx, .cells (zF w fr to mk) spx 159):: (bs, .cells (zj n st) [] 3):: (bl, .cells (zj n bf) spb 3):: (bm, .map (am.map fun p=>(zaC p.1,Value.int .i64 p.2))):: (kw++H)):=by
 refine Tri.sepT fun hs0=>?_
 have hE:=hs0
 try simp only[zzs] at hE
 repeat(obtain⟨hx',hE⟩:=hE)
 refine Tri.piece (f:=Tryz.f106) rfl ?_
 refine Tri.run tok [0,1,2,6,8,9,11,13,14,15,18,19,20,21,37,38,39,40,57,72,73,74,75,82,86,87,88] Kk ?_
 repeat' first
  |with_reducible first|refine Nx.go ?_ |refine Bk.go (fun _=>?_) fun _=>?_ |refine Nb fun nb hnb hnb1 hnb2=>?_ |refine Nr fun nb nsp ncap hnb hncap hnb1 hnb2=>?_
  |simp -dsimp -implicitDefEqProofs (disch:=first|exact Kd|fail) only[go_sem,↓reduceIte,seval]
 refine Tri.loopS tok [0,1,2,6,8,9,11,13,14,15,18,19,20,21,37,38,39,40,57,72,73,74,75,82,86,87,88] (.seq .run (.seq .run (.seq (.block (.seq .run (.seq .run (.seq .run .cut)))) .cut))) Kk [0,72,73,74] (fun q G' l H'=> ∃ (i w:Nat) (bf fr to mk:Nat→Nat) (ws:List (Nat×Nat)) (am:List ((Int×Int)×Int)) (vw:Value) (kw:zb) (bx csp:Nat) (spx:List Value),i+q=D.length∧ByI n W al dl k X bf0 st pl (D.drop i) m0 w bf fr to mk ws∧zbz am ws∧WtO vw ws kw∧w * 3+spx.length=csp * 3∧G'=G∧H'=(bp, .cells (PC (.slice (some ⟨bs,0,none⟩) n n) (.slice (some ⟨ba,0,none⟩) n n) (.slice (some ⟨bl,0,none⟩) n cb) (.slice (some ⟨bx,0,none⟩) w csp) vk vw (.map (some bm)) (W:Nat)) [] 135):: (bx, .cells (zF w fr to mk) spx 159):: (bs, .cells (zj n st) [] 3):: (bl, .cells (zj n bf) spb 3):: (bm, .map (am.map fun p=>(zaC p.1,Value.int .i64 p.2))):: (kw++H)∧l=[(0, .pointer (some ⟨bp,0,none⟩)),(72, .slice a D.length c),(73, .int .i64 (D.length:Nat)),(74, .int .i64 (i:Nat))]) (D.length) ?_ ?_
 ·exact Upd.now ⟨0,w,bf,fr,to,mk,ws,am,vw,kw,bx,csp,spx,by omega,hI,hA,hO,hcx,rfl,rfl,rfl⟩
 ·clear hI hA hO hcx hs0
  rintro q G1 l H1 hle hs1 ⟨i,w,bf,fr,to,mk,ws,am,vw,kw,bx,csp,spx,hiq,hI,hA,hO,hcx,rfl,rfl,rfl⟩
  have hE:=hs1
  try simp only[zzs] at hE
  repeat(obtain⟨hx',hE⟩:=hE)
  by_cases hi:i<D.length
  ·have hada:Adr a:=hrow.adr (by rw[zeV];omega)
   have hgi:=zwc hi
   have hil:i< (zfy D).length:=by rw[zeV];exact hi
   have hdr:D.drop i=D[i]::D.drop (i+1):=List.drop_eq_getElem_cons hi
   obtain⟨c,hc⟩: ∃c,c=D[i]:=⟨_,rfl⟩
   rw[←hc] at hgi hdr
   rw[hdr] at hI
   have hndd:(c::D.drop (i+1)).Nodup:=by rw[←hdr];exact hD.sublist (List.drop_sublist i D)
   obtain⟨hc1,hc2,hc3⟩:=hI.rest c (List.mem_cons_self ..)
   have hPn:=hI.P.nb_le
   have hms:=hI.ms
   repeat' first
    |with_reducible first|refine Nx.go ?_ |refine Bk.go (fun _=>?_) fun _=>?_ |refine Nb fun nb hnb hnb1 hnb2=>?_ |refine Nr fun nb nsp ncap hnb hncap hnb1 hnb2=>?_
    |simp -dsimp -implicitDefEqProofs (disch:=first|exact Kd|fail) only[go_sem,↓reduceIte,seval,Row.obj hrow,hgi]
   refine zy7 hI.P Ko hc1 hc2 hcx (fun he=>?_) fun bx' csp' spx' he hcx'=>?_
   ·have hI2:=hI.all hndd he
    repeat' first
     |with_reducible first|refine Nx.go ?_ |refine Bk.go (fun _=>?_) fun _=>?_ |refine Nb fun nb hnb hnb1 hnb2=>?_ |refine Nr fun nb nsp ncap hnb hncap hnb1 hnb2=>?_
     |simp -dsimp -implicitDefEqProofs (disch:=first|exact Kd|fail) only[go_sem,↓reduceIte,seval]
    refine Tri.run tok [0,1,2,6,8,9,11,13,14,15,18,19,20,21,37,38,39,40,57,72,73,74,75,82,86,87,88] Kk ?_
    repeat' first
     |with_reducible first|refine Nx.go ?_ |refine Bk.go (fun _=>?_) fun _=>?_ |refine Nb fun nb hnb hnb1 hnb2=>?_ |refine Nr fun nb nsp ncap hnb hncap hnb1 hnb2=>?_
     |simp -dsimp -implicitDefEqProofs (disch:=first|exact Kd|fail) only[go_sem,↓reduceIte,seval]
    exact Upd.now ⟨q - 1,by omega,i+1,w,bf,fr,to,_,ws,am,vw,kw,bx,csp,spx,by omega,hI2,hA,hO,hcx,rfl,rfl,rfl⟩
   ·have hI2:=hI.part hndd he hdl hX (decide (zo to w (fr c+mk c) w - zo (zo fr c (fr c+mk c)) w (fr c) w≤zo to w (fr c+mk c) c - zo (zo fr c (fr c+mk c)) w (fr c) c))
    have hPn2:=hI2.P.nb_le
    repeat' first
     |with_reducible first|refine Nx.go ?_ |refine Bk.go (fun _=>?_) fun _=>?_ |refine Nb fun nb hnb hnb1 hnb2=>?_ |refine Nr fun nb nsp ncap hnb hncap hnb1 hnb2=>?_
     |simp -dsimp -implicitDefEqProofs (disch:=first|exact Kd|fail) only[go_sem,↓reduceIte,seval]
    refine Tri.live [0,13,14,72,73,74] ?_
    refine Tri.upd (Upd.go (H':=(bp, .cells (PC (.slice (some ⟨bs,0,none⟩) n n) (.slice (some ⟨ba,0,none⟩) n n) (.slice (some ⟨bl,0,none⟩) n cb) (.slice (some ⟨bx',0,none⟩) (w+1) csp') vk vw (.map (some bm)) (W:Nat)) [] 135):: (bx', .cells (zF (w+1) (zo (zo fr c (fr c+mk c)) w (fr c)) (zo to w (fr c+mk c)) (zo (zo mk c 0) w 0)) spx' 159):: (bm, .map (am.map fun p=>(zaC p.1,Value.int .i64 p.2))):: (kw++((bs, .cells (zj n st) [] 3):: (bl, .cells (zj n (fun s=>if bf s=c∧pl s<fr c+mk c then w else bf s)) spb 3)::H))) Ks (Upd.now ?_))
    refine Tri.isPiece [1,1,1,1,1,0,0,1,1,0,0,1,1,1] Tryz.f106 Kk ?_
    refine Tri.onlyN (zAl (W:=W) Ko hA Ko Ko Ko Ko (fun b hb=>?_) hO) fun G2 l2 H2 hle2 hs2 hM=>?_
    ·have h1:=hI2.P.ne b hb
     have h2:=hI2.P.le b hb
     exact⟨by omega,by omega⟩
    ·obtain⟨vw2,am2,kw2,hO2,hA2,rfl,hfr,rfl⟩:=hM
     simp only[go_sem]
     refine Tri.live [0,72,73,74] ?_
     rw[hfr]
     refine Tri.run tok [0,1,2,6,8,9,11,13,14,15,18,19,20,21,37,38,39,40,57,72,73,74,75,82,86,87,88] Kk ?_
     repeat' first
      |with_reducible first|refine Nx.go ?_ |refine Bk.go (fun _=>?_) fun _=>?_ |refine Nb fun nb hnb hnb1 hnb2=>?_ |refine Nr fun nb nsp ncap hnb hncap hnb1 hnb2=>?_
      |simp -dsimp -implicitDefEqProofs (disch:=first|exact Kd|fail) only[go_sem,↓reduceIte,seval]
     refine Upd.leave (H':=(bp, .cells (PC (.slice (some ⟨bs,0,none⟩) n n) (.slice (some ⟨ba,0,none⟩) n n) (.slice (some ⟨bl,0,none⟩) n cb) (.slice (some ⟨bx',0,none⟩) (w+1) csp') vk vw2 (.map (some bm)) (W:Nat)) [] 135):: (bx', .cells (zF (w+1) (zo (zo fr c (fr c+mk c)) w (fr c)) (zo to w (fr c+mk c)) (zo (zo mk c 0) w 0)) spx' 159):: (bs, .cells (zj n st) [] 3):: (bl, .cells (zj n (fun s=>if bf s=c∧pl s<fr c+mk c then w else bf s)) spb 3):: (bm, .map (am2.map fun p=>(zaC p.1,Value.int .i64 p.2))):: (kw2++H)) Ks ?_
     exact⟨q - 1,by omega,i+1,w+1,_,_,_,_,_,am2,vw2,kw2,bx',csp',spx',by omega,hI2,hA2,hO2,hcx',rfl,rfl,rfl⟩
  ·have hd:D.drop i=[]:=List.drop_eq_nil_of_le Ko
   rw[hd] at hI
   repeat' first
    |with_reducible first|refine Nx.go ?_ |refine Bk.go (fun _=>?_) fun _=>?_ |refine Nb fun nb hnb hnb1 hnb2=>?_ |refine Nr fun nb nsp ncap hnb hncap hnb1 hnb2=>?_
    |simp -dsimp -implicitDefEqProofs (disch:=first|exact Kd|fail) only[go_sem,↓reduceIte,seval]
   exact Upd.now ⟨w,bf,fr,to,mk,ws,am,vw,kw,bx,csp,spx,hI,hA,hO,hcx,rfl,rfl⟩
structure HInv (n W:Nat) (al bf0:Nat→Nat) (w:Nat) (st pl bf fr to:Nat→Nat) (ws:List (Nat×Nat)):Prop where
 P:PInv n w st pl bf fr to fun _=>0
 fine: ∀s t,s<n→t<n→al s=al t→bf s=bf t
 lab: ∀s t,s<n→t<n→bf s=bf t→bf0 s=bf0 t
 nd:ws.Nodup
 bd: ∀p∈ws,p.1<w∧p.2<W
theorem zAM {n W w:Nat} {al bf0 st pl bf fr to:Nat→Nat} {dl:Nat→Nat→Nat} (hdl: ∀j s,j<W→s<n→dl j s<n) (hal: ∀j s t,j<W→s<n→t<n→al s=al t→al (dl j s)=al (dl j t)) (hn:n≤66000) (hW:W≤256) {ws:List (Nat×Nat)} (hI:HInv n W al bf0 w st pl bf fr to ws) {b k:Nat} (hb:b<w) (hk:k<W) (hlaw:zcT n W bf dl ws k fun s=>bf (dl k s)=b) (hm0:ws.length+W * (n - w)≤20000000) {am:List ((Int×Int)×Int)} (hA:zbz am ws) {G:za} {bp bs ba bl bx bm cb csp:Nat} {spb spx:List Value} (hcx:w * 3+spx.length=csp * 3) {vk vw:Value} {kw:zb} (hO:WtO vw ws kw) (hbk:BkT G n W dl vk) {H:zb} {R:Value→za→zb→Prop}
  (hR: ∀G' w' st' pl' bf' fr' to' ws' am' vw' kw' bx' csp' spx',PLe G G'→HInv n W al bf0 w' st' pl' bf' fr' to' ws'→zcT n W bf' dl ws' 0 (fun _=>False)→ws'.length+W * (n - w')≤ws.length+W * (n - w)→zbz am' ws'→w' * 3+spx'.length=csp' * 3→WtO vw' ws' kw'→R (.tuple #[]) G' ((bp, .cells (PC (.slice (some ⟨bs,0,none⟩) n n) (.slice (some ⟨ba,0,none⟩) n n) (.slice (some ⟨bl,0,none⟩) n cb) (.slice (some ⟨bx',0,none⟩) w' csp') vk vw' (.map (some bm)) (W:Nat)) [] 135):: (bx', .cells (zF w' fr' to' (fun _=>0)) spx' 159):: (bs, .cells (zj n st') [] 3):: (ba, .cells (zj n pl') [] 3):: (bl, .cells (zj n bf') spb 3):: (bm, .map (am'.map fun p=>(zaC p.1,Value.int .i64 p.2))):: (kw'++H))):
  FnT Tryz.prog 106 [.pointer (some ⟨bp,0,none⟩), .int .i64 (b:Nat), .int .i64 (k:Nat)] G ((bp, .cells (PC (.slice (some ⟨bs,0,none⟩) n n) (.slice (some ⟨ba,0,none⟩) n n) (.slice (some ⟨bl,0,none⟩) n cb) (.slice (some ⟨bx,0,none⟩) w csp) vk vw (.map (some bm)) (W:Nat)) [] 135):: (bx, .cells (zF w fr to (fun _=>0)) spx 159):: (bs, .cells (zj n st) [] 3):: (ba, .cells (zj n pl) [] 3):: (bl, .cells (zj n bf) spb 3):: (bm, .map (am.map fun p=>(zaC p.1,Value.int .i64 p.2))):: (kw++H)) R:=by
 have hP:=hI.P
 have hbt:=hP.le b hb
 have hbf:=hP.ne b hb
 obtain⟨L,hL⟩: ∃L,L=zdq (dl k) n st (fr b) (to b - fr b):=⟨_,rfl⟩
 have hmem: ∀x:Int,x∈L↔ ∃s:Nat,s<n∧bf (dl k s)=b∧x=s:=fun x=>by
  rw[hL,zub]
  constructor
  ·rintro⟨s,h1,⟨j,h2,h3⟩,h4⟩
   exact⟨s,h1,by rw[h3];exact hP.own b _ hb Ko Ko,h4⟩
  ·rintro⟨s,h1,h2,h3⟩
   have hds:=hdl k s hk h1
   have hlo:=hP.lo _ hds
   have hhi:=hP.hi _ hds
   rw[h2] at hlo hhi
   exact⟨s,h1,⟨pl (dl k s) - fr b,by omega,by rw[show fr b+(pl (dl k s) - fr b)=pl (dl k s) by omega,hP.st_pl _ hds]⟩,h3⟩
 have hLl:L.length≤5000000000:=by
  have h1:=zi1 (dl k) n st (fr b) (to b - fr b)
  have h2:(to b - fr b) * n≤66000 * 66000:=Nat.mul_le_mul Ko hn
  rw[hL];omega
 refine FnT.bodyS tok [0,1,2,6,8,9,11,13,14,15,18,19,20,21,37,38,39,40,57,72,73,74,75,82,86,87,88] (.seq .run (.seq .cut (.seq .cut (.seq .cut .cut)))) Tryz.func106 rfl Kk Kk (by show _≤97;simp) fun hsep=>?_
 rw[Tryz.results106]
 have hE:=hsep
 try simp only[zzs] at hE
 repeat(obtain⟨hx',hE⟩:=hE)
 repeat' first
  |with_reducible first|refine Nx.go ?_ |refine Bk.go (fun _=>?_) fun _=>?_ |refine Nb fun nb hnb hnb1 hnb2=>?_ |refine Nr fun nb nsp ncap hnb hncap hnb1 hnb2=>?_
  |simp -dsimp -implicitDefEqProofs (disch:=first|exact Kd|fail) only[go_sem,↓reduceIte,seval]
 refine Tri.live [0,1,2,6] ?_
 refine Tri.upd (Upd.go (H':=(bp, .cells (PC (.slice (some ⟨bs,0,none⟩) n n) (.slice (some ⟨ba,0,none⟩) n n) (.slice (some ⟨bl,0,none⟩) n cb) (.slice (some ⟨bx,0,none⟩) w csp) vk vw (.map (some bm)) (W:Nat)) [] 135):: (bx, .cells (zF w fr to (fun _=>0)) spx 159):: (bs, .cells (zj n st) [] 3):: ((ba, .cells (zj n pl) [] 3):: (bl, .cells (zj n bf) spb 3):: (bm, .map (am.map fun p=>(zaC p.1,Value.int .i64 p.2))):: (kw++H))) Ks (Upd.now ?_))
 refine Tri.isPiece [1,0] Tryz.f106 Kk ?_
 refine Tri.onlyN (zAm hP hn hb hk hbk) fun G1 l1 H1 hle1 hs1 hM=>?_
 obtain⟨vf,kf,hOf,rfl,hfr,rfl⟩:=hM
 rw[←hL] at hOf
 simp only[go_sem]
 refine Tri.live [0,6] ?_
 rw[hfr]
 refine Tri.upd (Upd.go (H':=kf++((bp, .cells (PC (.slice (some ⟨bs,0,none⟩) n n) (.slice (some ⟨ba,0,none⟩) n n) (.slice (some ⟨bl,0,none⟩) n cb) (.slice (some ⟨bx,0,none⟩) w csp) vk vw (.map (some bm)) (W:Nat)) [] 135):: (bx, .cells (zF w fr to (fun _=>0)) spx 159):: (bs, .cells (zj n st) [] 3):: (ba, .cells (zj n pl) [] 3):: (bl, .cells (zj n bf) spb 3):: ((bm, .map (am.map fun p=>(zaC p.1,Value.int .i64 p.2))):: (kw++H)))) Ks (Upd.sepI fun hx'=>zS.shareApp hOf hx' fun G2 af cf hle2 hs2 evf hrf hcf=>?_))
 subst evf
 refine Tri.run tok [0,1,2,6,8,9,11,13,14,15,18,19,20,21,37,38,39,40,57,72,73,74,75,82,86,87,88] Kk ?_
 repeat' first
  |with_reducible first|refine Nx.go ?_ |refine Bk.go (fun _=>?_) fun _=>?_ |refine Nb fun nb hnb hnb1 hnb2=>?_ |refine Nr fun nb nsp ncap hnb hncap hnb1 hnb2=>?_
  |simp -dsimp -implicitDefEqProofs (disch:=first|exact Kd|fail) only[go_sem,↓reduceIte,seval]
 refine Tri.isPiece [1,1,1,0] Tryz.f106 Kk ?_
 refine Tri.onlyN (zAn hP hn (fun x hx=>by obtain⟨s,h1,_,h3⟩:=(hmem x).1 hx;exact⟨s,h1,h3⟩) hLl hrf) fun G3 l3 H3 hle3 hs3 hM=>?_
 obtain⟨st2,pl2,mk2,D,vd,kd,hP2,hM2,hD1,hD2,hD3,hOd,rfl,hfr3,rfl⟩:=hM
 simp only[go_sem]
 refine Tri.live [0,9] ?_
 rw[hfr3]
 refine Tri.upd (Upd.go (H':=kd++((bp, .cells (PC (.slice (some ⟨bs,0,none⟩) n n) (.slice (some ⟨ba,0,none⟩) n n) (.slice (some ⟨bl,0,none⟩) n cb) (.slice (some ⟨bx,0,none⟩) w csp) vk vw (.map (some bm)) (W:Nat)) [] 135):: (bx, .cells (zF w fr to mk2) spx 159):: (bs, .cells (zj n st2) [] 3):: (bl, .cells (zj n bf) spb 3):: (bm, .map (am.map fun p=>(zaC p.1,Value.int .i64 p.2))):: (kw++((ba, .cells (zj n pl2) [] 3)::H)))) Ks (Upd.sepI fun hx'=>zS.shareApp hOd hx' fun G4 ad cd hle4 hs4 evd hrd hcd=>?_))
 subst evd
 have hX: ∀s,s<n→(Mkd pl2 bf fr mk2 s↔bf (dl k s)=b):=fun s hs=>by
  rw[hM2 s hs,hmem]
  constructor
  ·rintro⟨t,h1,h2,h3⟩
   obtain rfl:s=t:=by omega
   exact h2
  ·exact fun h=>⟨s,hs,h,rfl⟩
 have hBy:ByI n W al dl k (fun s=>bf (dl k s)=b) bf0 st2 pl2 D (ws.length+W * (n - w)) w bf fr to mk2 ws:=by
  refine⟨hP2,fun c hc=>⟨(hD2 c hc).1,(hD2 c hc).2,fun s hs _=>hX s hs⟩,fun c _ hc=>hD3 c hc,fun s t hs ht e hn=>?_,hI.fine,hI.lab,hlaw,hI.nd,hI.bd,Nat.le_refl _⟩
  have hz:=hD3 _ hn
  have h1: ¬Mkd pl2 bf fr mk2 s:=fun h=>by
   unfold Mkd at h
   have:=hP2.lo s hs
   omega
  have h2: ¬Mkd pl2 bf fr mk2 t:=fun h=>by
   unfold Mkd at h
   rw[←e] at h
   have:=hP2.lo t ht
   rw[←e] at this
   omega
  show bf (dl k s)=b↔bf (dl k t)=b
  rw[←hX s hs,←hX t ht]
  exact⟨fun h=>absurd h h1,fun h=>absurd h h2⟩
 refine Tri.isPiece [1,1,1,1] Tryz.f106 Kk ?_
 refine Tri.onlyN (zAo hdl (fun s t hs ht e=>by
  show bf (dl k s)=b↔bf (dl k t)=b
  rw[hI.fine _ _ (hdl k s hk hs) (hdl k t hk ht) (hal k s t hk hs ht e)]) hn hW hD1 (by have:=zfc hD1 fun c hc=>(hD2 c hc).1;have:=hP.nb_le;omega) hBy hm0 hA hrd hcx hO) fun G5 l5 H5 hle5 hs5 hM=>?_
 obtain⟨w',bf',fr',to',mk',ws',am',vw',kw',bx',csp',spx',hI',hA',hO',hcx',rfl,rfl⟩:=hM
 simp only[go_sem]
 have hmz: ∀c,c<w'→mk' c=0:=fun c hc=>hI'.zero c hc (by simp)
 have hrz:zF w' fr' to' mk'=zF w' fr' to' fun _=>0:=zh3 fun i hi=>⟨rfl,rfl,hmz i hi⟩
 have hPz:PInv n w' st2 pl2 bf' fr' to' fun _=>0:=⟨hI'.P.st_lt,hI'.P.pl_lt,hI'.P.pl_st,hI'.P.st_pl,hI'.P.bl_lt,hI'.P.lo,hI'.P.hi,hI'.P.ne,hI'.P.le,fun c hc=>by have:=hI'.P.ne c hc;omega,hI'.P.own⟩
 rw[hrz]
 unfold zv
 refine Upd.leave (H':=(bp, .cells (PC (.slice (some ⟨bs,0,none⟩) n n) (.slice (some ⟨ba,0,none⟩) n n) (.slice (some ⟨bl,0,none⟩) n cb) (.slice (some ⟨bx',0,none⟩) w' csp') vk vw' (.map (some bm)) (W:Nat)) [] 135):: (bx', .cells (zF w' fr' to' (fun _=>0)) spx' 159):: (bs, .cells (zj n st2) [] 3):: (ba, .cells (zj n pl2) [] 3):: (bl, .cells (zj n bf') spb 3):: (bm, .map (am'.map fun p=>(zaC p.1,Value.int .i64 p.2))):: (kw'++H)) Ks ?_
 exact hR G5 w' st2 pl2 bf' fr' to' ws' am' vw' kw' bx' csp' spx' (hle2.trans hle4) ⟨hPz,hI'.fine,hI'.lab,hI'.nd,hI'.bd⟩ (hI'.law.end fun s t hs ht e=>hI'.same s t hs ht e (by simp)) hI'.ms hA' hcx' hO'
end Go.Proofs.YtomdbjfdbkejoaaGreatDoor
namespace Go.Proofs.YtomdbjfdbkejoaaGreatDoor
open Go Go.V Go.Proofs
end Go.Proofs.YtomdbjfdbkejoaaGreatDoor
namespace Go.Proofs.YtomdbjfdbkejoaaGreatDoor
open Go Go.V Go.Proofs
end Go.Proofs.YtomdbjfdbkejoaaGreatDoor
namespace Go.Proofs.YtomdbjfdbkejoaaGreatDoor
open Go Go.V Go.Proofs
noncomputable def zbh (d:DfaT) (k:Nat):List Int:=if zaF (zc d)=true then lvl d k else[]
theorem zeW {d:DfaT} (h:zc d) (k:Nat):zbh d k=lvl d k:=by unfold zbh;rw[if_pos (zK h)]
theorem zx9 {d:DfaT} (h: ¬zc d) (k:Nat):zbh d k=[]:=by unfold zbh;rw[if_neg];rw[zA h];exact Bool.false_ne_true
end Go.Proofs.YtomdbjfdbkejoaaGreatDoor
namespace Go.Proofs.YtomdbjfdbkejoaaGreatDoor
open Go Go.V Go.Proofs
theorem WtO.isS {vw:Value} {ws:List (Nat×Nat)} {kw:zb} (h:WtO vw ws kw): ∃a c,vw= .slice a ws.length c:=by
 rcases h with ⟨a,rfl,rfl,_⟩| ⟨b,cap,sp,rfl,_⟩| ⟨b,sp,rfl,_⟩
 ·exact⟨a,0,rfl⟩
 ·exact⟨_,_,rfl⟩
 ·exact⟨_,_,rfl⟩
def zh6 (n:Nat) (f:Nat→Nat):List Int:=(List.range n).map fun i=>((f i:Nat):Int)
theorem zeX (n:Nat) (f:Nat→Nat):(zh6 n f).length=n:=by simp [zh6]
theorem zwd (n:Nat) (f:Nat→Nat):zj n f=(zh6 n f).map (Value.int .i64):=by unfold zj zh6;rw[List.map_map];rfl
theorem zoJ {n:Nat} (f:Nat→Nat) {i:Nat} (h:i<n):(zh6 n f)[i]'(by rw[zeX];exact h)=(f i:Int):=by simp [zh6]
def alF (d:DfaT) (N:Nat) (s:Nat):Nat:=((lvl d N).getD s 0).toNat
theorem zoK {d:DfaT} (h:d.next.length=d.label.length) (N:Nat) {s:Nat} (hs:s<d.next.length):(lvl d N)[s]'(by rw[zal h];exact hs)=(alF d N s:Int):=by
 have hl:s< (lvl d N).length:=by rw[zal h];exact hs
 unfold alF
 rw[List.getD_eq_getElem?_getD,List.getElem?_eq_getElem hl]
 have hb:(lvl d N)[s]∈zg (lvl d N):=by rw[zcH];exact List.getElem_mem hl
 have:=zbd hb
 show _=(((lvl d N)[s]).toNat:Int)
 omega
theorem zhr {d:DfaT} (h:d.next.length=d.label.length) (N:Nat) {s t:Nat} (hs:s<d.next.length) (ht:t<d.next.length):alF d N s=alF d N t↔(lvl d N)[s]'(by rw[zal h];exact hs)=(lvl d N)[t]'(by rw[zal h];exact ht):=by
 rw[zoK h N hs,zoK h N ht];omega
theorem zlx {d:DfaT} (hok:zc d) {s k:Nat} (hs:s<d.next.length) (hk:k<d.width.toNat) (N:Nat):atL (lvl d N) (atL d.next[s] k)=(alF d N (dlF d k s):Int):=by
 obtain⟨h1,h2,h3⟩:=ziY hok hs (k:=k) Ko
 have h4:=hok.2.2.1
 have e1:atL d.next[s] (k:Int)=(dlF d k s:Int):=by
  rw[zU (by simpa using h1)]
  simp only[Int.toNat_natCast]
  exact h2
 rw[e1,zU (by simp only[Int.toNat_natCast];rw[zal h4];omega)]
 simp only[Int.toNat_natCast]
 exact zoK h4 N Ko
theorem zwe {d:DfaT} (hok:zc d) {N:Nat} (hN:znD d N) {s t k:Nat} (hs:s<d.label.length) (ht:t<d.label.length) (hk:k<d.width.toNat) (e:alF d N s=alF d N t):alF d N (dlF d k s)=alF d N (dlF d k t):=by
 have h4:=hok.2.2.1
 have hs':s<d.next.length:=by omega
 have ht':t<d.next.length:=by omega
 have h1:=(zeS h4 N hs' ht').1 (by simp only[hN.2.1];exact(zhr h4 N hs' ht').1 e)
 have h2:=h1.2 k hk
 rw[zlx hok hs' hk,zlx hok ht' hk] at h2
 omega
theorem zuc {d:DfaT} (hok:zc d) {N:Nat} (hN:znD d N) {bf:Nat→Nat} (hfine: ∀s t,s<d.label.length→t<d.label.length→alF d N s=alF d N t→bf s=bf t) (hlab: ∀s t,s<d.label.length→t<d.label.length→bf s=bf t→blF d.label s=blF d.label t)
  (hst: ∀s t k,s<d.label.length→t<d.label.length→k<d.width.toNat→bf s=bf t→bf (dlF d k s)=bf (dlF d k t)):zg (zh6 d.label.length bf)=zbh d 65536:=by
 have h4:=hok.2.2.1
 have hle:N≤65536:=by have:=hN.1;have:=hok.2.1;omega
 rw[zeW hok,zmN hN.2.1 hle,←zcH d N]
 have hlev: ∀m s t (hs:s<d.next.length) (ht:t<d.next.length),bf s=bf t→alF d m s=alF d m t:=by
  intro m
  induction m with
  |zero=>
   intro s t hs ht e
   rw[zhr h4 0 hs ht,zhY h4 Ko Ko]
   exact(zqK Ko Ko).1 (hlab s t Ko Ko e)
  |succ m ih=>
   intro s t hs ht e
   rw[zhr h4 (m+1) hs ht,zeS h4 m hs ht]
   refine⟨(zhr h4 m hs ht).1 (ih s t hs ht e),fun k hk=>?_⟩
   rw[zlx hok hs hk,zlx hok ht hk]
   have h1:=(ziY hok hs (k:=k) Ko).2.2
   have h2:=(ziY hok ht (k:=k) Ko).2.2
   rw[ih _ _ Ko Ko (hst s t k Ko Ko hk e)]
 have hll:(zh6 d.label.length bf).length=(lvl d N).length:=by rw[zeX,zal h4,h4]
 refine zfl hll fun i j hi hj=>?_
 rw[zeX] at hi hj
 rw[zoJ bf hi,zoJ bf hj]
 have e1:=zhr h4 N (s:=i) (t:=j) Ko Ko
 constructor
 ·intro e;exact e1.1 (hlev N i j Ko Ko Ko)
 ·intro e;have:=hfine i j hi hj (e1.2 e);omega
set_option maxRecDepth 4000 in
theorem zAp {d:DfaT} {C:List Value} {an al ay:Option Addr} {cn cl cs:Nat} {rs:List Value} {G:za} {H:zb} (O:OpenD G d C an al ay cn cl cs rs) {n w W:Nat} (hW:d.width=(W:Int)) (hW2:W≤256) (hw:w≤66000) {b1 bp bx bm csp:Nat} {vs va vb vk:Value}:
  Tri Tryz.prog Tryz.f67.ntmps (piece [1,1,1,0] Tryz.f67) G [(1, .pointer (some ⟨b1,0,none⟩)),(3, .pointer (some ⟨bp,0,none⟩))] ((bp, .cells (PC vs va vb (.slice (some ⟨bx,0,none⟩) w csp) vk (.slice none 0 0) (.map (some bm)) (W:Nat)) [] 135):: (bm, .map []):: (b1, .cells C [] 27)::H) (onlyN fun G' l H'=> ∃ (ws:List (Nat×Nat)) (am:List ((Int×Int)×Int)) (vw:Value) (kw:zb),(∀b k,b<w→k<W→(b,k)∈ws)∧ws.Nodup∧(∀p∈ws,p.1<w∧p.2<W)∧ws.length≤w * W∧zbz am ws∧WtO vw ws kw∧G'=G∧zD [3] l=[(3, .pointer (some ⟨bp,0,none⟩))]∧H'=(bp, .cells (PC vs va vb (.slice (some ⟨bx,0,none⟩) w csp) vk vw (.map (some bm)) (W:Nat)) [] 135):: (bm, .map (am.map fun p=>(zaC p.1,Value.int .i64 p.2))):: (kw++H)):=by
 have hCl:=O.len
 have hCw:=O.w
 have hmulw:w * W≤66000 * 256:=Nat.mul_le_mul hw hW2
 refine Tri.sepT fun hs0=>?_
 have hE:=hs0
 try simp only[zzs] at hE
 repeat(obtain⟨hx',hE⟩:=hE)
 refine Tri.piece (f:=Tryz.f67) rfl ?_
 refine Tri.run tok [0,1,2,3,4,5,6,9,16,17,18,21,22,23,36] Kk ?_
 repeat' first
  |with_reducible first|refine Nx.go ?_ |refine Bk.go (fun _=>?_) fun _=>?_ |refine Nb fun nb hnb hnb1 hnb2=>?_
  |simp -dsimp -implicitDefEqProofs (disch:=first|exact Kd|fail) only[go_sem,↓reduceIte,seval]
 refine Tri.loopU tok [0,1,2,3,4,5,6,9,16,17,18,21,22,23,36] Kk [1,3,16,17] (fun q G' l H'=> ∃ (i:Nat) (ws:List (Nat×Nat)) (am:List ((Int×Int)×Int)) (vw:Value) (kw:zb),i+q=w∧(∀b k,b<i→k<W→(b,k)∈ws)∧ws.Nodup∧(∀p∈ws,p.1<w∧p.2<W)∧ws.length≤i * W∧zbz am ws∧WtO vw ws kw∧G'=G∧H'=(bp, .cells (PC vs va vb (.slice (some ⟨bx,0,none⟩) w csp) vk vw (.map (some bm)) (W:Nat)) [] 135):: (b1, .cells C [] 27):: (bm, .map (am.map fun p=>(zaC p.1,Value.int .i64 p.2))):: (kw++H)∧l=[(1, .pointer (some ⟨b1,0,none⟩)),(3, .pointer (some ⟨bp,0,none⟩)),(16, .int .i64 (w:Nat)),(17, .int .i64 (i:Nat))]) (w) ?_ ?_
 ·exact Upd.leave (H':=(bp, .cells (PC vs va vb (.slice (some ⟨bx,0,none⟩) w csp) vk (.slice none 0 0) (.map (some bm)) (W:Nat)) [] 135):: (b1, .cells C [] 27):: (bm, .map []):: ([]++H)) Ks ⟨0,[],[],_,[],by omega,fun b k h=>by omega,List.nodup_nil,fun p h=>(by cases h),by simp,zbz.nil, .inl ⟨none,rfl,rfl,rfl⟩,rfl,rfl,rfl⟩
 ·rintro q G1 l H1 hle hs1 ⟨i,ws,am,vw,kw,hiq,h1,h2,h3,h4,hA,hO,rfl,rfl,rfl⟩
  have hE:=hs1
  try simp only[zzs] at hE
  repeat(obtain⟨hx',hE⟩:=hE)
  by_cases hi:i<w
  ·repeat' first
    |with_reducible first|refine Nx.go ?_ |refine Bk.go (fun _=>?_) fun _=>?_ |refine Nb fun nb hnb hnb1 hnb2=>?_
    |simp -dsimp -implicitDefEqProofs (disch:=first|exact Kd|fail) only[go_sem,↓reduceIte,seval,hCl,hCw,hW]
   refine Tri.loopU tok [0,1,2,3,4,5,6,9,16,17,18,21,22,23,36] Kk [1,3,4,16,17,21,22] (fun q2 G' l H'=> ∃ (j:Nat) (ws:List (Nat×Nat)) (am:List ((Int×Int)×Int)) (vw:Value) (kw:zb),j+q2=W∧(∀b k,b<i→k<W→(b,k)∈ws)∧(∀k,k<j→(i,k)∈ws)∧ws.Nodup∧(∀p∈ws,p.1<w∧p.2<W)∧ws.length≤i * W+j∧zbz am ws∧WtO vw ws kw∧G'=G1∧H'=(bp, .cells (PC vs va vb (.slice (some ⟨bx,0,none⟩) w csp) vk vw (.map (some bm)) (W:Nat)) [] 135):: (b1, .cells C [] 27):: (bm, .map (am.map fun p=>(zaC p.1,Value.int .i64 p.2))):: (kw++H)∧l=[(1, .pointer (some ⟨b1,0,none⟩)),(3, .pointer (some ⟨bp,0,none⟩)),(4, .int .i64 (i:Nat)),(16, .int .i64 (w:Nat)),(17, .int .i64 (i:Nat)),(21, .int .i64 (W:Nat)),(22, .int .i64 (j:Nat))]) (W) ?_ ?_
   ·exact Upd.now ⟨0,ws,am,vw,kw,by omega,h1,fun k h=>by omega,h2,h3,by omega,hA,hO,rfl,rfl,rfl⟩
   ·clear h1 h2 h3 h4 hA hO hs1
    rintro q2 G2 l H2 hle2 hs2 ⟨j,ws,am,vw,kw,hjq,h1,h1',h2,h3,h4,hA,hO,rfl,rfl,rfl⟩
    have hE:=hs2
    try simp only[zzs] at hE
    repeat(obtain⟨hx',hE⟩:=hE)
    have hmul:i * W+W≤w * W:=by rw[←Nat.succ_mul];exact Nat.mul_le_mul_right W Ko
    by_cases hj:j<W
    ·repeat' first
      |with_reducible first|refine Nx.go ?_ |refine Bk.go (fun _=>?_) fun _=>?_ |refine Nb fun nb hnb hnb1 hnb2=>?_
      |simp -dsimp -implicitDefEqProofs (disch:=first|exact Kd|fail) only[go_sem,↓reduceIte,seval]
     refine FnT.upd (FnT.leave (H':=(bp, .cells (PC vs va vb (.slice (some ⟨bx,0,none⟩) w csp) vk vw (.map (some bm)) (W:Nat)) [] 135):: (bm, .map (am.map fun p=>(zaC p.1,Value.int .i64 p.2))):: (kw++((b1, .cells C [] 27)::H))) (znE Ko hA hO fun vw' am' kw' hO' hA'=>?_) Ks)
     refine Upd.go (H':=(bp, .cells (PC vs va vb (.slice (some ⟨bx,0,none⟩) w csp) vk vw' (.map (some bm)) (W:Nat)) [] 135):: (b1, .cells C [] 27):: (bm, .map (am'.map fun p=>(zaC p.1,Value.int .i64 p.2))):: (kw'++H)) Ks (Upd.now ?_)
     repeat' first
      |with_reducible first|refine Nx.go ?_ |refine Bk.go (fun _=>?_) fun _=>?_ |refine Nb fun nb hnb hnb1 hnb2=>?_
      |simp -dsimp -implicitDefEqProofs (disch:=first|exact Kd|fail) only[go_sem,↓reduceIte,seval]
     refine Upd.now ⟨q2 - 1,by omega,j+1,_,am',vw',kw',by omega,fun b k g1 g2=>zkq (h1 b k g1 g2),fun k hk=>?_,zlq h2,fun p hp=>?_,?_,hA',hO',rfl,rfl,rfl⟩
     ·rcases Nat.lt_or_ge k j with g|g
      ·exact zkq (h1' k g)
      ·obtain rfl:k=j:=by omega
       exact zhZ _ _
     ·rcases zmg hp with g|g
      ·exact h3 p g
      ·rw[g];exact⟨hi,hj⟩
     ·have:=zkr ws (i,j);omega
    ·obtain rfl:j=W:=by omega
     repeat' first
      |with_reducible first|refine Nx.go ?_ |refine Bk.go (fun _=>?_) fun _=>?_ |refine Nb fun nb hnb hnb1 hnb2=>?_
      |simp -dsimp -implicitDefEqProofs (disch:=first|exact Kd|fail) only[go_sem,↓reduceIte,seval]
     refine Upd.now ⟨q - 1,by omega,i+1,ws,am,vw,kw,by omega,fun b k g1 g2=>?_,h2,h3,by rw[Nat.succ_mul];omega,hA,hO,rfl,rfl,rfl⟩
     rcases Nat.lt_or_ge b i with g|g
     ·exact h1 b k g g2
     ·obtain rfl:b=i:=by omega
      exact h1' k g2
  ·obtain rfl:i=w:=by omega
   repeat' first
    |with_reducible first|refine Nx.go ?_ |refine Bk.go (fun _=>?_) fun _=>?_ |refine Nb fun nb hnb hnb1 hnb2=>?_
    |simp -dsimp -implicitDefEqProofs (disch:=first|exact Kd|fail) only[go_sem,↓reduceIte,seval]
   refine Upd.leave (H':=(bp, .cells (PC vs va vb (.slice (some ⟨bx,0,none⟩) i csp) vk vw (.map (some bm)) (W:Nat)) [] 135):: (bm, .map (am.map fun p=>(zaC p.1,Value.int .i64 p.2))):: (kw++H)) Ks ?_
   exact⟨ws,am,vw,kw,h1,h2,h3,h4,hA,hO,rfl,rfl,rfl⟩
set_option maxRecDepth 4000 in
theorem zAq {n W:Nat} {al bf0:Nat→Nat} {dl:Nat→Nat→Nat} (hdl: ∀j s,j<W→s<n→dl j s<n) (hal: ∀j s t,j<W→s<n→t<n→al s=al t→al (dl j s)=al (dl j t)) (hn:n≤66000) (hW:W≤256) {w:Nat} {st pl bf fr to:Nat→Nat} {ws:List (Nat×Nat)} (hI:HInv n W al bf0 w st pl bf fr to ws) (hlaw:zcT n W bf dl ws 0 fun _=>False) (hms:ws.length+W * (n - w)≤20000000) {am:List ((Int×Int)×Int)} (hA:zbz am ws) {G:za} {bp bs ba bl bx bm cb csp:Nat} {spb spx:List Value} (hcx:w * 3+spx.length=csp * 3) {vk vw:Value} {kw:zb} (hO:WtO vw ws kw) (hbk:BkT G n W dl vk) {H:zb}:
  Tri Tryz.prog Tryz.f67.ntmps (piece [1,1,1,1,0] Tryz.f67) G [(3, .pointer (some ⟨bp,0,none⟩))] ((bp, .cells (PC (.slice (some ⟨bs,0,none⟩) n n) (.slice (some ⟨ba,0,none⟩) n n) (.slice (some ⟨bl,0,none⟩) n cb) (.slice (some ⟨bx,0,none⟩) w csp) vk vw (.map (some bm)) (W:Nat)) [] 135):: (bx, .cells (zF w fr to (fun _=>0)) spx 159):: (bs, .cells (zj n st) [] 3):: (ba, .cells (zj n pl) [] 3):: (bl, .cells (zj n bf) spb 3):: (bm, .map (am.map fun p=>(zaC p.1,Value.int .i64 p.2))):: (kw++H)) (onlyN fun G' l H'=> ∃ (w:Nat) (st pl bf fr to:Nat→Nat) (am:List ((Int×Int)×Int)) (vw:Value) (kw:zb) (bx csp:Nat) (spx:List Value),PLe G G'∧HInv n W al bf0 w st pl bf fr to []∧zcT n W bf dl [] 0 (fun _=>False)∧zD [3] l=[(3, .pointer (some ⟨bp,0,none⟩))]∧H'=(bp, .cells (PC (.slice (some ⟨bs,0,none⟩) n n) (.slice (some ⟨ba,0,none⟩) n n) (.slice (some ⟨bl,0,none⟩) n cb) (.slice (some ⟨bx,0,none⟩) w csp) vk vw (.map (some bm)) (W:Nat)) [] 135):: (bx, .cells (zF w fr to (fun _=>0)) spx 159):: (bs, .cells (zj n st) [] 3):: (ba, .cells (zj n pl) [] 3):: (bl, .cells (zj n bf) spb 3):: (bm, .map (am.map fun p=>(zaC p.1,Value.int .i64 p.2))):: (kw++H)):=by
 refine Tri.sepT fun hs0=>?_
 have hE:=hs0
 try simp only[zzs] at hE
 repeat(obtain⟨hx',hE⟩:=hE)
 refine Tri.piece (f:=Tryz.f67) rfl ?_
 refine Tri.run tok [0,1,2,3,4,5,6,9,16,17,18,21,22,23,36] Kk ?_
 repeat' first
  |with_reducible first|refine Nx.go ?_ |refine Bk.go (fun _=>?_) fun _=>?_ |refine Nb fun nb hnb hnb1 hnb2=>?_
  |simp -dsimp -implicitDefEqProofs (disch:=first|exact Kd|fail) only[go_sem,↓reduceIte,seval]
 refine Tri.loopU tok [0,1,2,3,4,5,6,9,16,17,18,21,22,23,36] Kk [3] (fun q G' l H'=> ∃ (w:Nat) (st pl bf fr to:Nat→Nat) (ws:List (Nat×Nat)) (am:List ((Int×Int)×Int)) (vw:Value) (kw:zb) (bx csp:Nat) (spx:List Value),ws.length+W * (n - w)=q∧q≤20000000∧PLe G G'∧HInv n W al bf0 w st pl bf fr to ws∧zcT n W bf dl ws 0 (fun _=>False)∧zbz am ws∧w * 3+spx.length=csp * 3∧WtO vw ws kw∧H'=(bp, .cells (PC (.slice (some ⟨bs,0,none⟩) n n) (.slice (some ⟨ba,0,none⟩) n n) (.slice (some ⟨bl,0,none⟩) n cb) (.slice (some ⟨bx,0,none⟩) w csp) vk vw (.map (some bm)) (W:Nat)) [] 135):: (bx, .cells (zF w fr to (fun _=>0)) spx 159):: (bs, .cells (zj n st) [] 3):: (ba, .cells (zj n pl) [] 3):: (bl, .cells (zj n bf) spb 3):: (bm, .map (am.map fun p=>(zaC p.1,Value.int .i64 p.2))):: (kw++H)∧l=[(3, .pointer (some ⟨bp,0,none⟩))]) ((ws.length+W * (n - w))) ?_ ?_
 ·exact Upd.now ⟨w,st,pl,bf,fr,to,ws,am,vw,kw,bx,csp,spx,rfl,hms,PLe.refl _,hI,hlaw,hA,hcx,hO,rfl,rfl⟩
 ·clear hI hlaw hms hA hcx hO hs0
  rintro q G1 l H1 hle hs1 ⟨w,st,pl,bf,fr,to,ws,am,vw,kw,bx,csp,spx,hq,hms,hle1,hI,hlaw,hA,hcx,hO,rfl,rfl⟩
  obtain⟨av,cv,ev⟩:=hO.isS
  rcases List.eq_nil_or_concat ws with rfl| ⟨ws0,⟨b,k⟩,hws⟩
  ·rw[ev] at hs1⊢
   have hE:=hs1
   try simp only[zzs] at hE
   repeat(obtain⟨hx',hE⟩:=hE)
   repeat' first
    |with_reducible first|refine Nx.go ?_ |refine Bk.go (fun _=>?_) fun _=>?_ |refine Nb fun nb hnb hnb1 hnb2=>?_
    |simp -dsimp -implicitDefEqProofs (disch:=first|exact Kd|fail) only[go_sem,↓reduceIte,seval]
   refine Upd.now ⟨w,st,pl,bf,fr,to,am,vw,kw,bx,csp,spx,hle1,hI,hlaw,rfl,?_⟩
   rw[ev];rfl
  ·rw[List.concat_eq_append] at hws
   subst hws
   have hlen:(ws0++[(b,k)]).length=ws0.length+1:=by simp
   rw[hlen] at ev hq
   obtain⟨hb,hk⟩:=hI.bd (b,k) (List.mem_append_right _ (List.mem_singleton.2 rfl))
   have hnd:=hI.nd
   have hlaw0:=hlaw.take
   have hI0:HInv n W al bf0 w st pl bf fr to ws0:=⟨hI.P,hI.fine,hI.lab,(List.nodup_append.1 hnd).1,fun p hp=>hI.bd p (List.mem_append_left _ hp)⟩
   rw[ev] at hs1 hO⊢
   have hE:=hs1
   try simp only[zzs] at hE
   repeat(obtain⟨hx',hE⟩:=hE)
   repeat' first
    |with_reducible first|refine Nx.go ?_ |refine Bk.go (fun _=>?_) fun _=>?_ |refine Nb fun nb hnb hnb1 hnb2=>?_
    |simp -dsimp -implicitDefEqProofs (disch:=first|exact Kd|fail) only[go_sem,↓reduceIte,seval]
   refine FnT.upd (FnT.leave (H':=(bp, .cells (PC (.slice (some ⟨bs,0,none⟩) n n) (.slice (some ⟨ba,0,none⟩) n n) (.slice (some ⟨bl,0,none⟩) n cb) (.slice (some ⟨bx,0,none⟩) w csp) vk (.slice av (ws0.length+1) cv) (.map (some bm)) (W:Nat)) [] 135):: (bm, .map (am.map fun p=>(zaC p.1,Value.int .i64 p.2))):: (kw++((bx, .cells (zF w fr to (fun _=>0)) spx 159):: (bs, .cells (zj n st) [] 3):: (ba, .cells (zj n pl) [] 3):: (bl, .cells (zj n bf) spb 3)::H))) (zy8 Ko hA hnd hO fun vw' am' kw' hO' hA'=>?_) Ks)
   refine Upd.go (H':=(bp, .cells (PC (.slice (some ⟨bs,0,none⟩) n n) (.slice (some ⟨ba,0,none⟩) n n) (.slice (some ⟨bl,0,none⟩) n cb) (.slice (some ⟨bx,0,none⟩) w csp) vk vw' (.map (some bm)) (W:Nat)) [] 135):: (bx, .cells (zF w fr to (fun _=>0)) spx 159):: (bs, .cells (zj n st) [] 3):: (ba, .cells (zj n pl) [] 3):: (bl, .cells (zj n bf) spb 3):: (bm, .map (am'.map fun p=>(zaC p.1,Value.int .i64 p.2))):: (kw'++H)) Ks (Upd.sepI fun hs2=>Upd.now ?_)
   have hE:=hs2
   try simp only[zzs] at hE
   repeat(obtain⟨hx',hE⟩:=hE)
   repeat' first
    |with_reducible first|refine Nx.go ?_ |refine Bk.go (fun _=>?_) fun _=>?_ |refine Nb fun nb hnb hnb1 hnb2=>?_
    |simp -dsimp -implicitDefEqProofs (disch:=first|exact Kd|fail) only[go_sem,↓reduceIte,seval]
   refine FnT.upd (FnT.leave (H':=(bp, .cells (PC (.slice (some ⟨bs,0,none⟩) n n) (.slice (some ⟨ba,0,none⟩) n n) (.slice (some ⟨bl,0,none⟩) n cb) (.slice (some ⟨bx,0,none⟩) w csp) vk vw' (.map (some bm)) (W:Nat)) [] 135):: (bx, .cells (zF w fr to (fun _=>0)) spx 159):: (bs, .cells (zj n st) [] 3):: (ba, .cells (zj n pl) [] 3):: (bl, .cells (zj n bf) spb 3):: (bm, .map (am'.map fun p=>(zaC p.1,Value.int .i64 p.2))):: (kw'++H)) (zAM hdl hal hn hW hI0 hb hk hlaw0 Ko hA' hcx hO' (hbk.mono hle1) fun G2 w2 st2 pl2 bf2 fr2 to2 ws2 am2 vw2 kw2 bx2 csp2 spx2 hle2 hI2 hlaw2 hms2 hA2 hcx2 hO2=>Upd.now ?_) Ks)
   repeat' first
    |with_reducible first|refine Nx.go ?_ |refine Bk.go (fun _=>?_) fun _=>?_ |refine Nb fun nb hnb hnb1 hnb2=>?_
    |simp -dsimp -implicitDefEqProofs (disch:=first|exact Kd|fail) only[go_sem,↓reduceIte,seval]
   exact Upd.now ⟨ws2.length+W * (n - w2),by omega,w2,st2,pl2,bf2,fr2,to2,ws2,am2,vw2,kw2,bx2,csp2,spx2,rfl,by omega,hle1.trans hle2,hI2,hlaw2,hA2,hcx2,hO2,rfl,rfl⟩
end Go.Proofs.YtomdbjfdbkejoaaGreatDoor
namespace Go.Proofs.YtomdbjfdbkejoaaGreatDoor
open Go Go.V Go.Proofs
set_option maxRecDepth 4000 in
theorem zud {d:DfaT} (hsm:zx d) {G:za} {H:zb} {R:Value→za→zb→Prop} {v:Value} (hv:IsD G d v)
  (hR: ∀G' v',PLe G G'→Sep G' (zm H)→Sl G' (Value.int .i64) v' (zbh d 65536)→R v' G' H):FnT Tryz.prog 67 [v] G H R:=by
 obtain⟨C,an,al,ay,cn,cl,cs,rs,rfl,O⟩:=hv.opened
 have hCl:=O.len
 have hCa:=O.all
 refine FnT.sep ?_
 by_cases hok:zc d
 ·have hb:=zK hok
  obtain⟨hk1,hk2,hk3,hk4,hk5,hk6,hk7⟩:=id hok
  obtain⟨N,hN⟩:=zqH hk3 hk1
  obtain⟨n,hnl⟩: ∃n,n=d.label.length:=⟨_,rfl⟩
  obtain⟨W,hWd⟩: ∃W:Nat,W=d.width.toNat:=⟨_,rfl⟩
  have hw1:0≤d.width:=by omega
  have hW:d.width=(W:Int):=by omega
  have hW2:W≤256:=by
   have h2:=zai d.of
   have h3:=O.ofl
   omega
  have hdl: ∀j s,j<W→s<n→dlF d j s<n:=fun j s hj hs=>by
   have:=(ziY hok (s:=s) (k:=j) Ko Ko).2.2
   omega
  have hal: ∀j s t,j<W→s<n→t<n→alF d N s=alF d N t→alF d N (dlF d j s)=alF d N (dlF d j t):=fun j s t hj hs ht e=>zwe hok hN Ko Ko Ko e
  have hfin:=fun bf=>zuc hok hN (bf:=bf)
  refine FnT.bodyS tok [0,1,2,3,4,5,6,9,16,17,18,21,22,23,36] (.seq .run (.seq .run (.seq .run (.seq .cut (.seq .cut .cut))))) Tryz.func67 rfl Kk Kk (by show _≤50;simp) fun hsep=>?_
  rw[Tryz.results67]
  have hE:=hsep
  try simp only[zzs] at hE
  repeat(obtain⟨hx',hE⟩:=hE)
  repeat' first
   |with_reducible first|refine Nx.go ?_ |refine Bk.go (fun _=>?_) fun _=>?_ |refine Nb fun nb hnb hnb1 hnb2=>?_
   |simp -dsimp -implicitDefEqProofs (disch:=first|exact Kd|fail) only[go_sem,↓reduceIte,seval, -List.reduceReplicate,List.toList_toArray,hCl,hCa,hb]
   |with_reducible refine zaE hsm O.is ?_
  obtain⟨b1,e10⟩: ∃x,x=nb:=⟨_,rfl⟩
  subst e10
  refine zp2 hsm hok hnl hW hW2 O.is fun G2 bp bs ba bl bm cb spb vsp ks vk st pl w fr to hle2 hncb hP hks hbk=>?_
  have hw0:=hP.bl_lt 0 Ko
  have hwn:=hP.nb_le
  rcases hks with ⟨_,_,h0,_,_⟩| ⟨bx,csp,spx,rfl,rfl,hxl,hxc⟩
  ·omega
  rw[zbu] at hxc
  repeat' first
   |with_reducible first|refine Nx.go ?_ |refine Bk.go (fun _=>?_) fun _=>?_ |refine Nb fun nb hnb hnb1 hnb2=>?_
   |simp -dsimp -implicitDefEqProofs (disch:=first|exact Kd|fail) only[go_sem,↓reduceIte,seval]
  refine Tri.live [1,3] ?_
  refine Tri.upd (Upd.go (H':=(bp, .cells (PC (.slice (some ⟨bs,0,none⟩) n n) (.slice (some ⟨ba,0,none⟩) n n) (.slice (some ⟨bl,0,none⟩) n cb) (.slice (some ⟨bx,0,none⟩) w csp) vk (.slice none 0 0) (.map (some bm)) (W:Nat)) [] 135):: (bm, .map []):: (b1, .cells C [] 27):: ((bx, .cells (zF w fr to (fun _=>0)) spx 159):: (bs, .cells (zj n st) [] 3):: (ba, .cells (zj n pl) [] 3):: (bl, .cells (zj n (blF d.label)) spb 3)::H)) Ks (Upd.now ?_))
  refine Tri.isPiece [1,1,1,0] Tryz.f67 Kk ?_
  refine Tri.onlyN (zAp (n:=n) (O.mono hle2) hW hW2 Ko) fun G3 l3 H3 hle3 hs3 hM=>?_
  obtain⟨ws,am,vw,kw,h1,h2,h3,h4,hA,hO,rfl,hfr,rfl⟩:=hM
  simp only[go_sem]
  refine Tri.live [3] ?_
  rw[hfr]
  have hmul:w * W+W * (n - w)=W * n:=by
   rw[Nat.mul_comm w W,←Nat.mul_add];congr 1;omega
  have hmul2:W * n≤256 * 65536:=Nat.mul_le_mul hW2 Ko
  refine Tri.upd (Upd.go (H':=(bp, .cells (PC (.slice (some ⟨bs,0,none⟩) n n) (.slice (some ⟨ba,0,none⟩) n n) (.slice (some ⟨bl,0,none⟩) n cb) (.slice (some ⟨bx,0,none⟩) w csp) vk vw (.map (some bm)) (W:Nat)) [] 135):: (bx, .cells (zF w fr to (fun _=>0)) spx 159):: (bs, .cells (zj n st) [] 3):: (ba, .cells (zj n pl) [] 3):: (bl, .cells (zj n (blF d.label)) spb 3):: (bm, .map (am.map fun p=>(zaC p.1,Value.int .i64 p.2))):: (kw++H)) Ks (Upd.now ?_))
  refine Tri.isPiece [1,1,1,1,0] Tryz.f67 Kk ?_
  refine Tri.onlyN (zAq (al:=alF d N) (bf0:=blF d.label) hdl hal Ko hW2 ⟨hP,fun s t hs ht e=>?_,fun s t _ _ e=>e,h2,h3⟩ (fun s t j hs ht hj e ne=> .inl (h1 _ j (hP.bl_lt _ (hdl j s hj hs)) hj)) Ko hA hxc hO hbk) fun G4 l4 H4 hle4 hs4 hM=>?_
  ·rw[zqK Ko Ko,←zhY hk3 Ko Ko]
   exact zkp hk3 Ko Ko N (Nat.zero_le N) ((zhr hk3 N Ko Ko).1 e)
  ·obtain⟨w',st',pl',bf',fr',to',am',vw',kw',bx',csp',spx',hle34,hI',hlaw',hfr4,rfl⟩:=hM
   simp only[go_sem]
   refine Tri.live [3] ?_
   rw[hfr4]
   have hres:=hfin bf' (fun s t hs ht e=>hI'.fine s t Ko Ko e) (fun s t hs ht e=>hI'.lab s t Ko Ko e) (fun s t k hs ht hk e=>hlaw'.done Ko Ko Ko e)
   rw[←hnl] at hres
   refine Tri.upd (Upd.go (H':=(bl, .cells (zj n bf') spb 3):: (bp, .cells (PC (.slice (some ⟨bs,0,none⟩) n n) (.slice (some ⟨ba,0,none⟩) n n) (.slice (some ⟨bl,0,none⟩) n cb) (.slice (some ⟨bx',0,none⟩) w' csp') vk vw' (.map (some bm)) (W:Nat)) [] 135)::H) Ks (Upd.sepI fun hx'=>Upd.shareRow hx'.1.1 fun G5 hle5 hs5 hr5=>?_))
   rw[zwd] at hr5
   have hE:=hs5
   try simp only[zzs] at hE
   repeat(obtain⟨hx',hE⟩:=hE)
   refine Tri.run tok [0,1,2,3,4,5,6,9,16,17,18,21,22,23,36] Kk ?_
   repeat' first
    |with_reducible first|refine Nx.go ?_ |refine Bk.go (fun _=>?_) fun _=>?_ |refine Nb fun nb hnb hnb1 hnb2=>?_
    |simp -dsimp -implicitDefEqProofs (disch:=first|exact Kd|fail) only[go_sem,↓reduceIte,seval]
   refine zoc (l:=zh6 n bf') (by rw[zeX];omega) ⟨_,cb,by rw[zeX],hr5,by rw[zeX];exact hncb⟩ fun G6 v6 hle6 hs6 hsl6=>?_
   rw[hres] at hsl6
   repeat' first
    |with_reducible first|refine Nx.go ?_ |refine Bk.go (fun _=>?_) fun _=>?_ |refine Nb fun nb hnb hnb1 hnb2=>?_
    |simp -dsimp -implicitDefEqProofs (disch:=first|exact Kd|fail) only[go_sem,↓reduceIte,seval]
   unfold zv
   refine Upd.leave (H':=H) Ks ?_
   exact fun _ hs=>hR G6 v6 (hle2.trans (hle34.trans (hle5.trans hle6))) hs hsl6
 ·have hb:=zA hok
  rw[zx9 hok] at hR
  refine FnT.body tok [0,1,2,3,4,5,6,9,16,17,18,21,22,23,36] Tryz.func67 rfl Kk Kk (by show _≤50;simp) fun hsep=>?_
  rw[Tryz.results67]
  have hE:=hsep
  try simp only[zzs] at hE
  repeat(obtain⟨hx',hE⟩:=hE)
  repeat' first
   |with_reducible first|refine Nx.go ?_ |refine Bk.go (fun _=>?_) fun _=>?_ |refine Nb fun nb hnb hnb1 hnb2=>?_
   |simp -dsimp -implicitDefEqProofs (disch:=first|exact Kd|fail) only[go_sem,↓reduceIte,seval, -List.reduceReplicate,List.toList_toArray,hCl,hCa,hb]
   |with_reducible refine zaE hsm O.is ?_
  unfold zv
  refine Upd.leave (H':=H) Ks ?_
  exact fun _ hs=>hR G _ (PLe.refl _) hs (Sl.nil _ _)
end Go.Proofs.YtomdbjfdbkejoaaGreatDoor
namespace Go.Proofs.YtomdbjfdbkejoaaGreatDoor
open Go Go.V Go.Proofs
def zbf (d:DfaT) (m:List Int):List Int:=(zy m).map fun s=>d.label.getD s.toNat 0
def zoL (d:DfaT) (m:List Int) (j:Nat) (vl:Value) (kl:zb):Prop:=
 (j=0∧vl= .slice none 0 0∧kl=[])∨ ∃bl c2 sp2,vl= .slice (some ⟨bl,0,none⟩) j c2∧kl=[(bl, .cells (((zbf d m).take j).map (Value.int .i64)) sp2 3)]∧j+sp2.length=c2
theorem zxa {d:DfaT} {m:List Int} {C:List Value} {an al ay:Option Addr} {cn cl cs:Nat} {rs:List Value} {G:za} {H:zb} (O:OpenD G d C an al ay cn cl cs rs) {v0 v1 v6 v35 v36 v37:Value} {b2 b4 b7:Nat} {j t:Nat} (hj:j< (zy m).length) (hjb:j<65536) (ht:t<d.label.length) (hsj:(zy m)[j]=(t:Int)) {vn vl vs:Value} {kl:zb} (hout:zoL d m j vl kl):
  Tri Tryz.prog Tryz.f66.ntmps (piece [1,1,1,1,0,1,0,0,1,1,0,0,1,1,1,1] Tryz.f66) G [(0,v0),(1,v1),(2, .pointer (some ⟨b2,0,none⟩)),(4, .pointer (some ⟨b4,0,none⟩)),(5, .int .i64 0),(6,v6),(7, .pointer (some ⟨b7,0,none⟩)),(9, .int .i64 (t:Nat)),(35,v35),(36,v36),(37,v37)] ((b7, .cells (zd d vn vl vs) [] 27):: (b2, .cells C [] 27):: (kl++H)) (onlyN fun G' fr' H'=>
   ∃vl' kl',G'=G∧zoL d m (j+1) vl' kl'∧zD [0,1,2,4,5,6,7,35,36,37] fr'=[(0,v0),(1,v1),(2, .pointer (some ⟨b2,0,none⟩)),(4, .pointer (some ⟨b4,0,none⟩)),(5, .int .i64 0),(6,v6),(7, .pointer (some ⟨b7,0,none⟩)),(35,v35),(36,v36),(37,v37)]∧H'=(b7, .cells (zd d vn vl' vs) [] 27):: (b2, .cells C [] 27):: (kl'++H)):=by
 have hCl:=O.len
 have hCx:=O.l
 have hl2: ∀a b c:Value,(zd d a b c).length=260:=fun a b c=>zat O.ofl _ _ _
 have hg2: ∀a b c:Value,(zd d a b c)[258]? =some b:=fun a b c=>zdy O.ofl _ _ _
 have hputL: ∀a b c x:Value,zf (zd d a b c) 258 [x]=zd d a x c:=fun a b c x=>zbK O.ofl _ _ _ _
 have hlt:d.label[t]=d.label.getD t 0:=by rw[List.getD_eq_getElem?_getD,List.getElem?_eq_getElem ht];rfl
 have hlab:(zbf d m).take (j+1)=(zbf d m).take j++[d.label.getD t 0]:=by
  have hjl:j< (zbf d m).length:=by unfold zbf;rw[List.length_map];exact hj
  rw[List.take_succ_eq_append_getElem hjl]
  congr 2
  simp only[zbf,List.getElem_map,hsj,Int.toNat_natCast]
 have hlj:((zbf d m).take j).length=j:=by rw[List.length_take];unfold zbf;rw[List.length_map];omega
 have had2:Adr al:=O.rl.adr (by rw[List.length_map];omega)
 refine Tri.sepT fun hs0=>?_
 rcases hout with ⟨hj0,rfl,rfl⟩| ⟨bl,c2,sp2,rfl,rfl,hc2⟩
 ·have hE:=hs0
  try simp only[zzs] at hE
  repeat(obtain⟨hx',hE⟩:=hE)
  have hce:((zbf d m).take (j+1)).map (Value.int .i64)=[Value.int .i64 (d.label.getD t 0)]:=by rw[hlab,List.map_append,List.eq_nil_of_length_eq_zero (hlj.trans hj0)];rfl
  refine Tri.piece (f:=Tryz.f66) rfl ?_
  refine Tri.run tok [0,1,2,4,5,6,7,9,10,11,12,13,18,35,36,37,38,48,49,50,51] Kk ?_
  repeat' first
   |with_reducible first|refine Nx.go ?_ |refine Bk.go (fun _=>?_) fun _=>?_ |refine Nb fun nb hnb hnb1 hnb2=>?_ |refine Nr fun nb nsp ncap hnb hncap hnb1 hnb2=>?_
   |simp -dsimp -implicitDefEqProofs (disch:=first|exact Kd|fail) only[go_sem,↓reduceIte,seval, -List.reduceReplicate,List.replicate_one,List.toList_toArray,hCl,hCx,hl2,hg2,hputL,Row.obj O.rl,List.getElem_map,hlt,Int.toNat_natCast,Nat.sub_self]
   |with_reducible refine Tri.drawH tok mixed [0,1,2,4,5,6,7,9,10,11,12,13,18,35,36,37,38,48,49,50,51] 17 [1,3,6] (.op 0 .plain (.op 1 .held (.op 2 .plain (.op 3 .held (.op 4 .plain (.op 5 .plain (.op 6 .held (.op 7 .keeps (.op 8 .keeps (.op 9 .plain (.op 10 .plain .nil))))))))))) Kk [7,2] ?_
  rw[←hce]
  exact Upd.go (H':=(b7, .cells (zd d vn (.slice (some ⟨nb,0,none⟩) 1 ncap) vs) [] 27):: (b2, .cells C [] 27):: ([(nb, .cells (((zbf d m).take (j+1)).map (Value.int .i64)) nsp 3)]++H)) Ks (Upd.now ⟨.slice (some ⟨nb,0,none⟩) 1 ncap,_,rfl, .inr ⟨nb,ncap,nsp,by rw[hj0],rfl,by omega⟩,rfl,rfl⟩)
 ·have hE:=hs0
  try simp only[zzs] at hE
  repeat(obtain⟨hx',hE⟩:=hE)
  obtain⟨ps,hps,hpl⟩: ∃ps,ps=((zbf d m).take j).map (Value.int .i64)∧ps.length=j:=⟨_,rfl,by rw[List.length_map,hlj]⟩
  have hce:((zbf d m).take (j+1)).map (Value.int .i64)=ps++[Value.int .i64 (d.label.getD t 0)]:=by rw[hlab,List.map_append,←hps];rfl
  rw[←hps]
  refine Tri.piece (f:=Tryz.f66) rfl ?_
  refine Tri.run tok [0,1,2,4,5,6,7,9,10,11,12,13,18,35,36,37,38,48,49,50,51] Kk ?_
  repeat' first
   |with_reducible first|refine Nx.go ?_ |refine Bk.go (fun _=>?_) fun _=>?_ |refine Nb fun nb hnb hnb1 hnb2=>?_ |refine Nr fun nb nsp ncap hnb hncap hnb1 hnb2=>?_
   |simp -dsimp -implicitDefEqProofs (disch:=first|exact Kd|fail) only[go_sem,↓reduceIte,seval, -List.reduceReplicate,List.replicate_one,List.toList_toArray,hCl,hCx,hl2,hg2,hputL,Row.obj O.rl,List.getElem_map,hlt,Int.toNat_natCast,Nat.sub_self]
   |with_reducible refine Tri.drawH tok mixed [0,1,2,4,5,6,7,9,10,11,12,13,18,35,36,37,38,48,49,50,51] 17 [1,3,6] (.op 0 .plain (.op 1 .held (.op 2 .plain (.op 3 .held (.op 4 .plain (.op 5 .plain (.op 6 .held (.op 7 .keeps (.op 8 .keeps (.op 9 .plain (.op 10 .plain .nil))))))))))) Kk [7,2] ?_
  rw[←hce]
  exact Upd.go (H':=(b7, .cells (zd d vn (.slice (some ⟨nb,0,none⟩) (j+1) ncap) vs) [] 27):: (b2, .cells C [] 27):: ([(nb, .cells (((zbf d m).take (j+1)).map (Value.int .i64)) nsp 3)]++H)) Ks (Upd.now ⟨_,_,rfl, .inr ⟨nb,ncap,nsp,rfl,rfl,by omega⟩,rfl,rfl⟩)
end Go.Proofs.YtomdbjfdbkejoaaGreatDoor
namespace Go.Proofs.YtomdbjfdbkejoaaGreatDoor
open Go Go.V Go.Proofs
def zwf (d:DfaT) (m:List Int) (G':za) (j:Nat) (vn:Value) (kn:zb):Prop:=
 (j=0∧vn= .slice none 0 0∧kn=[])∨ ∃bn c1 rv sp1,vn= .slice (some ⟨bn,0,none⟩) j c1∧kn=[(bn, .cells rv sp1 24)]∧rv.length=j∧j+sp1.length=c1∧
  ∀i (h:i<j) (h2:i<rv.length) (h3:i< (zy m).length),∃b c,rv[i]= .slice b (zee d m (zy m)[i].toNat).length c∧Row G' b ((zee d m (zy m)[i].toNat).map (Value.int .i64))∧(zee d m (zy m)[i].toNat).length≤c
theorem x_t {d:DfaT} (hsm:zx d) {m:List Int} (hst:zbv d m) {C:List Value} {an al ay:Option Addr} {cn cl cs:Nat} {rs:List Value} {G:za} {H:zb} (O:OpenD G d C an al ay cn cl cs rs) {v0 v1:Value} {b2 b4 b7:Nat} {an3 ah:Option Addr} {cn3 ch:Nat} (hr3:Row G an3 ((zg m).map (Value.int .i64))) (hrh:Row G ah ((zy m).map (Value.int .i64))) {j:Nat} (hj:j< (zy m).length) {vn vl vs:Value} {kn kl:zb} (hout:zwf d m G j vn kn) (hlab0:zoL d m j vl kl) (hvs:zaL vs=true):
  Tri Tryz.prog Tryz.f66.ntmps (piece [1,1,1,1,0,1,0,0,1,1,0,0] Tryz.f66) G [(0,v0),(1,v1),(2, .pointer (some ⟨b2,0,none⟩)),(4, .pointer (some ⟨b4,0,none⟩)),(5, .int .i64 0),(6, .slice an3 (zg m).length cn3),(7, .pointer (some ⟨b7,0,none⟩)),(35, .slice ah (zy m).length ch),(36, .int .i64 (zy m).length),(37, .int .i64 (j:Nat))] ((b7, .cells (zd d vn vl vs) [] 27):: (b2, .cells C [] 27):: (kn++(kl++H))) (onlyN fun G' fr' H'=>
   ∃vn' vl' kn' kl',PLe G G'∧zwf d m G' (j+1) vn' kn'∧zoL d m (j+1) vl' kl'∧zD [0,1,2,4,5,6,7,35,36,37] fr'=[(0,v0),(1,v1),(2, .pointer (some ⟨b2,0,none⟩)),(4, .pointer (some ⟨b4,0,none⟩)),(5, .int .i64 0),(6, .slice an3 (zg m).length cn3),(7, .pointer (some ⟨b7,0,none⟩)),(35, .slice ah (zy m).length ch),(36, .int .i64 (zy m).length),(37, .int .i64 (j:Nat))]∧H'=(b7, .cells (zd d vn' vl' vs) [] 27):: (b2, .cells C [] 27):: (kn'++(kl'++H))):=by
 obtain⟨hm1,hm2,hm3,hm4,hm5⟩:=id hsm
 have hok:=hst.1
 have hml:m.length=d.label.length:=hst.2.1
 obtain⟨hk1,hk2,hk3,hk4,hk5,hk6,hk7⟩:=id hok
 have hCl:=O.len
 have hCw:=O.w
 have hCn:=O.n
 have hCx:=O.l
 have hnl:=zr m
 have hl2: ∀a b c:Value,(zd d a b c).length=260:=fun a b c=>zat O.ofl _ _ _
 have hg1: ∀a b c:Value,(zd d a b c)[257]? =some a:=fun a b c=>zeb O.ofl _ _ _
 have hg2: ∀a b c:Value,(zd d a b c)[258]? =some b:=fun a b c=>zdy O.ofl _ _ _
 have hputN: ∀a b c x:Value,zf (zd d a b c) 257 [x]=zd d x b c:=fun a b c x=>zcG O.ofl _ _ _ _
 have hputL: ∀a b c x:Value,zf (zd d a b c) 258 [x]=zd d a x c:=fun a b c x=>zbK O.ofl _ _ _ _
 -- the state
 obtain⟨t,htl,hsj⟩: ∃t:Nat,t<m.length∧(zy m)[j]=(t:Int):=by
  have hmem:(zk m)[j]'(by unfold zy at hj;rwa [List.length_map] at hj)∈m:=(zN m).1 (List.getElem_mem _)
  obtain⟨t,ht⟩:=zab hmem
  exact⟨t,(z6 ht).1,by simp only[zy,List.getElem_map];exact zH ht⟩
 have htn:t<d.next.length:=by omega
 have htl2:t<d.label.length:=by omega
 have htv:t<rs.length:=by have:=O.rnl;omega
 obtain⟨b,c,e1,e2,e3⟩:=O.rs t htn htv
 obtain⟨hw0,hlt0,hlt1,hrng⟩:=hk7 t htn htl2
 obtain⟨row,hrow⟩: ∃row,row=d.next[t]:=⟨_,rfl⟩
 have hrl:=hm2 _ (List.getElem_mem htn)
 rw[←hrow] at e1 e2 e3 hw0 hrng hrl
 have hw:d.width=(row.length:Int):=hw0.symm
 obtain⟨r,hr⟩: ∃r,r=zee d m t:=⟨_,rfl⟩
 have hr':r=row.map (atL (zg m)):=by rw[hr];unfold zee;rw[List.getD_eq_getElem?_getD,List.getElem?_eq_getElem htn,hrow];rfl
 have hrlen:r.length=row.length:=by rw[hr',List.length_map]
 have hlt:d.label[t]=d.label.getD t 0:=by rw[List.getD_eq_getElem?_getD,List.getElem?_eq_getElem htl2];rfl
 have hlab:(zbf d m).take (j+1)=(zbf d m).take j++[d.label.getD t 0]:=by
  have hjl:j< (zbf d m).length:=by unfold zbf;rw[List.length_map];exact hj
  rw[List.take_succ_eq_append_getElem hjl]
  congr 2
  simp only[zbf,List.getElem_map,hsj,Int.toNat_natCast]
 have hlj:((zbf d m).take j).length=j:=by rw[List.length_take];unfold zbf;rw[List.length_map];omega
 have hrj:zee d m (zy m)[j].toNat=r:=by rw[hsj,Int.toNat_natCast,hr]
 have had:Adr an:=O.rn.adr Ko
 have had2:Adr al:=O.rl.adr (by rw[List.length_map];omega)
 have had3:Adr ah:=hrh.adr (by rw[List.length_map];omega)
 have had4:Adr an3:=hr3.adr (by rw[List.length_map];omega)
 have hjb:j<65536:=by
  have h1:=zai m
  unfold zy at hj
  rw[List.length_map] at hj
  omega
 refine Tri.sepT fun hs0=>?_
 have hE:=hs0
 try simp only[zzs] at hE
 repeat(obtain⟨hx',hE⟩:=hE)
 refine Tri.piece (f:=Tryz.f66) rfl ?_
 refine Tri.runS tok [0,1,2,4,5,6,7,9,10,11,12,13,18,35,36,37,38,48,49,50,51] (.seq .run (.seq .run (.seq .run (.seq .run .cut)))) Kk ?_
 repeat' first
  |with_reducible first|refine Nx.go ?_ |refine Bk.go (fun _=>?_) fun _=>?_ |refine Nb fun nb hnb hnb1 hnb2=>?_ |refine Nr fun nb nsp ncap hnb hncap hnb1 hnb2=>?_
  |simp -dsimp -implicitDefEqProofs (disch:=first|exact Kd|fail) only[go_sem,↓reduceIte,seval, -List.reduceReplicate,List.toList_toArray,hCl,hCw,hCn,hCx,hw,hl2,hg1,hg2,hputN,hputL,Row.obj hrh,Row.obj O.rn,e1,Row.obj O.rl,Row.obj hr3,List.getElem_map,hsj,hlt,Int.toNat_natCast,Nat.sub_self,List.replicate_zero]
 revert nb
 intro br hbr hbr1 hbr2
 rw[show List.replicate row.length (Value.int .i64 0)=(zbr r 0).map (Value.int .i64) by rw[←hrlen,zfK]]
 refine Tri.loopU tok [0,1,2,4,5,6,7,9,10,11,12,13,18,35,36,37,38,48,49,50,51] Kk [0,1,2,4,5,6,7,9,10,35,36,37,48,49,50] (fun q G' fr H'=> ∃k:Nat,k+q=row.length∧G'=G∧H'=(br, .cells ((zbr r k).map (Value.int .i64)) [] 3):: (b7, .cells (zd d vn vl vs) [] 27):: (b2, .cells C [] 27):: (kn++(kl++H))∧fr=[(0,v0),(1,v1),(2, .pointer (some ⟨b2,0,none⟩)),(4, .pointer (some ⟨b4,0,none⟩)),(5, .int .i64 0),(6, .slice an3 (zg m).length cn3),(7, .pointer (some ⟨b7,0,none⟩)),(9, .int .i64 (t:Nat)),(10, .slice (some ⟨br,0,none⟩) row.length row.length),(35, .slice ah (zy m).length ch),(36, .int .i64 (zy m).length),(37, .int .i64 (j:Nat)),(48, .slice b row.length c),(49, .int .i64 row.length),(50, .int .i64 (k:Nat))]) (row.length) ?_ ?_
 ·exact Upd.now ⟨0,by omega,rfl,rfl,rfl⟩
 ·rintro q G1 fr H' hle hs ⟨k,hk,rfl,rfl,rfl⟩
  have hpl:(zbr r k).length=row.length:=by rw[zgL r Ko,hrlen]
  by_cases hkl:k<row.length
  ·have hE:=hs
   try simp only[zzs] at hE
   repeat(obtain⟨hx',hE⟩:=hE)
   have hkr:k<r.length:=by omega
   have had5:Adr b:=e2.adr (by rw[List.length_map];omega)
   have hx:=hrng _ (List.getElem_mem hkl)
   obtain⟨y,hxy⟩:=Int.eq_ofNat_of_zero_le hx.1
   have hym:y< (zg m).length:=by omega
   have hval:(zg m)[y]=r[k]:=by
    simp only[hr',List.getElem_map]
    rw[hxy,zU (by simpa using hym)]
    simp only[Int.toNat_natCast]
   have hput:=zgM hkr
   repeat' first
    |with_reducible first|refine Nx.go ?_ |refine Bk.go (fun _=>?_) fun _=>?_ |refine Nb fun nb hnb hnb1 hnb2=>?_ |refine Nr fun nb nsp ncap hnb hncap hnb1 hnb2=>?_
    |simp -dsimp -implicitDefEqProofs (disch:=first|exact Kd|fail) only[go_sem,↓reduceIte,seval, -List.reduceReplicate,Row.obj e2,Row.obj hr3,List.getElem_map,hxy,hval,hput,hpl,Int.toNat_natCast]
   exact Upd.now ⟨q - 1,by omega,k+1,by omega,rfl,rfl,rfl⟩
  ·obtain rfl:k=row.length:=by omega
   have hpa:zbr r row.length=r:=by rw[←hrlen];exact ziR r
   rw[hpa] at hs⊢
   rcases hout with ⟨hj0,rfl,rfl⟩| ⟨bn,c1,rv,sp1,rfl,rfl,hrv,hc1,hrws⟩
   ·have hE:=hs
    try simp only[zzs] at hE
    repeat(obtain⟨hx',hE⟩:=hE)
    repeat' first
     |with_reducible first|refine Nx.go ?_ |refine Bk.go (fun _=>?_) fun _=>?_ |refine Nb fun nb hnb hnb1 hnb2=>?_ |refine Nr fun nb nsp ncap hnb hncap hnb1 hnb2=>?_
     |simp -dsimp -implicitDefEqProofs (disch:=first|exact Kd|fail) only[go_sem,↓reduceIte,seval, -List.reduceReplicate,List.length_map,hlj,List.replicate_one,List.toList_toArray,hCl,hCw,hCn,hCx,hw,hl2,hg1,hg2,hputN,hputL,Row.obj hrh,Row.obj O.rn,e1,Row.obj O.rl,Row.obj hr3,List.getElem_map,hsj,hlt,Int.toNat_natCast,Nat.sub_self,List.replicate_zero]
    refine Tri.upd (Upd.go (H':=(b7, .cells (zd d (.slice (some ⟨nb,0,none⟩) 1 ncap) vl vs) [] 27):: (b2, .cells C [] 27):: (kl++((br, .cells (r.map (Value.int .i64)) [] 3):: (nb, .cells [.slice (some ⟨br,0,none⟩) row.length row.length] nsp 24)::H))) Ks (Upd.now ?_))
    refine Tri.live [0,1,2,4,5,6,7,9,35,36,37] ?_
    refine Tri.isPiece [1,1,1,1,0,1,0,0,1,1,0,0,1,1,1,1] Tryz.f66 Kk ?_
    refine Tri.onlyN (zxa O hj hjb htl2 hsj hlab0) fun G5 l5 H5 hle5 hs5 hM=>?_
    obtain⟨vl',kl',rfl,hlab1,hfr,rfl⟩:=hM
    rw[zdv]
    have hE:=hs5
    try simp only[zzs] at hE
    repeat(obtain⟨hx',hE⟩:=hE)
    refine Upd.go (H':=(br, .cells (r.map (Value.int .i64)) [] 3):: (b7, .cells (zd d (.slice (some ⟨nb,0,none⟩) 1 ncap) vl' vs) [] 27):: (b2, .cells C [] 27):: ([(nb, .cells [.slice (some ⟨br,0,none⟩) row.length row.length] nsp 24)]++(kl'++H))) Ks (Upd.shareRow Ka fun G6 hle6 hs6 hr6=>?_)
    refine⟨_,vl',_,kl',hle6, .inr ⟨nb,ncap,_,nsp,by rw[hj0],rfl,by rw[hj0];rfl,by omega,fun i h h2 h3=>?_⟩,hlab1,hfr,rfl⟩
    obtain rfl:i=0:=by omega
    obtain rfl:j=0:=hj0
    refine⟨some ⟨br,0,none⟩,row.length,?_,?_,?_⟩
    ·rw[hrj,hrlen];rfl
    ·rw[hrj];exact hr6
    ·rw[hrj,hrlen];exact Nat.le_refl _
   ·have hE:=hs
    try simp only[zzs] at hE
    repeat(obtain⟨hx',hE⟩:=hE)
    repeat' first
     |with_reducible first|refine Nx.go ?_ |refine Bk.go (fun _=>?_) fun _=>?_ |refine Nb fun nb hnb hnb1 hnb2=>?_ |refine Nr fun nb nsp ncap hnb hncap hnb1 hnb2=>?_
     |simp -dsimp -implicitDefEqProofs (disch:=first|exact Kd|fail) only[go_sem,↓reduceIte,seval, -List.reduceReplicate,List.length_map,hlj,List.replicate_one,List.toList_toArray,hCl,hCw,hCn,hCx,hw,hl2,hg1,hg2,hputN,hputL,Row.obj hrh,Row.obj O.rn,e1,Row.obj O.rl,Row.obj hr3,List.getElem_map,hsj,hlt,Int.toNat_natCast,Nat.sub_self,List.replicate_zero]
    refine Tri.upd (Upd.go (H':=(b7, .cells (zd d (.slice (some ⟨nb,0,none⟩) (j+1) ncap) vl vs) [] 27):: (b2, .cells C [] 27):: (kl++((br, .cells (r.map (Value.int .i64)) [] 3):: (nb, .cells (rv++[.slice (some ⟨br,0,none⟩) row.length row.length]) nsp 24)::H))) Ks (Upd.now ?_))
    refine Tri.live [0,1,2,4,5,6,7,9,35,36,37] ?_
    refine Tri.isPiece [1,1,1,1,0,1,0,0,1,1,0,0,1,1,1,1] Tryz.f66 Kk ?_
    refine Tri.onlyN (zxa O hj hjb htl2 hsj hlab0) fun G5 l5 H5 hle5 hs5 hM=>?_
    obtain⟨vl',kl',rfl,hlab1,hfr,rfl⟩:=hM
    rw[zdv]
    have hE:=hs5
    try simp only[zzs] at hE
    repeat(obtain⟨hx',hE⟩:=hE)
    refine Upd.go (H':=(br, .cells (r.map (Value.int .i64)) [] 3):: (b7, .cells (zd d (.slice (some ⟨nb,0,none⟩) (j+1) ncap) vl' vs) [] 27):: (b2, .cells C [] 27):: ([(nb, .cells (rv++[.slice (some ⟨br,0,none⟩) row.length row.length]) nsp 24)]++(kl'++H))) Ks (Upd.shareRow Ka fun G6 hle6 hs6 hr6=>?_)
    refine⟨_,vl',_,kl',hle6, .inr ⟨nb,ncap,_,nsp,rfl,rfl,by rw[List.length_append,hrv];rfl,by omega,fun i h h2 h3=>?_⟩,hlab1,hfr,rfl⟩
    rcases Nat.lt_or_ge i j with hij|hij
    ·obtain⟨b',c',f1,f2,f3⟩:=hrws i hij Ko h3
     exact⟨b',c',by rw[List.getElem_append_left Ko];exact f1,f2.mono hle6,f3⟩
    ·obtain rfl:i=j:=by omega
     refine⟨some ⟨br,0,none⟩,row.length,?_,?_,?_⟩
     ·rw[hrj,hrlen,List.getElem_append_right Ko];simp [hrv]
     ·rw[hrj];exact hr6
     ·rw[hrj,hrlen];exact Nat.le_refl _
end Go.Proofs.YtomdbjfdbkejoaaGreatDoor
namespace Go.Proofs.YtomdbjfdbkejoaaGreatDoor
open Go Go.V Go.Proofs
theorem zAN {d:DfaT} (hsm:zx d) {m:List Int} (hst:zbv d m) {G:za} {H:zb} {R:Value→za→zb→Prop} {v w:Value} (hv:IsD G d v) (hwl:Sl G (Value.int .i64) w m)
  (hR: ∀G' v',PLe G G'→Sep G' (zm H)→IsD G' (ofD d m) v'→R (.tuple #[v', .int .i64 0]) G' H):FnT Tryz.prog 66 [v,w] G H R:=by
 obtain⟨C,an,al,ay,cn,cl,cs,rs,rfl,O⟩:=hv.opened
 obtain⟨hm1,hm2,hm3,hm4,hm5⟩:=id hsm
 have hw0:=hwl
 obtain⟨aw,cw,rfl,hroww,hcw⟩:=hwl
 have hok:=hst.1
 have hml:m.length=d.label.length:=hst.2.1
 obtain⟨hk1,hk2,hk3,hk4,hk5,hk6,hk7⟩:=id hok
 have hb:=zK hok
 have hb2:=zK hst
 have hCl:=O.len
 have hCa:=O.all
 have htl:=zai m
 have hhl:(zy m).length=(zk m).length:=by unfold zy;rw[List.length_map]
 have hjb:(zy m).length≤65536:=by omega
 have hpos:0< (zy m).length:=by
  have h0:0<m.length:=by omega
  have:m[0]∈zk m:=(zN m).2 (List.getElem_mem h0)
  rw[hhl]
  exact List.length_pos_of_mem this
 have hl2: ∀a b c:Value,(zd d a b c).length=260:=fun a b c=>zat O.ofl _ _ _
 have ht2: ∀a b c:Value,List.take 260 (zd d a b c)=zd d a b c:=fun a b c=>zdM O.ofl _ _ _
 have hputz: ∀a b c:Value,zf zI 0 (zd d a b c)=zd d a b c:=fun a b c=>by
  unfold zf
  rw[List.take_zero,List.nil_append,List.drop_of_length_le (by rw[zn,hl2];omega),List.append_nil]
 refine FnT.sep ?_
 refine FnT.bodyS tok [0,1,2,4,5,6,7,9,10,11,12,13,18,35,36,37,38,48,49,50,51] (.seq .run (.seq .run (.seq .run (.seq .cut .cut)))) Tryz.func66 rfl Kk Kk (by show _≤81;simp) fun hsep=>?_
 rw[Tryz.results66]
 have hE:=hsep
 try simp only[zzs] at hE
 repeat(obtain⟨hx',hE⟩:=hE)
 repeat' first
  |with_reducible first|refine Nx.go ?_ |refine Bk.go (fun _=>?_) fun _=>?_ |refine Nb fun nb hnb hnb1 hnb2=>?_ |refine Nr fun nb nsp ncap hnb hncap hnb1 hnb2=>?_
  |simp -dsimp -implicitDefEqProofs (disch:=first|exact Kd|fail) only[go_sem,↓reduceIte,seval, -List.reduceReplicate,List.toList_toArray,hCl,hCa,hb,hb2]
  |with_reducible refine zaE hsm O.is ?_
 rename_i b2 hb20 hb21 hb22
 revert nb
 intro b4 hb40 hb41 hb42
 refine zvS hsm Ko O.is hw0 fun G2 hle2 hs2=>?_
 have hE:=hs2
 try simp only[zzs] at hE
 repeat(obtain⟨hx',hE⟩:=hE)
 repeat' first
  |with_reducible first|refine Nx.go ?_ |refine Bk.go (fun _=>?_) fun _=>?_ |refine Nb fun nb hnb hnb1 hnb2=>?_ |refine Nr fun nb nsp ncap hnb hncap hnb1 hnb2=>?_
  |simp -dsimp -implicitDefEqProofs (disch:=first|exact Kd|fail) only[go_sem,↓reduceIte,seval, -List.reduceReplicate,List.toList_toArray,hb2]
 refine zoc Ko (hw0.mono hle2) fun G3 v3 hle3 hs3 hsl3=>?_
 obtain⟨an3,cn3,rfl,hr3,hc3⟩:=hsl3
 repeat' first
  |with_reducible first|refine Nx.go ?_ |refine Bk.go (fun _=>?_) fun _=>?_ |refine Nb fun nb hnb hnb1 hnb2=>?_ |refine Nr fun nb nsp ncap hnb hncap hnb1 hnb2=>?_
  |simp -dsimp -implicitDefEqProofs (disch:=first|exact Kd|fail) only[go_sem,↓reduceIte,seval, -List.reduceReplicate,List.toList_toArray]
 have O3:OpenD G3 d C an al ay cn cl cs rs:=OpenD.mono (hle2.trans hle3) O
 refine Tri.isPiece [1,1,1,0] Tryz.f66 Kk ?_
 refine Tri.live [0,1,2,4,5,6] ?_
 refine Tri.onlyN (zAK hsm O3) fun G4 l4 H4 hle4 hs4 hM=>?_
 obtain⟨b7,vs,_,hvs,hfr,rfl⟩:=hM
 simp only[go_sem]
 refine Tri.live [0,1,2,4,5,6,7] ?_
 rw[hfr]
 have hE:=hs4
 try simp only[zzs] at hE
 repeat(obtain⟨hx',hE⟩:=hE)
 have O4:=OpenD.mono hle4 O3
 obtain⟨ay4,cy4,rfl,hr4y,hcy4⟩:=id hvs
 refine Tri.run tok [0,1,2,4,5,6,7,9,10,11,12,13,18,35,36,37,38,48,49,50,51] Kk ?_
 repeat' first
  |with_reducible first|refine Nx.go ?_ |refine Bk.go (fun _=>?_) fun _=>?_ |refine Nb fun nb hnb hnb1 hnb2=>?_ |refine Nr fun nb nsp ncap hnb hncap hnb1 hnb2=>?_
  |simp -dsimp -implicitDefEqProofs (disch:=first|exact Kd|fail) only[go_sem,↓reduceIte,seval, -List.reduceReplicate,List.toList_toArray]
 refine zqz Ko ⟨an3,cn3,rfl,hr3.mono hle4,hc3⟩ fun G5 v5 hle5 hs5 hsl5=>?_
 obtain⟨ah,ch,rfl,hrh,hch⟩:=hsl5
 have hE:=hs5
 try simp only[zzs] at hE
 repeat(obtain⟨hx',hE⟩:=hE)
 have O5:=OpenD.mono hle5 O4
 repeat' first
  |with_reducible first|refine Nx.go ?_ |refine Bk.go (fun _=>?_) fun _=>?_ |refine Nb fun nb hnb hnb1 hnb2=>?_ |refine Nr fun nb nsp ncap hnb hncap hnb1 hnb2=>?_
  |simp -dsimp -implicitDefEqProofs (disch:=first|exact Kd|fail) only[go_sem,↓reduceIte,seval, -List.reduceReplicate,List.toList_toArray]
 refine Tri.loopS tok [0,1,2,4,5,6,7,9,10,11,12,13,18,35,36,37,38,48,49,50,51] (.seq .run (.seq .run (.seq (.block .cut) .cut))) Kk [0,1,2,4,5,6,7,35,36,37] (fun q G' fr H'=> ∃ (j:Nat) (vn vl:Value) (kn kl:zb),j+q=(zy m).length∧zwf d m G' j vn kn∧zoL d m j vl kl∧H'=(b7, .cells (zd d vn vl (.slice ay4 d.names.length cy4)) [] 27):: (b2, .cells C [] 27):: (kn++(kl++((b4, .cells zI [] 27)::H)))∧fr=[(0, .agg (List.toArray C)),(1, .slice aw m.length cw),(2, .pointer (some ⟨b2,0,none⟩)),(4, .pointer (some ⟨b4,0,none⟩)),(5, .int .i64 0),(6, .slice an3 (zg m).length cn3),(7, .pointer (some ⟨b7,0,none⟩)),(35, .slice ah (zy m).length ch),(36, .int .i64 (zy m).length),(37, .int .i64 (j:Nat))]) ((zy m).length) ?_ ?_
 ·exact Upd.go (H':=(b7, .cells (zd d (.slice none 0 0) (.slice none 0 0) (.slice ay4 d.names.length cy4)) [] 27):: (b2, .cells C [] 27):: ([]++([]++((b4, .cells zI [] 27)::H)))) Ks (Upd.now ⟨0,_,_,[],[],by omega, .inl ⟨rfl,rfl,rfl⟩, .inl ⟨rfl,rfl,rfl⟩,rfl,rfl⟩)
 ·rintro q G6 fr H' hle6 hs6 ⟨j,vn,vl,kn,kl,hj,hro,hlo,rfl,rfl⟩
  by_cases hjl:j< (zy m).length
  ·repeat' first
    |with_reducible first|refine Nx.go ?_ |refine Bk.go (fun _=>?_) fun _=>?_ |refine Nb fun nb hnb hnb1 hnb2=>?_ |refine Nr fun nb nsp ncap hnb hncap hnb1 hnb2=>?_
    |simp -dsimp -implicitDefEqProofs (disch:=first|exact Kd|fail) only[go_sem,↓reduceIte,seval, -List.reduceReplicate,List.toList_toArray]
   refine Tri.live [0,1,2,4,5,6,7,35,36,37] ?_
   refine Tri.isPiece [1,1,1,1,0,1,0,0,1,1,0,0] Tryz.f66 Kk ?_
   refine Tri.onlyN (x_t hsm hst (OpenD.mono hle6 O5) ((hr3.mono hle4).mono (hle5.trans hle6)) (hrh.mono hle6) hjl hro hlo rfl) fun G7 l7 H7 hle7 hs7 hM=>?_
   obtain⟨vn',vl',kn',kl',_,hro',hlo',hfr',rfl⟩:=hM
   simp only[go_sem]
   refine Tri.live [0,1,2,4,5,6,7,35,36,37] ?_
   rw[hfr']
   refine Tri.run tok [0,1,2,4,5,6,7,9,10,11,12,13,18,35,36,37,38,48,49,50,51] Kk ?_
   repeat' first
    |with_reducible first|refine Nx.go ?_ |refine Bk.go (fun _=>?_) fun _=>?_ |refine Nb fun nb hnb hnb1 hnb2=>?_ |refine Nr fun nb nsp ncap hnb hncap hnb1 hnb2=>?_
    |simp -dsimp -implicitDefEqProofs (disch:=first|exact Kd|fail) only[go_sem,↓reduceIte,seval, -List.reduceReplicate,List.toList_toArray]
   exact Upd.now ⟨q - 1,by omega,j+1,vn',vl',kn',kl',by omega,hro',hlo',rfl,rfl⟩
  ·obtain rfl:j=(zy m).length:=by omega
   rcases hro with ⟨hj0,_,_⟩| ⟨bn,c1,rv,sp1,rfl,rfl,hrv,hc1,hrws⟩
   ·exact absurd hj0 Ko
   rcases hlo with ⟨hj0,_,_⟩| ⟨bl,c2,sp2,rfl,rfl,hc2⟩
   ·exact absurd hj0 Ko
   have hE:=hs6
   try simp only[zzs] at hE
   repeat(obtain⟨hx',hE⟩:=hE)
   have hone:=zbe (d:=d) (vn:= .slice (some ⟨bn,0,none⟩) (zy m).length c1) (vl:= .slice (some ⟨bl,0,none⟩) (zy m).length c2) (vs:= .slice ay4 d.names.length cy4) rfl rfl rfl
   have hLl:(zbf d m).length=(zy m).length:=by unfold zbf;rw[List.length_map]
   rw[show(zbf d m).take (zy m).length=zbf d m by rw[←hLl,List.take_length]]
   repeat' first
    |with_reducible first|refine Nx.go ?_ |refine Bk.go (fun _=>?_) fun _=>?_ |refine Nb fun nb hnb hnb1 hnb2=>?_ |refine Nr fun nb nsp ncap hnb hncap hnb1 hnb2=>?_
    |simp -dsimp -implicitDefEqProofs (disch:=first|exact Kd|fail) only[go_sem,↓reduceIte,seval, -List.reduceReplicate,List.toList_toArray,hl2,ht2,hputz,hone,zn]
   unfold zv
   refine Upd.go (H':=(bn, .cells rv sp1 24):: (bl, .cells ((zbf d m).map (Value.int .i64)) sp2 3)::H) Ks (Upd.trans (Upd.shareRow Ka fun G7 hle7 hs7 hr7=>?_))
   refine Upd.shareRow hs7.1.1 fun G8 hle8 hs8 hr8=>?_
   refine fun _ hs=>hR G8 _ ((((hle2.trans hle3).trans hle4).trans hle5).trans (hle6.trans (hle7.trans hle8))) hs ?_
   refine⟨O.ofl,O.ofb,_,_,_,rfl,⟨some ⟨bn,0,none⟩,c1,rv,?_,hr7.mono hle8,?_,?_,fun i h h2=>?_⟩,⟨some ⟨bl,0,none⟩,c2,?_,hr8,?_⟩,⟨ay4,cy4,rfl,hr4y.mono ((hle5.trans hle6).trans (hle7.trans hle8)),hcy4⟩⟩
   ·simp only[ofD,List.length_map]
   ·simp only[ofD,List.length_map];exact hrv
   ·simp only[ofD,List.length_map];omega
   ·have hi:i< (zy m).length:=by simp only[ofD,List.length_map] at h;exact h
    obtain⟨b',c',f1,f2,f3⟩:=hrws i hi h2 hi
    refine⟨b',c',?_,?_,?_⟩
    ·simp only[ofD,List.getElem_map];exact f1
    ·simp only[ofD,List.getElem_map];exact f2.mono (hle7.trans hle8)
    ·simp only[ofD,List.getElem_map];exact f3
   ·simp only[ofD,List.length_map]
   ·simp only[ofD,List.length_map];omega
end Go.Proofs.YtomdbjfdbkejoaaGreatDoor
namespace Go.Proofs.YtomdbjfdbkejoaaGreatDoor
open Go Go.V Go.Proofs
theorem zkz (l:List Int) (hlen:l.length≤2000000) {G:za} {H:zb} {R:Value→za→zb→Prop} {v:Value} (hv:Sl G (Value.int .i64) v l)
  (hR: ∀v' kb,Sep G (zm (kb++H))→zS [] 3 1 v' l.length (l.map (Value.int .i64)) kb→R v' G (kb++H)):FnT Tryz.prog 69 [v] G H R:=by
 obtain⟨a,cap,rfl,hrow,hcap⟩:=hv
 refine FnT.sep ?_
 rcases a with _|a
 ·have h0:l=[]:=List.eq_nil_of_length_eq_zero (by
   rcases Nat.eq_zero_or_pos l.length with h|h
   ·exact h
   ·have:=hrow.adr (by rw[List.length_map];exact h)
    cases this)
  subst h0
  refine FnT.body tok [0,2,4] Tryz.func69 rfl Kk Kk (by show _≤8;simp) fun hsep=>?_
  rw[Tryz.results69]
  have hE:=hsep
  try simp only[zzs] at hE
  repeat(obtain⟨hx',hE⟩:=hE)
  repeat' first
   |with_reducible first|refine Nx.go ?_ |refine Bk.go (fun _=>?_) fun _=>?_ |refine Nb fun nb hnb hnb1 hnb2=>?_ |refine Nr fun nb nsp ncap hnb hncap hnb1 hnb2=>?_
   |simp -dsimp -implicitDefEqProofs (disch:=first|exact Kd|fail) only[go_sem,↓reduceIte,seval]
  unfold zv
  exact Upd.go (H':=H) Ks (Upd.now fun hle hs=>hR _ [] hs (.inl ⟨none,rfl,rfl,rfl,rfl⟩))
 ·refine FnT.body tok [0,2,4] Tryz.func69 rfl Kk Kk (by show _≤8;simp) fun hsep=>?_
  rw[Tryz.results69]
  have hE:=hsep
  try simp only[zzs] at hE
  repeat(obtain⟨hx',hE⟩:=hE)
  repeat' first
   |with_reducible first|refine Nx.go ?_ |refine Bk.go (fun _=>?_) fun _=>?_ |refine Nb fun nb hnb hnb1 hnb2=>?_ |refine Nr fun nb nsp ncap hnb hncap hnb1 hnb2=>?_
   |simp -dsimp -implicitDefEqProofs (disch:=first|exact Kd|fail) only[go_sem,↓reduceIte,seval,Row.rdSlAll hrow,List.length_map]
  ·rename_i h0
   have h0:l=[]:=List.eq_nil_of_length_eq_zero h0
   subst h0
   unfold zv
   exact Upd.go (H':=H) Ks (Upd.now fun hle hs=>hR _ [] hs (.inl ⟨_,rfl,rfl,rfl,rfl⟩))
  ·unfold zv
   exact Upd.go (H':=(nb, .cells (l.map (Value.int .i64)) nsp 3)::H) Ks (Upd.now fun hle hs=>hR _ [(nb, .cells (l.map (Value.int .i64)) nsp 3)] hs (.inr ⟨nb,ncap,nsp,rfl,rfl,by rw[List.length_map];omega,by rw[List.length_map];omega⟩))
def add1 (W:List Int) (t:Int):List Int:=if t∈W then W else W++[t]
def addN (W ts:List Int):List Int:=ts.foldl add1 W
theorem zh7 (W:List Int):addN W []=W:=rfl
theorem zcu (W:List Int) (t:Int) (ts:List Int):addN W (t::ts)=addN (add1 W t) ts:=rfl
theorem zue (W ts:List Int) (t:Int):addN W (ts++[t])=add1 (addN W ts) t:=by unfold addN;rw[List.foldl_append];rfl
theorem zuf (W ts:List Int) {i:Nat} (h:i<ts.length):addN W (ts.take (i+1))=add1 (addN W (ts.take i)) ts[i]:=by rw[List.take_succ_eq_append_getElem h,zue]
theorem zeY {W:List Int} {t x:Int}:x∈add1 W t↔x∈W∨x=t:=by
 unfold add1;split
 ·rename_i h
  constructor
  ·exact .inl
  ·rintro(h1|rfl)
   ·exact h1
   ·exact h
 ·rw[List.mem_append,List.mem_singleton]
theorem zwg (W:List Int) (t:Int): ∃X,add1 W t=W++X:=by
 unfold add1;split
 ·exact⟨[],by simp⟩
 ·exact⟨[t],rfl⟩
theorem zh8: ∀ (ts W:List Int),∃X,addN W ts=W++X
 | [],W=>⟨[],by simp [zh7]⟩
 |t::ts,W=>by
  obtain⟨X,h1⟩:=zwg W t
  obtain⟨Y,h2⟩:=zh8 ts (add1 W t)
  exact⟨X++Y,by rw[zcu,h2,h1,List.append_assoc]⟩
theorem zgn {x:Int}: ∀ {ts W:List Int},x∈addN W ts↔x∈W∨x∈ts
 | [],W=>by simp [zh7]
 |t::ts,W=>by rw[zcu,zgn,zeY,List.mem_cons,or_assoc]
def za1 (n:Nat) (W:List Int):Prop:=W.Nodup∧ ∀x∈W,0≤x∧x<n
theorem za1.len: ∀ {n:Nat} {W:List Int},za1 n W→W.length≤n
 |0,W,h=>by
  rcases W with _| ⟨x,W⟩
  ·exact Nat.le_refl _
  ·have:=h.2 x (List.mem_cons_self ..);omega
 |n+1,W,h=>by
  have h1:za1 n (W.erase (n:Int)):=⟨h.1.erase _,fun x hx=>by
   have h2:=(h.1.mem_erase_iff.1 hx)
   have h3:=h.2 x h2.2
   omega⟩
  have h2:=za1.len h1
  have h3:=List.length_erase (a:=(n:Int)) (l:=W)
  split at h3 <;> omega
theorem za1.add1 {n:Nat} {W:List Int} (h:za1 n W) {t:Int} (ht:0≤t∧t<n):za1 n (add1 W t):=by
 refine⟨?_,fun x hx=>?_⟩
 ·unfold Proofs.YtomdbjfdbkejoaaGreatDoor.add1
  split
  ·exact h.1
  ·rename_i hn
   rw[List.nodup_append]
   exact⟨h.1,by simp,fun a ha b hb=>by rw[List.mem_singleton] at hb;subst hb;exact fun e=>hn (e▸ha)⟩
 ·rcases zeY.1 hx with h1|rfl
  ·exact h.2 x h1
  ·exact ht
theorem za1.addN {n:Nat}: ∀ {ts W:List Int},za1 n W→(∀t∈ts,0≤t∧t<n)→za1 n (addN W ts)
 | [],_,h,_=>h
 |t::ts,_,h,ht=>za1.addN (ts:=ts) (h.add1 (ht t (List.mem_cons_self ..))) fun x hx=>ht x (List.mem_cons_of_mem _ hx)
def bw (on:Int→List Int) (W0:List Int):Nat→List Int
 |0=>W0
 |i+1=>match (bw on W0 i)[i]? with
  |some s=>addN (bw on W0 i) (on s)
  |none=>bw on W0 i
theorem zcl {on:Int→List Int} {W0:List Int} {i:Nat} (h:i< (bw on W0 i).length):bw on W0 (i+1)=addN (bw on W0 i) (on (bw on W0 i)[i]):=by
 show(match (bw on W0 i)[i]? with|some s=>_|none=>_)=_
 rw[List.getElem?_eq_getElem h]
theorem zer {on:Int→List Int} {W0:List Int} {i:Nat} (h:(bw on W0 i).length≤i):bw on W0 (i+1)=bw on W0 i:=by
 show(match (bw on W0 i)[i]? with|some s=>_|none=>_)=_
 rw[List.getElem?_eq_none h]
theorem zug (on:Int→List Int) (W0:List Int) (i:Nat): ∃X,bw on W0 (i+1)=bw on W0 i++X:=by
 rcases Nat.lt_or_ge i (bw on W0 i).length with h|h
 ·rw[zcl h];exact zh8 _ _
 ·rw[zer h];exact⟨[],by simp⟩
theorem zf0 (on:Int→List Int) (W0:List Int) (i:Nat): ∀j,∃X,bw on W0 (i+j)=bw on W0 i++X
 |0=>⟨[],by simp⟩
 |j+1=>by
  obtain⟨X,h1⟩:=zf0 on W0 i j
  obtain⟨Y,h2⟩:=zug on W0 (i+j)
  exact⟨X++Y,by rw[←Nat.add_assoc,h2,h1,List.append_assoc]⟩
theorem zeZ {on:Int→List Int} {W0:List Int} {n:Nat} (h0:za1 n W0) (hon: ∀s:Int,0≤s→s<n→ ∀t∈on s,0≤t∧t<n): ∀i,za1 n (bw on W0 i)
 |0=>h0
 |i+1=>by
  rcases Nat.lt_or_ge i (bw on W0 i).length with h|h
  ·rw[zcl h]
   have h1:=zeZ h0 hon i
   have h2:=h1.2 _ (List.getElem_mem h)
   exact h1.addN (hon _ h2.1 h2.2)
  ·rw[zer h];exact zeZ h0 hon i
theorem zdB {on:Int→List Int} {W0:List Int} {i:Nat} (h:(bw on W0 i).length≤i): ∀j,bw on W0 (i+j)=bw on W0 i
 |0=>rfl
 |j+1=>by
  rw[←Nat.add_assoc,zer (by rw[zdB h j];omega),zdB h j]
def zjA (on:Int→List Int) (n:Nat) (W0:List Int):List Int:=bw on W0 n
theorem zuh {on:Int→List Int} {W0:List Int} {n i:Nat} (h0:za1 n W0) (hon: ∀s:Int,0≤s→s<n→ ∀t∈on s,0≤t∧t<n) (h:(bw on W0 i).length≤i):bw on W0 i=zjA on n W0:=by
 unfold zjA
 rcases Nat.le_total i n with g|g
 ·obtain⟨j,rfl⟩:=Nat.exists_eq_add_of_le g
  exact(zdB h j).symm
 ·obtain⟨j,rfl⟩:=Nat.exists_eq_add_of_le g
  exact zdB (zeZ h0 hon n).len j
theorem zy9 {on:Int→List Int} {W0:List Int} {i j k:Nat} (hij:i≤j) (hk:k< (bw on W0 i).length): ∃h:k< (bw on W0 j).length,(bw on W0 j)[k]=(bw on W0 i)[k]:=by
 obtain⟨c,rfl⟩:=Nat.exists_eq_add_of_le hij
 obtain⟨X,h⟩:=zf0 on W0 i c
 refine⟨by rw[h,List.length_append];omega,?_⟩
 simp only[h]
 rw[List.getElem_append_left hk]
theorem zui {on:Int→List Int} {W0:List Int} {n:Nat} (h0:za1 n W0) (hon: ∀s:Int,0≤s→s<n→ ∀t∈on s,0≤t∧t<n) {x:Int} (hx:x∈zjA on n W0): ∀t∈on x,t∈zjA on n W0:=by
 obtain⟨k,hk,rfl⟩:=List.getElem_of_mem hx
 intro t ht
 unfold zjA at hk ht⊢
 have hkn:k<n:=Nat.lt_of_lt_of_le hk (zeZ h0 hon n).len
 -- the k-th is there behind k rounds
 have hke: ∃h:k< (bw on W0 k).length,(bw on W0 k)[k]=(bw on W0 n)[k]:=by
  rcases Nat.lt_or_ge k (bw on W0 k).length with h|h
  ·obtain⟨h2,e⟩:=zy9 (on:=on) (W0:=W0) (i:=k) (j:=n) Ko h
   exact⟨h,e.symm⟩
  ·have:=zdB h (n - k)
   rw[show k+(n - k)=n by omega] at this
   rw[this] at hk;omega
 obtain⟨hk1,hk2⟩:=hke
 rw[←hk2] at ht
 have hin:t∈bw on W0 (k+1):=by rw[zcl hk1];exact zgn.2 (.inr ht)
 obtain⟨X,hX⟩:=zf0 on W0 (k+1) (n - (k+1))
 rw[show k+1+(n - (k+1))=n by omega] at hX
 rw[hX];exact List.mem_append.2 (.inl hin)
theorem zfN {on:Int→List Int} {W0:List Int} {X:Int→Prop} (h0: ∀x∈W0,X x) (h1: ∀x,X x→ ∀t∈on x,X t): ∀i x,x∈bw on W0 i→X x
 |0,x,hx=>h0 x hx
 |i+1,x,hx=>by
  rcases Nat.lt_or_ge i (bw on W0 i).length with h|h
  ·rw[zcl h] at hx
   rcases zgn.1 hx with hx|hx
   ·exact zfN h0 h1 i x hx
   ·exact h1 _ (zfN h0 h1 i _ (List.getElem_mem h)) x hx
  ·rw[zer h] at hx;exact zfN h0 h1 i x hx
end Go.Proofs.YtomdbjfdbkejoaaGreatDoor
namespace Go.Proofs.YtomdbjfdbkejoaaGreatDoor
open Go Go.V Go.Proofs
theorem zp3:V.Callee Tryz.prog 124:=⟨_,_,Tryz.func124,rfl,by kernel_rfl⟩
def zcU (n:Nat) (W:List Int):List Value:=zdT n fun t=>decide ((t:Int)∈W)
theorem zoM (n:Nat) (W:List Int):(zcU n W).length=n:=zdw _ _
theorem zoN {n:Nat} {W:List Int} {t:Nat} (h:t<n):zf (zcU n W) t [.bool true]=zcU n (add1 W t):=by
 unfold zcU
 rw[zvJ _ h]
 refine zle fun j hj=>?_
 rw[Bool.eq_iff_iff]
 split
 ·rename_i e;subst e;simp [zeY]
 ·rename_i e
  rw[decide_eq_true_eq,decide_eq_true_eq,zeY]
  constructor
  ·exact .inl
  ·rintro(h1|h1)
   ·exact h1
   ·omega
theorem zwh {n:Nat} {W:List Int} {t:Nat} (h:t<n):(zcU n W)[t]? =some (.bool (decide ((t:Int)∈W))):=by unfold zcU;rw[rowV_get? _ h]
theorem zuj (n:Nat):zcU n []=List.replicate n (.bool false):=by
 unfold zcU zdT
 apply List.ext_getElem
 ·simp
 ·intro i h1 h2;simp
theorem zuk (n:Nat) {V W:List Int} (h: ∀x,x∈V↔x∈W):zcU n V=zcU n W:=zle fun t _=>by simp [h]
theorem zjB {G:za} {A B:zb} {b:Nat} (h:Sep G (zm (A++B))) (hb:b∈zm B):zQ b (zm A):=by
 have h1:=(zaY.1 h).2
 rw[zbS,List.nodup_append] at h1
 exact zgx.2 fun ha=>h1.2.2 b ha b hb rfl
theorem zwi {G:za} {H:zb} {b:Nat} {r:Res} (h:Sep G (zm H)) (hf:zq H b=some r):G b=none:=
 (zaY.1 h).1 b (List.mem_map.2 ⟨_,zfg hf,rfl⟩)
theorem zgo {G:za} {x:Nat×Res} {H:zb} {b:Nat} {r:Res} (hs:Sep G (zm (x::H))) (h:zq H b=some r):zq (x::H) b=some r:=by
 have h1:zQ x.1 (zm H):=hs.1.2
 have h2:=zQ.neFind h1 h
 obtain⟨k,q⟩:=x
 exact(zkd h2 q H).trans h
theorem zwj {G:za} {x1 x2 x3 x4 x5:Nat×Res} {H:zb} (h:Sep G (zm (x1::x2::x3::x4::x5::H))):Sep G (zm (H++[x1,x2,x3,x4,x5])):=by
 rw[zaY] at h⊢
 have hp:List.Perm (zm (H++[x1,x2,x3,x4,x5])) (zm (x1::x2::x3::x4::x5::H)):=by
  unfold zm
  exact(List.perm_append_comm (l₁:=H) (l₂:=[x1,x2,x3,x4,x5])).map _
 exact⟨fun b hb=>h.1 b (hp.mem_iff.1 hb),hp.nodup_iff.2 h.2⟩
theorem zul {G:za} {x1 x2 x3 x4 x5:Nat×Res} {H:zb} (h:Sep G (zm (H++[x1,x2,x3,x4,x5]))):Sep G (zm (x1::x2::x3::x4::x5::H)):=by
 rw[zaY] at h⊢
 have hp:List.Perm (zm (H++[x1,x2,x3,x4,x5])) (zm (x1::x2::x3::x4::x5::H)):=by
  unfold zm
  exact(List.perm_append_comm (l₁:=H) (l₂:=[x1,x2,x3,x4,x5])).map _
 exact⟨fun b hb=>h.1 b (hp.mem_iff.2 hb),hp.nodup_iff.1 h.2⟩
set_option maxRecDepth 4000 in
theorem zya (lr b1 b2 b3 bx:Nat) {n:Nat} (hn:n≤65536) {W0:List Int} (hW:za1 n W0) {on:Int→List Int} (hon: ∀s:Int,0≤s→s<n→ ∀t∈on s,0≤t∧t<n) (hol: ∀s:Int,0≤s→s<n→(on s).length≤20000000)
  {fid:FuncId} {XC:List Value} {tyX:TypeId} {G:za}
  (hOn: ∀ (s:Int) (G1:za) (H1:zb) (R1:Value→za→zb→Prop),PLe G G1→0≤s→s<n→G1 bx=none→zq H1 bx=some (.cells XC [] tyX)→(∀v,Sl G1 (Value.int .i64) v (on s)→R1 v G1 H1)→FnT Tryz.prog fid [.int .i64 s, .pointer (some ⟨bx,0,none⟩)] G1 H1 R1)
  {v0:Value} (hv0:Sl G (Value.int .i64) v0 W0) {HC:zb} {R:Value→za→zb→Prop}
  (J Jx:Nat→za→zb→Prop) (hJ: ∀i G1 G2 H1,PLe G1 G2→J i G1 H1→J i G2 H1) (hX: ∀i G1 H1,Sep G1 (zm H1)→J i G1 H1→zq H1 bx=some (.cells XC [] tyX))
  (hY: ∀i G1 H1 HW (hi:i< (bw on W0 i).length),PLe G G1→Sep G1 (zm (H1++HW))→J i G1 H1→zb8 Tryz.prog lr [.int .i64 (bw on W0 i)[i]] G1 (H1++HW) fun w G2 H2=> ∃H3,H2=H3++HW∧((w= .bool true∧J (i+1) G2 H3)∨(w= .bool false∧Jx i G2 H3)))
  (h0:J 0 G HC)
  (hR: ∀G' H',PLe G G'→Sep G' (zm H')→((∃i,i=(bw on W0 i).length∧J i G' H')∨ ∃i,Jx i G' H')→R (.tuple #[]) G' H'):
  FnT Tryz.prog 124 [.func (.yield lr) #[] #[], .pointer (some ⟨b1,0,none⟩), .pointer (some ⟨b2,0,none⟩), .pointer (some ⟨b3,0,none⟩)] G
   ((b3, .cells [.func (.func fid) #[] #[.pointer (some ⟨bx,0,none⟩)]] [] 124):: (b2, .cells [v0] [] 24):: (b1, .cells [.int .i64 (n:Nat)] [] 3)::HC) R:=by
 obtain⟨a0,c0,rfl,hrow0,hcap0⟩:=id hv0
 have hW0:=hW.len
 refine FnT.body tok [0,1,2,3,5,6,8,9,11,16,17,18,19,29,38,44,45,46,47,53] Tryz.func124 rfl Kk Kk (by show _≤62;simp) fun hsep=>?_
 rw[Tryz.results124]
 have hE:=hsep
 try simp only[zzs] at hE
 repeat(obtain⟨hx',hE⟩:=hE)
 repeat' first
  |with_reducible first|refine Nx.go ?_ |refine Bk.go (fun _=>?_) fun _=>?_ |refine Nb fun nb hnb hnb1 hnb2=>?_ |refine Nr fun nb nsp ncap hnb hncap hnb1 hnb2=>?_
  |simp -dsimp -implicitDefEqProofs (disch:=first|exact Kd|fail) only[go_sem,↓reduceIte,seval, -List.reduceReplicate,Nat.sub_self,List.replicate_zero]
 obtain⟨bt,e0⟩: ∃x,x=nb:=⟨_,rfl⟩
 subst e0
 refine zkz W0 Ko hv0 fun v kb hsk hkb=>?_
 have hn1:zQ bt (zm kb):=zjB hsk (by simp [zm])
 have hn2:zQ b3 (zm kb):=zjB hsk (by simp [zm])
 have hn3:zQ b2 (zm kb):=zjB hsk (by simp [zm])
 have hn4:zQ b1 (zm kb):=zjB hsk (by simp [zm])
 repeat' first
  |with_reducible first|refine Nx.go ?_ |refine Bk.go (fun _=>?_) fun _=>?_ |refine Nb fun nb hnb hnb1 hnb2=>?_ |refine Nr fun nb nsp ncap hnb hncap hnb1 hnb2=>?_
  |simp -dsimp -implicitDefEqProofs (disch:=first|exact Kd|fail) only[go_sem,↓reduceIte,seval]
 refine Tri.loopU tok [0,1,2,3,5,6,8,9,11,16,17,18,19,29,38,44,45,46,47,53] Kk [0,1,2,3,5,6,16,17,18] (fun q G' fr H'=> ∃i:Nat,i+q=W0.length∧G'=G∧H'=(bt, .cells (zcU n (W0.take i)) [] 4):: (b3, .cells [.func (.func fid) #[] #[.pointer (some ⟨bx,0,none⟩)]] [] 124):: (b2, .cells [.slice a0 W0.length c0] [] 24):: (b1, .cells [.int .i64 (n:Nat)] [] 3):: (kb++HC)∧fr=[(0, .func (.yield lr) #[] #[]),(1, .pointer (some ⟨b1,0,none⟩)),(2, .pointer (some ⟨b2,0,none⟩)),(3, .pointer (some ⟨b3,0,none⟩)),(5, .slice (some ⟨bt,0,none⟩) n n),(6,v),(16, .slice a0 W0.length c0),(17, .int .i64 W0.length),(18, .int .i64 (i:Nat))]) (W0.length) ?_ ?_
 ·rw[←zuj]
  exact Upd.go (H':=(bt, .cells (zcU n []) [] 4):: (b3, .cells [.func (.func fid) #[] #[.pointer (some ⟨bx,0,none⟩)]] [] 124):: (b2, .cells [.slice a0 W0.length c0] [] 24):: (b1, .cells [.int .i64 (n:Nat)] [] 3):: (kb++HC)) Ks (Upd.now ⟨0,by omega,rfl,by rw[List.take_zero],rfl⟩)
 ·rintro q G1 fr H' hle hs1 ⟨i,hiq,rfl,rfl,rfl⟩
  by_cases hil:i<W0.length
  ·have had:Adr a0:=hrow0.adr (by rw[List.length_map];omega)
   have hx:=hW.2 _ (List.getElem_mem hil)
   obtain⟨t,ht⟩:=Int.eq_ofNat_of_zero_le hx.1
   have htn:t<n:=by omega
   have hml:=zoM n (W0.take i)
   have hput:zf (zcU n (W0.take i)) t [.bool true]=zcU n (W0.take (i+1)):=by
    rw[zoN htn,←ht]
    exact zuk n fun x=>by rw[zeY,List.take_succ_eq_append_getElem hil,List.mem_append,List.mem_singleton]
   repeat' first
    |with_reducible first|refine Nx.go ?_ |refine Bk.go (fun _=>?_) fun _=>?_ |refine Nb fun nb hnb hnb1 hnb2=>?_ |refine Nr fun nb nsp ncap hnb hncap hnb1 hnb2=>?_
    |simp -dsimp -implicitDefEqProofs (disch:=first|exact Kd|fail) only[go_sem,↓reduceIte,seval,Row.obj hrow0,List.getElem_map,ht,hput]
   exact Upd.now ⟨q - 1,by omega,i+1,by omega,rfl,rfl,rfl⟩
  ·obtain rfl:i=W0.length:=by omega
   rw[List.take_length] at hs1⊢
   repeat' first
    |with_reducible first|refine Nx.go ?_ |refine Bk.go (fun _=>?_) fun _=>?_ |refine Nb fun nb hnb hnb1 hnb2=>?_ |refine Nr fun nb nsp ncap hnb hncap hnb1 hnb2=>?_
    |simp -dsimp -implicitDefEqProofs (disch:=first|exact Kd|fail) only[go_sem,↓reduceIte,seval]
   refine Tri.loopU tok [0,1,2,3,5,6,8,9,11,16,17,18,19,29,38,44,45,46,47,53] Kk [0,1,2,3,5,6,9] (fun q G' fr H'=> ∃ (i:Nat) (v:Value) (kb H1:zb),i+q=n∧i≤(bw on W0 i).length∧PLe G1 G'∧zS [] 3 1 v (bw on W0 i).length ((bw on W0 i).map (Value.int .i64)) kb∧J i G' H1∧H'=(bt, .cells (zcU n (bw on W0 i)) [] 4):: (b3, .cells [.func (.func fid) #[] #[.pointer (some ⟨bx,0,none⟩)]] [] 124):: (b2, .cells [.slice a0 W0.length c0] [] 24):: (b1, .cells [.int .i64 (n:Nat)] [] 3):: (kb++H1)∧fr=[(0, .func (.yield lr) #[] #[]),(1, .pointer (some ⟨b1,0,none⟩)),(2, .pointer (some ⟨b2,0,none⟩)),(3, .pointer (some ⟨b3,0,none⟩)),(5, .slice (some ⟨bt,0,none⟩) n n),(6,v),(9, .int .i64 (i:Nat))]) (n) ?_ ?_
   ·exact Upd.now ⟨0,v,kb,HC,by omega,Nat.zero_le _,PLe.refl _,hkb,h0,rfl,rfl⟩
   ·rintro q G2 fr H' hle2 hs2 ⟨i,v,kb,H1,hiq,hil,hleG,hkb,hJi,rfl,rfl⟩
    have hO:=zeZ hW hon i
    have hOl:=hO.len
    rcases hkb with ⟨a,rfl,hz,hz2,rfl⟩| ⟨bk,ck,sk,rfl,rfl,hkl,hkc⟩
    ·repeat' first
      |with_reducible first|refine Nx.go ?_ |refine Bk.go (fun _=>?_) fun _=>?_ |refine Nb fun nb hnb hnb1 hnb2=>?_ |refine Nr fun nb nsp ncap hnb hncap hnb1 hnb2=>?_
      |simp -dsimp -implicitDefEqProofs (disch:=first|exact Kd|fail) only[go_sem,↓reduceIte,seval]
     all_goals try(exfalso;omega)
     unfold zv
     exact Upd.go (H':=H1) Ks (Upd.now (hR G2 H1 hleG (Sep.suf (H:=[(bt, .cells (zcU n (bw on W0 i)) [] 4),(b3, .cells [.func (.func fid) #[] #[.pointer (some ⟨bx,0,none⟩)]] [] 124),(b2, .cells [.slice a0 W0.length c0] [] 24),(b1, .cells [.int .i64 (n:Nat)] [] 3)]) hs2) (.inl ⟨i,by omega,hJi⟩)))
    ·rw[List.length_map] at hkl hkc
     have hE:=hs2
     try simp only[zzs] at hE
     repeat(obtain⟨hx',hE⟩:=hE)
     by_cases hi:i< (bw on W0 i).length
     ·have hx:=hO.2 _ (List.getElem_mem hi)
      have hsucc:=zcl hi
      repeat' first
       |with_reducible first|refine Nx.go ?_ |refine Bk.go (fun _=>?_) fun _=>?_ |refine Nb fun nb hnb hnb1 hnb2=>?_ |refine Nr fun nb nsp ncap hnb hncap hnb1 hnb2=>?_
       |simp -dsimp -implicitDefEqProofs (disch:=first|exact Kd|fail) only[go_sem,↓reduceIte,seval,List.getElem_append_left,List.getElem_map]
      refine zb8.upd (zb8.leave (H':=H1++[(bt, .cells (zcU n (bw on W0 i)) [] 4),(b3, .cells [.func (.func fid) #[] #[.pointer (some ⟨bx,0,none⟩)]] [] 124),(b2, .cells [.slice a0 W0.length c0] [] 24),(b1, .cells [.int .i64 (n:Nat)] [] 3),(bk, .cells ((bw on W0 i).map (Value.int .i64)) sk 3)]) ?_ Ks)
      have hs3:=zwj hs2
      refine zb8.mono (hY i G2 H1 _ hi hleG hs3 hJi) ?_
      rintro w G3 _ hle3 hs4 ⟨H3,rfl,hw⟩
      refine Upd.go (H':=(bt, .cells (zcU n (bw on W0 i)) [] 4):: (b3, .cells [.func (.func fid) #[] #[.pointer (some ⟨bx,0,none⟩)]] [] 124):: (b2, .cells [.slice a0 W0.length c0] [] 24):: (b1, .cells [.int .i64 (n:Nat)] [] 3):: (bk, .cells ((bw on W0 i).map (Value.int .i64)) sk 3)::H3) Ks (Upd.now ?_)
      have hs5:=zul hs4
      have hE:=hs5
      try simp only[zzs] at hE
      repeat(obtain⟨hx',hE⟩:=hE)
      rcases hw with ⟨rfl,hJ3⟩| ⟨rfl,hJ3⟩
      ·have hfx3:=hX _ G3 H3 hs5.2.2.2.2.2 hJ3
       repeat' first
        |with_reducible first|refine Nx.go ?_ |refine Bk.go (fun _=>?_) fun _=>?_ |refine Nb fun nb hnb hnb1 hnb2=>?_ |refine Nr fun nb nsp ncap hnb hncap hnb1 hnb2=>?_
        |simp -dsimp -implicitDefEqProofs (disch:=first|exact Kd|fail) only[go_sem,↓reduceIte,seval,List.getElem_append_left,List.getElem_map]
        |with_reducible refine Tri.drawS tok mixed [0,1,2,3,5,6,8,9,11,16,17,18,19,29,38,44,45,46,47,53] 11 [0,4] (.op 0 .held (.op 1 .plain (.op 2 .plain (.op 3 .plain (.op 4 .held (.op 7 .plain (.op 5 .plain (.op 6 .plain .nil)))))))) Kk [(b3, .cells [.func (.func fid) #[] #[.pointer (some ⟨bx,0,none⟩)]] [] 124),(bk, .cells ((bw on W0 i).map (Value.int .i64)) sk 3)] Ks ?_
       have hfx5:=zgo hs5 (zgo hs5.2 (zgo hs5.2.2 (zgo hs5.2.2.2 (zgo hs5.2.2.2.2 hfx3))))
       have hxb:=zwi hs5 hfx5
       refine hOn _ G3 _ _ (hleG.trans hle3) hx.1 hx.2 hxb hfx5 fun v' hv'=>?_
       obtain⟨ao,co,rfl,hro,hco⟩:=hv'
       have honl:=hol _ hx.1 hx.2
       have honr:=hon _ hx.1 hx.2
       repeat' first
        |with_reducible first|refine Nx.go ?_ |refine Bk.go (fun _=>?_) fun _=>?_ |refine Nb fun nb hnb hnb1 hnb2=>?_ |refine Nr fun nb nsp ncap hnb hncap hnb1 hnb2=>?_
        |simp -dsimp -implicitDefEqProofs (disch:=first|exact Kd|fail) only[go_sem,↓reduceIte,seval]
       generalize hos:on (bw on W0 i)[i]=os at *
       refine Tri.loopU tok [0,1,2,3,5,6,8,9,11,16,17,18,19,29,38,44,45,46,47,53] Kk [0,1,2,3,5,6,9,44,45,46] (fun q' G' fr H'=> ∃ (k:Nat) (v:Value) (kb:zb),k+q'=os.length∧G'=G3∧zS [] 3 1 v (addN (bw on W0 i) (os.take k)).length ((addN (bw on W0 i) (os.take k)).map (Value.int .i64)) kb∧H'=(bt, .cells (zcU n (addN (bw on W0 i) (os.take k))) [] 4):: (b3, .cells [.func (.func fid) #[] #[.pointer (some ⟨bx,0,none⟩)]] [] 124):: (b2, .cells [.slice a0 W0.length c0] [] 24):: (b1, .cells [.int .i64 (n:Nat)] [] 3):: (kb++H3)∧fr=[(0, .func (.yield lr) #[] #[]),(1, .pointer (some ⟨b1,0,none⟩)),(2, .pointer (some ⟨b2,0,none⟩)),(3, .pointer (some ⟨b3,0,none⟩)),(5, .slice (some ⟨bt,0,none⟩) n n),(6,v),(9, .int .i64 (i:Nat)),(44, .slice ao os.length co),(45, .int .i64 os.length),(46, .int .i64 (k:Nat))]) (os.length) ?_ ?_
       ·exact Upd.now ⟨0,_,[(bk, .cells ((bw on W0 i).map (Value.int .i64)) sk 3)],by omega,rfl, .inr ⟨bk,ck,sk,rfl,rfl,by rw[List.length_map];simp,by rw[List.length_map,List.take_zero,zh7];omega⟩,rfl,rfl⟩
       ·rintro q' G4 fr H' hle4 hs6 ⟨k,v,kb,hkq,rfl,hkb,rfl,rfl⟩
        have hOk:za1 n (addN (bw on W0 i) (os.take k)):=hO.addN fun x hx=>honr x (List.mem_of_mem_take hx)
        have hOkl:=hOk.len
        obtain⟨X,hX1⟩:=zh8 (os.take k) (bw on W0 i)
        have hXl:=congrArg List.length hX1
        rw[List.length_append] at hXl
        rcases hkb with ⟨a,rfl,hz,hz2,rfl⟩| ⟨bm,cm,sm,rfl,rfl,hml,hmc⟩
        ·omega
        ·rw[List.length_map] at hml hmc
         have hmt:=zoM n (addN (bw on W0 i) (os.take k))
         have hE:=hs6
         try simp only[zzs] at hE
         repeat(obtain⟨hx',hE⟩:=hE)
         by_cases hk:k<os.length
         ·have had:Adr ao:=hro.adr (by rw[List.length_map];omega)
          have hy:=honr _ (List.getElem_mem hk)
          obtain⟨t,ht⟩:=Int.eq_ofNat_of_zero_le hy.1
          have htn:t<n:=by omega
          have hg:=zwh (W:=addN (bw on W0 i) (os.take k)) htn
          have hnext:=zuf (bw on W0 i) os hk
          have hput:=zoN (W:=addN (bw on W0 i) (os.take k)) htn
          by_cases hin:(t:Int)∈addN (bw on W0 i) (os.take k)
          ·rw[decide_eq_true hin] at hg
           have hn2:addN (bw on W0 i) (os.take (k+1))=addN (bw on W0 i) (os.take k):=by rw[hnext,ht];unfold add1;rw[if_pos hin]
           repeat' first
            |with_reducible first|refine Nx.go ?_ |refine Bk.go (fun _=>?_) fun _=>?_ |refine Nb fun nb hnb hnb1 hnb2=>?_ |refine Nr fun nb nsp ncap hnb hncap hnb1 hnb2=>?_
            |simp -dsimp -implicitDefEqProofs (disch:=first|exact Kd|fail) only[go_sem,↓reduceIte,seval,Row.obj hro,List.getElem_map,ht,hg]
           exact Upd.now ⟨q' - 1,by omega,k+1, .slice (some ⟨bm,0,none⟩) (addN (bw on W0 i) (os.take k)).length cm,[(bm, .cells ((addN (bw on W0 i) (os.take k)).map (Value.int .i64)) sm 3)],by omega,rfl, .inr ⟨bm,cm,sm,by rw[hn2],by rw[hn2],by rw[hn2,List.length_map];omega,by rw[hn2,List.length_map];omega⟩,by rw[hn2];rfl,rfl⟩
          ·rw[decide_eq_false hin] at hg
           have hn2:addN (bw on W0 i) (os.take (k+1))=addN (bw on W0 i) (os.take k)++[(t:Int)]:=by rw[hnext,ht];unfold add1;rw[if_neg hin]
           have hn3:add1 (addN (bw on W0 i) (os.take k)) (t:Int)=addN (bw on W0 i) (os.take (k+1)):=by rw[hnext,ht]
           rw[hn3] at hput
           repeat' first
            |with_reducible first|refine Nx.go ?_ |refine Bk.go (fun _=>?_) fun _=>?_ |refine Nb fun nb hnb hnb1 hnb2=>?_ |refine Nr fun nb nsp ncap hnb hncap hnb1 hnb2=>?_
            |simp -dsimp -implicitDefEqProofs (disch:=first|exact Kd|fail) only[go_sem,↓reduceIte,seval,Row.obj hro,List.getElem_map,ht,hg,hput,List.replicate_one]
           have hl2:=congrArg List.length hn2
           rw[List.length_append,List.length_singleton] at hl2
           have hm2:(addN (bw on W0 i) (os.take k)).map (Value.int .i64)++[Value.int .i64 (t:Nat)]=(addN (bw on W0 i) (os.take (k+1))).map (Value.int .i64):=by rw[hn2,List.map_append];rfl
           rw[hm2,←hl2]
           exact Upd.go (H':=(bt, .cells (zcU n (addN (bw on W0 i) (os.take (k+1)))) [] 4):: (b3, .cells [.func (.func fid) #[] #[.pointer (some ⟨bx,0,none⟩)]] [] 124):: (b2, .cells [.slice a0 W0.length c0] [] 24):: (b1, .cells [.int .i64 (n:Nat)] [] 3):: ([(nb, .cells ((addN (bw on W0 i) (os.take (k+1))).map (Value.int .i64)) nsp 3)]++H3)) Ks (Upd.now ⟨q' - 1,by omega,k+1,_,[(nb, .cells ((addN (bw on W0 i) (os.take (k+1))).map (Value.int .i64)) nsp 3)],by omega,rfl, .inr ⟨nb,ncap,nsp,rfl,rfl,by rw[List.length_map];omega,by rw[List.length_map];omega⟩,rfl,rfl⟩)
         ·obtain rfl:k=os.length:=by omega
          rw[List.take_length] at *
          repeat' first
           |with_reducible first|refine Nx.go ?_ |refine Bk.go (fun _=>?_) fun _=>?_ |refine Nb fun nb hnb hnb1 hnb2=>?_ |refine Nr fun nb nsp ncap hnb hncap hnb1 hnb2=>?_
           |simp -dsimp -implicitDefEqProofs (disch:=first|exact Kd|fail) only[go_sem,↓reduceIte,seval]
          rw[←hsucc] at *
          exact Upd.now ⟨q - 1,by omega,i+1, .slice (some ⟨bm,0,none⟩) (bw on W0 (i+1)).length cm,[(bm, .cells ((bw on W0 (i+1)).map (Value.int .i64)) sm 3)],H3,by omega,by omega,hleG.trans hle3, .inr ⟨bm,cm,sm,rfl,rfl,by rw[List.length_map];omega,by rw[List.length_map];omega⟩,hJ3,rfl,rfl⟩
      ·repeat' first
        |with_reducible first|refine Nx.go ?_ |refine Bk.go (fun _=>?_) fun _=>?_ |refine Nb fun nb hnb hnb1 hnb2=>?_ |refine Nr fun nb nsp ncap hnb hncap hnb1 hnb2=>?_
        |simp -dsimp -implicitDefEqProofs (disch:=first|exact Kd|fail) only[go_sem,↓reduceIte,seval]
       unfold zv
       exact Upd.go (H':=H3) Ks (Upd.now (hR G3 H3 (hleG.trans hle3) Ka (.inr ⟨i,hJ3⟩)))
     ·repeat' first
       |with_reducible first|refine Nx.go ?_ |refine Bk.go (fun _=>?_) fun _=>?_ |refine Nb fun nb hnb hnb1 hnb2=>?_ |refine Nr fun nb nsp ncap hnb hncap hnb1 hnb2=>?_
       |simp -dsimp -implicitDefEqProofs (disch:=first|exact Kd|fail) only[go_sem,↓reduceIte,seval]
      all_goals try(exfalso;omega)
      unfold zv
      exact Upd.go (H':=H1) Ks (Upd.now (hR G2 H1 hleG Ka (.inl ⟨i,by omega,hJi⟩)))
end Go.Proofs.YtomdbjfdbkejoaaGreatDoor
namespace Go.Proofs.YtomdbjfdbkejoaaGreatDoor
open Go Go.V Go.Proofs
theorem zwk {G:za} {A B:zb} (h:Sep G (zm (A++B))):Sep G (zm A):=by
 rw[zaY,zbS] at *
 exact⟨fun b hb=>h.1 b (List.mem_append.2 (.inl hb)),(List.nodup_append.1 h.2).1⟩
def zJ (d:DfaT) (s:Int):List Int:=d.next.getD s.toNat []
theorem zae {d:DfaT} {s:Nat} (h:s<d.next.length):zJ d (s:Int)=d.next[s]:=by
 unfold zJ
 rw[Int.toNat_natCast,List.getD_eq_getElem?_getD,List.getElem?_eq_getElem h,Option.getD_some]
theorem zh9 {d:DfaT} (hok:zc d): ∀s:Int,0≤s→s<d.label.length→ ∀t∈zJ d s,0≤t∧t<d.label.length:=fun s h1 h2 t ht=>by
 obtain⟨i,rfl⟩:=Int.eq_ofNat_of_zero_le h1
 obtain⟨hk1,hk2,hk3,hk4,hk5,hk6,hk7⟩:=hok
 have hi:i<d.next.length:=by omega
 rw[zae hi] at ht
 exact(hk7 i hi Ko).2.2.2 t ht
theorem zwl {d:DfaT} (hsm:zx d) (hok:zc d) {C:List Value} {an al ay:Option Addr} {cn cl cs:Nat} {rs:List Value} {G:za} (O:OpenD G d C an al ay cn cl cs rs) {bx:Nat} {s:Int} (h0:0≤s) (h1:s<d.label.length)
  {H:zb} {R:Value→za→zb→Prop} (hg:G bx=none) (hf:zq H bx=some (.cells C [] 27)) (hR: ∀v,Sl G (Value.int .i64) v (zJ d s)→R v G H):FnT Tryz.prog 94 [.int .i64 s, .pointer (some ⟨bx,0,none⟩)] G H R:=by
 obtain⟨i,rfl⟩:=Int.eq_ofNat_of_zero_le h0
 have hCl:=O.len
 have hCn:=O.n
 have hl:=hok.2.2.1
 have hi:i<d.next.length:=by omega
 have hrnl:=O.rnl
 obtain⟨b,c,e1,e2,e3⟩:=O.rs i hi Ko
 have had:Adr an:=O.rn.adr Ko
 rw[zae hi] at hR
 refine FnT.body tok [0,1,3] Tryz.func94 rfl Kk Kk (by show _≤9;simp) fun hsep=>?_
 rw[Tryz.results94]
 have hE:=hsep
 try simp only[zzs] at hE
 repeat(obtain⟨hx',hE⟩:=hE)
 repeat' first
  |with_reducible first|refine Nx.go ?_ |refine Bk.go (fun _=>?_) fun _=>?_
  |simp -dsimp -implicitDefEqProofs (disch:=first|exact Kd|fail) only[go_sem,↓reduceIte,seval, -List.reduceReplicate,hf,hCl,hCn,Row.obj O.rn,e1]
 all_goals refine Upd.finL ?_ (hR _ ⟨b,c,rfl,e2,e3⟩) ?_
 any_goals first|exact Ks|skip
 all_goals rfl
theorem zza {n:Nat} {a cap:Option Addr} {k c:Nat} {fid:FuncId} {v fv:Value} (hv:v= .slice a k c) (hf:fv= .func (.func fid) #[] #[.pointer cap]) {G:za} {H:zb} {R:Value→za→zb→Prop}
  (hR: ∀b1 b2 b3,Sep G (b3::b2::b1::zm H)→R (.func (.func 124) #[] #[.pointer (some ⟨b1,0,none⟩), .pointer (some ⟨b2,0,none⟩), .pointer (some ⟨b3,0,none⟩)]) G ((b3, .cells [fv] [] 124):: (b2, .cells [v] [] 24):: (b1, .cells [.int .i64 (n:Nat)] [] 3)::H)):
  FnT Tryz.prog 93 [.int .i64 (n:Nat),v,fv] G H R:=by
 subst hv hf
 refine FnT.body tok [0,1,2,3,4,5,6] Tryz.func93 rfl Kk Kk (by show _≤8;simp) fun hsep=>?_
 rw[Tryz.results93]
 have hE:=hsep
 try simp only[zzs] at hE
 repeat(obtain⟨hx',hE⟩:=hE)
 repeat' first
  |with_reducible first|refine Nx.go ?_ |refine Bk.go (fun _=>?_) fun _=>?_ |refine Nb fun nb hnb hnb1 hnb2=>?_
  |simp -dsimp -implicitDefEqProofs (disch:=first|exact Kd|fail) only[go_sem,↓reduceIte,seval]
 exact Upd.fin (hR _ _ _ hnb) rfl
theorem zsg:V.Callee Tryz.prog 93:=⟨_,_,Tryz.func93,rfl,by kernel_rfl⟩
def zM (d:DfaT):List Int:=zjA (zJ d) d.label.length [0]
noncomputable def zcV (d:DfaT):List Int:=if zaF (zc d)=true then zM d else[]
theorem zyb {d:DfaT} (hsm:zx d) {G:za} {H:zb} {R:Value→za→zb→Prop} {v:Value} (hv:IsD G d v)
  (hR: ∀G' v',PLe G G'→Sep G' (zm H)→Sl G' (Value.int .i64) v' (zcV d)→R v' G' H):FnT Tryz.prog 63 [v] G H R:=by
 obtain⟨C,an,al,ay,cn,cl,cs,rs,rfl,O⟩:=hv.opened
 have hCl:=O.len
 have hCa:=O.all
 have hCx:=O.l
 refine FnT.sep ?_
 by_cases hok:zc d
 ·have hb:=zK hok
  refine FnT.body tok [0,1,2,3,4,7,13,14] Tryz.func63 rfl Kk Kk (by show _≤20;simp) fun hsep=>?_
  rw[Tryz.results63]
  have hE:=hsep
  try simp only[zzs] at hE
  repeat(obtain⟨hx',hE⟩:=hE)
  repeat' first
   |with_reducible first|refine Nx.go ?_ |refine Bk.go (fun _=>?_) fun _=>?_ |refine Nb fun nb hnb hnb1 hnb2=>?_ |refine Nr fun nb nsp ncap hnb hncap hnb1 hnb2=>?_
   |simp -dsimp -implicitDefEqProofs (disch:=first|exact Kd|fail) only[go_sem,↓reduceIte,seval, -List.reduceReplicate,List.toList_toArray,hCl,hCa,hb,hCx,List.replicate_one]
   |with_reducible refine zaE hsm O.is ?_
  rename_i b2 hx1 hx2 hx3 bl hx4 hx5 hx6
  have hz:zcV d=zM d:=by unfold zcV;rw[if_pos hb]
  rw[hz] at hR
  have hon:=zh9 hok
  have hk1:=hok.1
  have hk2:=hok.2.1
  have hO:za1 d.label.length [0]:=⟨by simp,fun x hx=>by rw[List.mem_singleton] at hx;omega⟩
  refine FnT.pre zsg (Upd.go (H':=(nb, .cells [.int .i64 0] [] 3):: (bl, .cells [.slice none 0 0] [] 24):: (b2, .cells C [] 27)::H) Ks (Upd.shareRow Ka fun G2 hle2 hs2 hr2=>?_))
  refine zza rfl rfl fun c1 c2 c3 hs3=>?_
  have hE:=hs3
  try simp only[zzs] at hE
  repeat(obtain⟨hx',hE⟩:=hE)
  repeat' first
   |with_reducible first|refine Nx.go ?_ |refine Bk.go (fun _=>?_) fun _=>?_ |refine Nb fun nb hnb hnb1 hnb2=>?_ |refine Nr fun nb nsp ncap hnb hncap hnb1 hnb2=>?_
   |simp -dsimp -implicitDefEqProofs (disch:=first|exact Kd|fail) only[go_sem,↓reduceIte,seval]
  refine Tri.rangeF2 tok [0,1,2,3,4,7,13,14] rfl zp3 Kk fun lr Rr Rb hlr yl=>?_
  have hE:=hlr
  try simp only[zzs] at hE
  repeat(obtain⟨hx',hE⟩:=hE)
  refine FnT.leave (H':=(c3, .cells [.func (.func 94) #[] #[.pointer (some ⟨b2,0,none⟩)]] [] 124):: (c2, .cells [.slice (some ⟨nb,0,none⟩) 1 1] [] 24):: (c1, .cells [.int .i64 (d.label.length:Nat)] [] 3):: ((lr,Rr .normal):: (bl, .cells [.slice none 0 0] [] 24):: (b2, .cells C [] 27)::H)) ?_ Ks
  refine zya lr c1 c2 c3 b2 Ko hO hon (fun s h0 h1=>?_) (fun s G1 H1 R1 hle h0 h1 hg hf hR1=>zwl hsm hok (O.mono (hle2.trans hle)) h0 h1 hg hf hR1)
   (v0:= .slice (some ⟨nb,0,none⟩) 1 1) ⟨some ⟨nb,0,none⟩,1,rfl,hr2,Nat.le_refl _⟩
   (fun i G' H'=> ∃v kb,zS [] 3 1 v i (((bw (zJ d) [0] i).take i).map (Value.int .i64)) kb∧i≤(bw (zJ d) [0] i).length∧H'=(lr,Rr .normal):: (bl, .cells [v] [] 24):: (b2, .cells C [] 27):: (kb++H))
   (fun _ _ _=>False) ?_ ?_ ?_ ⟨_,[], .inl ⟨none,rfl,rfl,rfl,rfl⟩,Nat.zero_le _,rfl⟩ ?_
  ·obtain⟨j,rfl⟩:=Int.eq_ofNat_of_zero_le h0
   have hj:j<d.next.length:=by have:=hok.2.2.1;omega
   rw[zae hj]
   exact Nat.le_trans (hsm.2.1 _ (List.getElem_mem hj)) Ko
  ·exact fun _ _ _ _ _ h=>h
  ·rintro i G1 _ _ ⟨v,kb,_,_,rfl⟩
   simp -dsimp -implicitDefEqProofs (disch:=first|exact Kd|fail) only[go_sem,↓reduceIte,seval]
  ·rintro i G1 _ HW hi hle1 hs4 ⟨v,kb,hkb,hil,rfl⟩
   have hs5:=zwk hs4
   obtain⟨X,hX⟩:=zug (zJ d) [0] i
   have hti:(bw (zJ d) [0] (i+1)).take (i+1)=(bw (zJ d) [0] i).take i++[(bw (zJ d) [0] i)[i]]:=by
    rw[hX,List.take_append_of_le_length Ko,List.take_succ_eq_append_getElem hi]
   have htl:((bw (zJ d) [0] i).take i).length=i:=by rw[List.length_take];omega
   have hml:(((bw (zJ d) [0] i).take i).map (Value.int .i64)).length=i:=by rw[List.length_map,htl]
   have hbl:=(zeZ hO hon i).len
   have hil2:i+1≤(bw (zJ d) [0] (i+1)).length:=by rw[hX,List.length_append];omega
   rcases hkb with ⟨a,rfl,hz,hz2,rfl⟩| ⟨bk,ck,sk,rfl,rfl,hkl,hkc⟩
   ·have hE:=hs4
    try simp only[zzs] at hE
    repeat(obtain⟨hx',hE⟩:=hE)
    have hE:=hs5
    try simp only[zzs] at hE
    repeat(obtain⟨hx',hE⟩:=hE)
    refine zb8.upd (yl rfl ?_ ?_)
    ·simp -dsimp -implicitDefEqProofs (disch:=first|exact Kd|fail) only[go_sem,↓reduceIte,seval]
    ·repeat' first
      |with_reducible first|refine Nx.go ?_ |refine Bk.go (fun _=>?_) fun _=>?_ |refine Nb fun nb hnb hnb1 hnb2=>?_ |refine Nr fun nb nsp ncap hnb hncap hnb1 hnb2=>?_
      |simp -dsimp -implicitDefEqProofs (disch:=first|exact Kd|fail) only[go_sem,↓reduceIte,seval,List.replicate_one]
     have hi0:i=0:=hz
     refine Upd.go (H':=((lr,Rr .normal):: (bl, .cells [.slice (some ⟨nb,0,none⟩) 1 ncap] [] 24):: (b2, .cells C [] 27):: ([(nb, .cells [.int .i64 (bw (zJ d) [0] i)[i]] nsp 3)]++H))++HW) Ks (Upd.now ⟨_,rfl, .inl ⟨rfl,_,[(nb, .cells [.int .i64 (bw (zJ d) [0] i)[i]] nsp 3)], .inr ⟨nb,ncap,nsp,?_,?_,?_,?_⟩,hil2,rfl⟩⟩)
     ·rw[hi0]
     ·rw[hti,List.map_append,hz2];rfl
     ·rw[hti,List.map_append,hz2];show 1=(i+1) * 1;omega
     ·rw[hti,List.map_append,hz2];show 1+nsp.length=ncap * 1;omega
   ·have hE:=hs4
    try simp only[zzs] at hE
    repeat(obtain⟨hx',hE⟩:=hE)
    have hE:=hs5
    try simp only[zzs] at hE
    repeat(obtain⟨hx',hE⟩:=hE)
    refine zb8.upd (yl rfl ?_ ?_)
    ·simp -dsimp -implicitDefEqProofs (disch:=first|exact Kd|fail) only[go_sem,↓reduceIte,seval]
    ·repeat' first
      |with_reducible first|refine Nx.go ?_ |refine Bk.go (fun _=>?_) fun _=>?_ |refine Nb fun nb hnb hnb1 hnb2=>?_ |refine Nr fun nb nsp ncap hnb hncap hnb1 hnb2=>?_
      |simp -dsimp -implicitDefEqProofs (disch:=first|exact Kd|fail) only[go_sem,↓reduceIte,seval,List.replicate_one]
     have hm2:((bw (zJ d) [0] i).take i).map (Value.int .i64)++[.int .i64 (bw (zJ d) [0] i)[i]]=((bw (zJ d) [0] (i+1)).take (i+1)).map (Value.int .i64):=by rw[hti,List.map_append];rfl
     rw[hm2]
     refine Upd.go (H':=((lr,Rr .normal):: (bl, .cells [.slice (some ⟨nb,0,none⟩) (i+1) ncap] [] 24):: (b2, .cells C [] 27):: ([(nb, .cells (((bw (zJ d) [0] (i+1)).take (i+1)).map (Value.int .i64)) nsp 3)]++H))++HW) Ks (Upd.now ⟨_,rfl, .inl ⟨rfl,_,[(nb, .cells (((bw (zJ d) [0] (i+1)).take (i+1)).map (Value.int .i64)) nsp 3)], .inr ⟨nb,ncap,nsp,rfl,rfl,?_,?_⟩,hil2,rfl⟩⟩)
     ·rw[List.length_map,List.length_take];omega
     ·rw[List.length_map,List.length_take];omega
  ·rintro G1 _ hle1 hs4 (⟨i,hi,v,kb,hkb,hil,rfl⟩| ⟨_,h⟩)
   ·have he:bw (zJ d) [0] i=zM d:=zuh hO hon Ko
    have htk:(bw (zJ d) [0] i).take i=zM d:=by rw[←he];exact List.take_of_length_le Ko
    rw[htk] at hkb
    rw[he] at hi
    rcases hkb with ⟨a,rfl,hz,hz2,rfl⟩| ⟨bk,ck,sk,rfl,rfl,hkl,hkc⟩
    ·have hE:=hs4
     try simp only[zzs] at hE
     repeat(obtain⟨hx',hE⟩:=hE)
     refine⟨.normal,?_,?_⟩
     ·simp -dsimp -implicitDefEqProofs (disch:=first|exact Kd|fail) only[go_sem,↓reduceIte,seval]
     ·repeat' first
       |with_reducible first|refine Nx.go ?_ |refine Bk.go (fun _=>?_) fun _=>?_ |refine Nb fun nb hnb hnb1 hnb2=>?_ |refine Nr fun nb nsp ncap hnb hncap hnb1 hnb2=>?_
       |simp -dsimp -implicitDefEqProofs (disch:=first|exact Kd|fail) only[go_sem,↓reduceIte,seval]
      unfold zv
      refine Upd.leave (H':=H) Ks ?_
      have h0:zM d=[]:=List.eq_nil_of_length_eq_zero Ko
      exact fun hle hs=>hR G1 _ (hle2.trans hle1) hs ⟨a,0,by rw[h0];rfl,by rw[h0];exact Row.nil _ _,by rw[h0];exact Nat.le_refl _⟩
    ·have hE:=hs4
     try simp only[zzs] at hE
     repeat(obtain⟨hx',hE⟩:=hE)
     refine⟨.normal,?_,?_⟩
     ·simp -dsimp -implicitDefEqProofs (disch:=first|exact Kd|fail) only[go_sem,↓reduceIte,seval]
     ·repeat' first
       |with_reducible first|refine Nx.go ?_ |refine Bk.go (fun _=>?_) fun _=>?_ |refine Nb fun nb hnb hnb1 hnb2=>?_ |refine Nr fun nb nsp ncap hnb hncap hnb1 hnb2=>?_
       |simp -dsimp -implicitDefEqProofs (disch:=first|exact Kd|fail) only[go_sem,↓reduceIte,seval]
      unfold zv
      refine Upd.go (H':=(bk, .cells ((zM d).map (Value.int .i64)) sk 3)::H) Ks (Upd.shareRow Ka fun G3 hle3 hs6 hr3=>?_)
      rw[List.length_map] at hkl hkc
      exact fun hle hs=>hR G3 _ ((hle2.trans hle1).trans hle3) hs ⟨some ⟨bk,0,none⟩,ck,by rw[hi],hr3,by omega⟩
   ·exact h.elim
 ·have hb:=zA hok
  have hz:zcV d=[]:=by unfold zcV;rw[if_neg (by rw[hb];exact Bool.false_ne_true)]
  rw[hz] at hR
  refine FnT.body tok [0,1,2,3,4,7,13,14] Tryz.func63 rfl Kk Kk (by show _≤20;simp) fun hsep=>?_
  rw[Tryz.results63]
  have hE:=hsep
  try simp only[zzs] at hE
  repeat(obtain⟨hx',hE⟩:=hE)
  repeat' first
   |with_reducible first|refine Nx.go ?_ |refine Bk.go (fun _=>?_) fun _=>?_ |refine Nb fun nb hnb hnb1 hnb2=>?_ |refine Nr fun nb nsp ncap hnb hncap hnb1 hnb2=>?_
   |simp -dsimp -implicitDefEqProofs (disch:=first|exact Kd|fail) only[go_sem,↓reduceIte,seval, -List.reduceReplicate,List.toList_toArray,hCl,hCa,hb]
   |with_reducible refine zaE hsm O.is ?_
  unfold zv
  refine Upd.leave (H':=H) Ks ?_
  exact fun hle hs=>hR G _ (PLe.refl _) hs (Sl.nil _ _)
end Go.Proofs.YtomdbjfdbkejoaaGreatDoor
