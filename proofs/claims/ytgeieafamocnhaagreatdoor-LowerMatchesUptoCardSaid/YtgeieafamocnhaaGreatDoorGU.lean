/- A program lowered. -/
import Derived.Test.YtgeieafamocnhaaGreatDoorGT
namespace Go.Proofs.YtgeieafamocnhaaGreatDoor
open List renaming getElem?_eq_getElem → G7, mem_of_getElem? → G8, drop_of_length_le → Hb, length_cons → Hc, length_nil → Hd, length_map → He, length_take → Hf, map_append → Hk, mem_append → Hm, mem_singleton → Hn, take_length → Ht, length_drop → Hu, any_eq_true → HF
open Bool renaming true_or → HZ
open Nat renaming le_refl → H4
set_option maxHeartbeats 64000000
open Go Go.Ab Go.Proofs
open Nat renaming reduceEqDiff → zp, reduceAdd → zq, reduceLeDiff → zr, reduceLT → zs, reduceBEq → zt
set_option linter.unusedVariables false
set_option linter.unusedSimpArgs false
set_option maxRecDepth 20000
def jL (l:List Bk):AV:=.lst 5 (l.map bkE)
theorem lR (l:List Bk):dt (jL l)=some l.length:=by simp [jL,dP]
theorem oT {l:List Bk} {n:Nat} {r:Bk} (h:l[n]?=some r):idxA 5 (jL l) (n:Int)=some (.fp (bkE r)):=cY h
theorem qJ (l:List Bk):cellsOf (jL l)=[jL l]:=rfl
theorem qf (l:List Bk):(jL l).plain=true:=rfl
theorem nG (x:Fn):fnE x=[.str x.name,bw x.params,.int .i64 x.result,bw x.locals,jL x.blocks]:=rfl
theorem AH (b:Bk):bkE b=[.lst 4 (b.steps.map stE),.int .u8 b.kind,.str b.func,cg b.terms,cP b.to]:=rfl
theorem xq (b:Bk):(bkE b).length=5:=rfl
theorem tN (b:Bk):(bkE b).take 5=bkE b:=rfl
theorem xe (x:Fn):(fnE x).length=5:=rfl
theorem lN (l:List Fn):∀ z∈l.map fnE,z.length=5:=fun z hz=>by
 obtain ⟨r,_,rfl⟩:=List.mem_map.1 hz;rfl
def lng (b:Bk):Bool:=decide ((b.steps.length:Int) > 60)
theorem w30 (b:Bk):Pure Tryz.prog 30 [.agg (bkE b)] (.bool (lng b)):=by
 refine Pure.of fun nx=>AC.go aj is30 (by simp) ?_
 have lv:dt (.lst 4 (b.steps.map stE))=some b.steps.length:=by simp [dt]
 rw [AH]
 simp -implicitDefEqProofs only [RA,aa,zp,↓reduceIte,reduceCtorEq,zq,zr,zs,zt,A30,Ge,↓cw,↓cu,lv,R30]
 rfl
theorem w70 (l:List Bk) (hl:l.length≤4611686018427387904):Pure Tryz.prog 70 [jL l,.fn (.func 30) []] (.int .i64 (fi lng l 0)):=by
 refine Pure.of fun nx=>AC.go aj is70 (by simp) ?_
 have lv:=lR l
 simp -implicitDefEqProofs only [RA,aa,zp,↓reduceIte,reduceCtorEq,zq,zr,zs,zt,A70,FD,lv]
 refine aq (fun q st=>∃ i:Nat,q=l.length-i∧i≤l.length∧fi lng (l.drop i) i=fi lng l 0∧ab st.env 0=some (jL l)∧ab st.env 1=some (.fn (.func 30) [])∧ab st.env 7=some (.int .i64 l.length)∧ab st.env 8=some (.int .i64 i)∧st.dm=[]) (n:=l.length) aj
  ⟨0,rfl,by omega,by simp,by simp [ab],by simp [ab],by simp [ab],by simp [ab],rfl⟩ ?_
 rintro q ⟨env,heap,nx',dm⟩ ⟨i,rfl,hi,hf,g0,g1,g7,g8,hdm⟩
 simp only at g0 g1 g7 g8 hdm
 subst hdm
 by_cases hc:(i:Int)<(l.length:Int)
 case neg =>
  have:l.drop i=[]:=Hb (by omega)
  rw [this,fi] at hf
  rw [← hf]
  simp -implicitDefEqProofs only [RA,aa,zp,↓reduceIte,reduceCtorEq,zq,zr,zs,zt,xW,sd,g7,g8,hc,R70]
 have hr:=G7 (show i<l.length by omega)
 generalize l[i]=r at hr
 rw [fA hr] at hf
 have ix:=oT hr
 have rl:=xq r
 have rt:=tN r
 have f1:=wS (i:=i) (by omega)
 simp -implicitDefEqProofs only [RA,aa,zp,↓reduceIte,reduceCtorEq,zq,zr,zs,zt,xW,sd,g0,g1,g7,g8,hc,ix,rl,rt]
 refine (w30 r).use fun n1 hn1=>?_
 cases hv:lng r with
 | true =>
  simp only [hv,if_true] at hf
  rw [← hf]
  simp -implicitDefEqProofs only [RA,aa,zp,↓reduceIte,reduceCtorEq,zq,zr,zs,zt,g0,g1,g7,g8,R70]
 | false =>
  simp only [hv,Bool.false_eq_true,if_false] at hf
  simp -implicitDefEqProofs only [RA,aa,zp,↓reduceIte,reduceCtorEq,zq,zr,zs,zt,g0,g1,g7,g8,f1]
  exact ⟨l.length-(i+1),by omega,i+1,rfl,by omega,hf,rfl⟩
theorem w29 (l:List Bk) (hl:l.length≤4611686018427387904):Pure Tryz.prog 29 [jL l,.fn (.func 30) []] (.bool (l.any lng)):=by
 refine Pure.of fun nx=>AC.go aj is29 (by simp) ?_
 simp -implicitDefEqProofs only [RA,aa,zp,↓reduceIte,reduceCtorEq,zq,zr,zs,zt,A29,Gf]
 refine (w70 l hl).use fun n1 hn1=>?_
 have e:=iu lng l 0
 simp -implicitDefEqProofs only [RA,aa,zp,↓reduceIte,reduceCtorEq,zq,zr,zs,zt,e,R29]
def kN (p:Pr) (g:Fu):Bool:=decide (((fnL p g).blocks.length:Int) > 60)||(fnL p g).blocks.any lng
def loW (p:Pr):List Fn × Int:=if ckE p=0 then (if p.funcs.any (kN p)=true then ([],4) else (p.funcs.map (fnL p),0)) else ([],ckE p)
theorem nFC (h:Heap):jM h [.nilS] h [.lst 5 []]:=.cons (.nilS _ 5) rfl (.nil _)
theorem oP {p:Pr} {g:Fu} (hg:bS g.body≤5000):(fnL p g).blocks.length≤20000:=by
 have h1:=(dh p (fnW p g).2 g.body (-1) (opB 0 (mkB ([],0)))).2.1
 have h2:=ic g.body
 have h3:(opB 0 (mkB ([],0))).1.length=1:=rfl
 show ((cQ 7 (fX g) [] (gE p g)).1).length≤20000
 rw [dn,gE];omega
theorem w13 (p:Pr) (o:OkP p):Pure Tryz.prog 13 [.agg (prE p)] (.tup [.agg [.lst 5 ((loW p).1.map fnE)],.int .i64 (loW p).2]):=by
 refine Pure.frz fun nx=>AC.go aj is13 (by simp) ?_
 have hpe:=ct p
 rcases ah (ckE p=0) with ⟨d1',d1⟩|⟨d1',d1⟩
 case inr =>
  have c20:=w20e p o d1'
  have e1:loW p=([],ckE p):=by rw [loW,if_neg d1']
  rw [hpe] at c20 ⊢
  rw [e1]
  have n1:(nx+1=nx)=False:=eq_false (by omega)
  simp -implicitDefEqProofs only [RA,aa,zp,↓reduceIte,reduceCtorEq,zq,zr,zs,zt,A13,CZ,n1,↓bf,↓bc,↓be,↓ba]
  refine c20.use fun m1 hm1=>?_
  simp -implicitDefEqProofs only [RA,aa,zp,↓reduceIte,reduceCtorEq,zq,zr,zs,zt,d1,n1,R13]
  exact ⟨_,_,rfl,Frz.head (Frz.agg (nFC _))⟩
 have c20:=w20 p o d1'
 have n1:(nx+1=nx)=False:=eq_false (by omega)
 have lf:=cZ p.funcs
 have hfl:=o.fl
 rw [hpe] at c20 ⊢
 simp -implicitDefEqProofs only [RA,aa,zp,↓reduceIte,reduceCtorEq,zq,zr,zs,zt,A13,CZ,n1,↓bf,↓bc,↓be,↓ba]
 refine c20.use fun m1 hm1=>?_
 have n2:(m1=nx)=False:=eq_false (by omega)
 have n3:(m1=nx+1)=False:=eq_false (by omega)
 simp -implicitDefEqProofs only [RA,aa,zp,↓reduceIte,reduceCtorEq,zq,zr,zs,zt,n1,n2,n3,lf]
 refine aq (fun q st=>∃ (i:Nat) (v:AV),q=p.funcs.length-i∧i≤p.funcs.length∧(p.funcs.take i).any (kN p)=false∧ab st.env 2=some (.op (nx+1) 0)∧ab st.env 4=some (.fp (unE p (plW p) (vsW p)))∧ab st.env 6=some (.op m1 0)∧ab st.env 21=some (.int .i64 p.funcs.length)∧ab st.env 22=some (.int .i64 i)∧af st.heap (nx+1)=some (.cells [.nilS])∧af st.heap m1=some (.cells [v])∧aF 90 5 st.heap st.nx v (((p.funcs.take i).map (fnL p)).map fnE)∧(∀ b,aw v=some b→m1<b)∧m1<st.nx∧st.dm=[]) (n:=p.funcs.length) aj
  ⟨0,.nilS,rfl,by omega,by simp,by simp [ab],by simp [ab],by simp [ab],by simp [ab],by simp [ab],by simp [ai,n1,n3],by simp [ai],.inl ⟨rfl,by simp⟩,by simp [aw],by simp,rfl⟩ ?_
 rintro q ⟨env,heap,nx',dm⟩ ⟨i,v,rfl,hi,hb,g2,g4,g6,g21,g22,h2,h6,ov,bv,hlt,hdm⟩
 simp only at g2 g4 g6 g21 g22 h2 h6 ov bv hlt hdm
 subst hdm
 have f1:=wS (i:=i) (by omega)
 by_cases hc:(i:Int)<(p.funcs.length:Int)
 case neg =>
  have hiK:i=p.funcs.length:=by omega
  rw [hiK,Ht] at hb ov
  have e1:loW p=(p.funcs.map (fnL p),0):=by rw [loW,if_pos d1',if_neg (by rw [hb];simp)]
  rw [e1]
  obtain ⟨q1,q2⟩:=bE ov
  obtain ⟨h3,fz,_⟩:=(ov.keep (h':=(nx+1,.cells [v])::heap) (H4 _) fun k a hb ha=>by have:=bv k hb;rw [ai,if_neg (by omega)];exact ha).frz2 (lN _)
  simp -implicitDefEqProofs only [RA,aa,zp,↓reduceIte,reduceCtorEq,zq,zr,zs,zt,yF,sR,g2,g4,g6,g21,g22,hc,h2,h6,q1,q2,R13]
  exact ⟨_,_,rfl,Frz.head (Frz.agg (.cons fz rfl (.nil _)))⟩
 have hr:=G7 (show i<p.funcs.length by omega)
 generalize p.funcs[i]=g at hr
 have hgm:=G8 hr
 have c28:=w28 p o d1' i g hr
 have fl:=oP (p:=p) (o.fb g hgm)
 have c29:=w29 (fnL p g).blocks (by omega)
 have lb:=lR (fnL p g).blocks
 have et:p.funcs.take (i+1)=p.funcs.take i++[g]:=az hr
 rw [nG] at c28
 have n4:(nx'=nx+1)=False:=eq_false (by omega)
 have n5:(nx'=m1)=False:=eq_false (by omega)
 simp -implicitDefEqProofs only [RA,aa,zp,↓reduceIte,reduceCtorEq,zq,zr,zs,zt,yF,sR,g2,g4,g6,g21,g22,hc]
 refine c28.use fun m2 hm2=>?_
 have n6:(m2=nx+1)=False:=eq_false (by omega)
 have n7:(m2=m1)=False:=eq_false (by omega)
 have gk:∀ (X Y:AO) k a,k<nx'→af heap k=some a→af ((m2,X)::(m2,Y)::heap) k=some a:=fun X Y k a hk ha=>by
  rw [ai,if_neg (by omega),ai,if_neg (by omega)];exact ha
 have hbad:kN p g=true→loW p=([],4):=fun h=>by
  rw [loW,if_pos d1',if_pos (HF.2 ⟨g,hgm,h⟩)]
 simp -implicitDefEqProofs only [RA,aa,zp,↓reduceIte,reduceCtorEq,zq,zr,zs,zt,n6,n7,↓aY,↓aX,↓qJ,↓qf]
 refine c29.use fun m3 hm3=>?_
 have n8:(m2=m2)=True:=eq_true rfl
 rcases ah (((fnL p g).blocks.length:Int) > 60) with ⟨d2',d2⟩|⟨d2',d2⟩
 ·rw [hbad (by rw [kN,decide_eq_true d2',HZ])]
  simp -implicitDefEqProofs only [RA,aa,zp,↓reduceIte,reduceCtorEq,zq,zr,zs,zt,g2,h2,n6,n7,lb,d2,R13]
  exact ⟨_,_,rfl,Frz.head (Frz.agg (nFC _))⟩
 cases ha:(fnL p g).blocks.any lng with
 | true =>
  rw [hbad (by rw [kN,ha,Bool.or_true])]
  simp -implicitDefEqProofs only [RA,aa,zp,↓reduceIte,reduceCtorEq,zq,zr,zs,zt,g2,h2,n6,n7,lb,d2,R13]
  exact ⟨_,_,rfl,Frz.head (Frz.agg (nFC _))⟩
 | false =>
  have hok:kN p g=false:=by rw [kN,ha,decide_eq_false d2',Bool.or_false]
  have ov2:aF 90 5 ((m2,.cells (fnE (fnL p g)))::(m2,.cells [.str [],.nilS,.int .i64 0,.nilS,.nilS])::heap) m3 v _:=ov.keep (by omega) fun k a hb2 hk=>gk _ _ k a (ov.blk hb2).2.2 hk
  obtain ⟨v2,hp,n9,ea,ow,hn9,k9,b9⟩:=ov2.grw (bytes:=96) (ns:=[fnE (fnL p g)]) (lN _) (by simp [xe]) (by simp only [He,Hf,Hc,Hd];omega) (by simp only [He,Hf,Hc,Hd,maxLen];omega)
  obtain ⟨q1,q2⟩:=bE ow
  rw [nG] at ea
  have kk:∀ k a,k≤m1→af heap k=some a→af hp k=some a:=fun k a hk hka=>k9 k a (by omega) (gk _ _ k a (by omega) hka) fun e=>by have:=bv k e;omega
  have h6':=kk m1 _ (H4 _) h6
  have bv2:∀ b,aw v2=some b→m1<b:=fun b hb2=>by
   rcases b9 b hb2 with h|h
   ·omega
   ·exact bv b h
  simp -implicitDefEqProofs only [RA,aa,zp,↓reduceIte,reduceCtorEq,zq,zr,zs,zt,g2,g4,g6,g21,g22,h6,h6',n6,n7,lb,d2,ea,q1,q2,f1]
  refine ⟨p.funcs.length-(i+1),by omega,i+1,v2,rfl,by omega,?_,rfl,?_,rfl,?_,bv2,by omega⟩
  ·rw [et,List.any_append,hb];simp [hok]
  ·rw [if_neg (by omega)];exact kk _ _ (by omega) h2
  ·rw [et,Hk,Hk]
   exact ow.keep (H4 _) fun k a hb2 hk=>by
    have:=bv2 k hb2
    rw [ai,if_neg (by omega)];exact hk
theorem wp {p:Pr} {g:Fu} {K:List Pm} (hck:ckE p=0) (hgm:g∈p.funcs) (hK:(fnW p g).2=K):okL p K false g.body:=by
 obtain ⟨hwf,hfn⟩:=kh hck
 have h5:=hfn g hgm
 have h6:=hwf g hgm
 unfold wfF at h6
 simp only [Bool.and_eq_true] at h6
 unfold fnW at h5 hK
 split at h5
 ·rename_i h7
  rw [if_pos h7] at hK
  exact mF p g.result g.body _ K false (List.all_eq_true.1 h6.2) h5 ⟨[],by rw [List.append_nil];exact hK.symm⟩
 ·rename_i h7;exact absurd h5 h7
theorem w31 (p:Pr) (op:OkP p) (hck:ckE p=0) (f:Nat) (g:Fu) (hg:p.funcs[f]?=some g):Pure Tryz.prog 31 [.agg (prE p),.int .i64 f] (.agg (fnE (fnL p g))):=by
 refine Pure.frz fun nx=>AC.go aj is31 (by simp) ?_
 have hpe:=ct p
 have hgm:=G8 hg
 have ig:=cJ hg
 have ge:=dG g
 have c23:=w23' p f op
 rw [hpe,vL hck hg] at c23
 rw [hpe]
 have ogp:=op.fp g hgm
 have ogb:=op.fb g hgm
 have hnb:=ic g.body
 have hKl:(fnW p g).2.length≤6000:=by
  have:=@oO p g
  omega
 generalize hK:(fnW p g).2=K at c23 hKl
 have lv:=cq K
 have lgp:=cq g.params
 have b1:(nx+1=nx)=False:=eq_false (by omega)
 simp -implicitDefEqProofs only [RA,aa,zp,↓reduceIte,reduceCtorEq,zq,zr,zs,zt,A31,Gd,b1,↓bf,↓bc,↓be,↓ba]
 refine c23.use fun n2 hn2=>?_
 have b2:(n2=nx)=False:=eq_false (by omega)
 have b3:(n2=nx+1)=False:=eq_false (by omega)
 have b4:(n2+1=n2)=False:=eq_false (by omega)
 have b5:(n2+1=nx)=False:=eq_false (by omega)
 have b6:(n2+1=nx+1)=False:=eq_false (by omega)
 simp -implicitDefEqProofs only [RA,aa,zp,↓reduceIte,reduceCtorEq,zq,zr,zs,zt,b1,b2,b3,b4,b5,b6,ig,ge,↓aY,↓aX,↓aB,↓aA,↓bf,↓bc,↓be,↓ba]
 refine aq (fun q st=>∃ (i:Nat) (pv lo:AV),q=K.length-i∧i≤K.length∧ab st.env 4=some (.op (nx+1) 0)∧ab st.env 5=some (bw K)∧ab st.env 7=some (.op n2 0)∧ab st.env 8=some (.op (n2+1) 0)∧ab st.env 9=some (.int .i64 i)∧af st.heap (nx+1)=some (.cells [.str [],.nilS,.int .i64 0,.nilS,.nilS])∧af st.heap n2=some (.cells [bU p.arrays,bR p.funcs,bw K,.str g.name,bw g.params,.int .i64 g.result,ay g.body,.nilS,.int .i64 0,.nilS])∧af st.heap (n2+1)=some (.cells [.str g.name,pv,.int .i64 g.result,lo,.nilS])∧kR st.heap st.nx (n2+1) pv lo ((K.take i).take g.params.length) ((K.take i).drop g.params.length)∧n2+1<st.nx∧st.dm=[]) (n:=K.length) aj
  ⟨0,.nilS,.nilS,rfl,by omega,by simp [ab],by simp [ab],by simp [ab],by simp [ab],by simp [ab],by simp [ai,b2,b3,b6],by simp [ai,b4],by simp [ai],⟨.inl ⟨rfl,by simp⟩,.inl ⟨rfl,by simp⟩,by simp [aw],by simp [aw],fun b e _=>by cases e⟩,by simp,rfl⟩ ?_
 rintro q ⟨env,heap,nx',dm⟩ ⟨i,pv,lo,rfl,hi,g4,g5,g7,g8,g9,h0,h3,h4,O,hlt,hdm⟩
 simp only at g4 g5 g7 g8 g9 h0 h3 h4 O hlt hdm
 subst hdm
 have f1:=wS (i:=i) (by omega)
 by_cases hc:(i:Int)<(K.length:Int)
 case pos =>
  have hr:=G7 (show i<K.length by omega)
  generalize K[i]=r at hr
  have ix:=dj hr
  have re:=eu r
  have a0:(nx'=n2)=False:=eq_false (by omega)
  have a2:(nx'=n2+1)=False:=eq_false (by omega)
  have gk:∀ (X Y:AO) k a,k<nx'→af heap k=some a→af ((nx',X)::(nx',Y)::heap) k=some a:=fun X Y k a hk ha=>by
   simp only [ai];rw [if_neg (by omega),if_neg (by omega)];exact ha
  have lt1:((K.take i).take g.params.length).length≤6000:=by rw [Hf,Hf];omega
  have lt2:((K.take i).drop g.params.length).length≤6000:=by rw [Hu,Hf];omega
  rw [re] at ix
  rcases ah ((i:Int)<(g.params.length:Int)) with ⟨d1',d1⟩|⟨d1',d1⟩
  ·obtain ⟨v2,hp,n3,ea,q1,q2,O2,hn3,k2⟩:=O.add (n':=nx'+1) (by omega) hlt (gk (.cells [.str r.1,.int .i64 r.2]) (.cells [.str [],.int .i64 0])) (by omega) r
   have h4':=k2 _ _ (by omega) h4
   rw [re] at ea
   simp -implicitDefEqProofs only [RA,aa,zp,↓reduceIte,reduceCtorEq,zq,zr,zs,zt,t8,pu,g4,g5,g7,g8,g9,lv,hc,ix,h3,h4,lgp,a0,a2,d1,ea,q1,q2,h4',f1]
   obtain ⟨e1,e2⟩:=Au hr (show i<g.params.length by omega)
   refine ⟨K.length-(i+1),by omega,i+1,v2,lo,rfl,by omega,rfl,?_,?_,rfl,by rw [e1,e2];exact O2 _,by omega⟩
   ·rw [if_neg (by omega)];exact k2 _ _ (by omega) h0
   ·rw [if_neg (by omega)];exact k2 _ _ (by omega) h3
  ·obtain ⟨v2,hp,n3,ea,q1,q2,O2,hn3,k2⟩:=O.swap.add (n':=nx'+1) (by omega) hlt (gk (.cells [.str r.1,.int .i64 r.2]) (.cells [.str [],.int .i64 0])) (by omega) r
   have h4':=k2 _ _ (by omega) h4
   rw [re] at ea
   simp -implicitDefEqProofs only [RA,aa,zp,↓reduceIte,reduceCtorEq,zq,zr,zs,zt,t8,pu,g4,g5,g7,g8,g9,lv,hc,ix,h3,h4,lgp,a0,a2,d1,ea,q1,q2,h4',f1]
   obtain ⟨e1,e2⟩:=Av hr (show ¬ i<g.params.length by omega)
   refine ⟨K.length-(i+1),by omega,i+1,pv,v2,rfl,by omega,rfl,?_,?_,rfl,by rw [e1,e2];exact (O2 _).swap,by omega⟩
   ·rw [if_neg (by omega)];exact k2 _ _ (by omega) h0
   ·rw [if_neg (by omega)];exact k2 _ _ (by omega) h3
 have hiK:i=K.length:=by omega
 rw [hiK,Ht] at O
 have nof:∀ k,¬ Fm .nilS [] .nilS k:=fun k hf=>by
  rcases hf with (hf|⟨i,c,hc,_⟩)|hf
  ·cases hf
  ·simp at hc
  ·cases hf
 have w0:MS p K g n2 heap nx' .nilS [] .nilS [] ([],0):=⟨h3,by omega,nof _,⟨.inl ⟨rfl,rfl⟩,rfl,fun i c b hc _=>by simp at hc,fun i j c d _ hc _=>by simp at hc,fun i c hc=>by simp at hc⟩,.inl ⟨rfl,rfl⟩,fun k hb=>by cases hb⟩
 simp -implicitDefEqProofs only [RA,aa,zp,↓reduceIte,reduceCtorEq,zq,zr,zs,zt,t8,pu,g4,g5,g7,g8,g9,lv,hc]
 refine (w71 p K g n2 heap nx' .nilS .nilS [] [] ([],0) w0 (by simp)).mono ?_
 rintro y ha na ⟨rfl,va,csa,eva,wa,ga⟩
 have sta:=st1 (off:=8) (x:=.int .i64 0) wa.cell (by simp [mkC,mkr]) rfl
 obtain ⟨wb,gb⟩:=wa.open 0
 have Gb:=ga.trans gb
 have pb:=bK (off:=6) wb.cell rfl
 simp only [mkC,mkr,List.set_cons_succ,List.set_cons_zero] at sta wb Gb pb
 have zz:((0:Nat):Int)=0:=rfl
 have hok:=wp hck hgm hK
 have ob:Op (opB 0 (mkB ([],0))):=.inr ⟨by simp [opB],by simp [opB,mkB]⟩
 have mb:SB 0 (opB 0 (mkB ([],0))):=fun b hb=>by
  simp [opB,mkB] at hb;subst hb;simp [Bk0]
 have lb:(opB 0 (mkB ([],0))).1.length=1:=rfl
 simp -implicitDefEqProofs only [RR,RE,aa,zp,↓reduceIte,reduceCtorEq,zq,zr,zs,zt,g4,g7,g8,zz,sta,pb,aa,Hd]
 refine (w72 p op hck K g n2 (by omega) 5000 g.body ogb (H4 _) false (-1) [] _ _ va eva csa (opB 0 (mkB ([],0))) 0 hok (by simp) wb ob mb (by omega) (by rw [lb];omega) (by simp;omega)).mono ?_
 rintro y hc' nc ⟨rfl,vc,csc,evc,wc,gc⟩
 have Gc:=Gb.trans gc
 have oc:=(dh p K g.body (-1) (opB 0 (mkB ([],0)))).2.2 ob
 have eK:gE p g=slG p K (-1) g.body (opB 0 (mkB ([],0))):=by rw [gE,hK]
 rw [← eK] at wc oc
 have h4c:=Gc.keep (n2+1) _ hlt (by omega) (nof _) h4
 have pc:=bK (off:=2) h4c rfl
 have fin:∀ (hd:Heap) (nd:Nat) (vd evd:AV) (csd:List (List AV)),MS p K g n2 hd nd vd csd evd [] (cQ 7 (fX g) [] (gE p g))→GrM n2 heap nx' .nilS [] .nilS hd nd vd csd evd →
   af hd (nx+1)=some (.cells [.str [],.nilS,.int .i64 0,.nilS,.nilS])∧af hd (n2+1)=some (.cells [.str g.name,pv,.int .i64 g.result,lo,.nilS])∧(cellsOf pv=[pv]∧pv.plain=true)∧(cellsOf lo=[lo]∧lo.plain=true)∧(cellsOf vd=[vd]∧vd.plain=true) ∧
   ∀ (X Y:AO),∃ h2,Frz ((nx+1,X)::(n2+1,Y)::hd) (.agg [.str g.name,pv,.int .i64 g.result,lo,vd]) h2 (.agg (fnE (fnL p g))):=by
  intro hd nd vd evd csd wd gd
  have Od:kR hd nd (n2+1) pv lo (K.take g.params.length) (K.drop g.params.length):=O.keep gd.le fun k a hk hq ha=>gd.keep k a hk (by omega) (nof k) ha
  refine ⟨gd.keep _ _ (by omega) (by omega) (nof _) h0,gd.keep _ _ (by omega) (by omega) (nof _) h4,bE O.op,bE O.ol,bE wd.blk.own,fun X Y=>?_⟩
  have Oe:=Od.keep (h':=(nx+1,X)::(n2+1,Y)::hd) (H4 nd) fun k a hk hq ha=>by rw [ai,if_neg (by omega),ai,if_neg (by omega)];exact ha
  have hfp:∀ k,Fp vd csd k→nx'≤k:=fun k hf=>by
   rcases gd.new k (.inl hf) with h1|h1
   ·exact h1
   ·exact absurd h1 (nof k)
  have Be:ej ((nx+1,X)::(n2+1,Y)::hd) nd vd csd _:=wd.blk.keep (H4 nd) fun k a hf ha=>by
   have:=hfp k hf
   rw [ai,if_neg (by omega),ai,if_neg (by omega)];exact ha
  obtain ⟨j1,f1,k1⟩:=Oe.op.frz2 (dX _)
  have ol1:aF 101 2 j1 nd lo _:=Oe.ol.keep (H4 _) fun k a hb ha=>k1 k a ha fun y e=>Oe.ap k (by rw [e];rfl) hb
  obtain ⟨j2,f2,k2⟩:=ol1.frz2 (dX _)
  have B2:ej j2 nd vd csd _:=Be.keep (H4 nd) fun k a hf ha=>k2 k a (k1 k a ha fun y e=>by
   have:=hfp k hf
   have:=(O.op.blk (b:=k) (by rw [e];rfl)).2.2
   omega) fun y e=>by
   have:=hfp k hf
   have:=(O.ol.blk (b:=k) (by rw [e];rfl)).2.2
   omega
  obtain ⟨j3,f3⟩:=B2.frz
  refine ⟨j3,?_⟩
  have ef:fnE (fnL p g)=[.str g.name,bw (K.take g.params.length),.int .i64 g.result,bw (K.drop g.params.length),.lst 5 ((cQ 7 (fX g) [] (gE p g)).1.map bkE)]:=by rw [fnL,hK];rfl
  rw [ef]
  exact Frz.agg (.keep rfl (.cons f1 rfl (.keep rfl (.cons f2 rfl (.cons f3 rfl (.nil _))))))
 have b7:(n2+1=n2)=False:=eq_false (by omega)
 have b8:(n2=n2+1)=False:=eq_false (by omega)
 rcases ah (g.result > 0) with ⟨d1',d1⟩|⟨d1',d1⟩
 ·have er:fX g=[dF g.result 0]:=by rw [fX,if_pos d1']
  simp -implicitDefEqProofs only [RR,RE,aa,zp,↓reduceIte,reduceCtorEq,zq,zr,zs,zt,g4,g7,g8,pc,d1,aa]
  refine (w50 g.result 0).use fun nd hnd=>?_
  have wd:=wc.more hnd fun _ _ _ h=>h
  have gd:GrM n2 heap nx' .nilS [] .nilS _ nd vc csc evc:=Gc.trans (GrM.refl hnd fun _ _ _ h=>h)
  simp -implicitDefEqProofs only [RR,RE,aa,zp,↓reduceIte,reduceCtorEq,zq,zr,zs,zt,g4,g7,g8,aV,aQ,br]
  refine (w73 p K g n2 hc' nd vc evc csc [] _ wd oc 7 (cg [dF g.result 0]) .nilS (fX g) [] (.inl (by rw [er])) (.inr ⟨rfl,rfl⟩)).mono ?_
  rintro y he ne ⟨rfl,ve,cse,eve,we,g3⟩
  obtain ⟨h0',h4',⟨q1,q2⟩,⟨q3,q4⟩,⟨q5,q6⟩,fz⟩:=fin he ne ve eve cse we (gd.trans g3)
  have gce:=we.cell
  simp only [mkC,mkr] at gce
  simp -implicitDefEqProofs only [RA,aa,zp,↓reduceIte,reduceCtorEq,zq,zr,zs,zt,g4,g7,g8,gce,h0',h4',b6,b7,b8,q1,q2,q3,q4,q5,q6,R31]
  obtain ⟨h2,hz⟩:=fz _ _
  exact ⟨_,h2,rfl,hz⟩
 ·have er:fX g=[]:=by rw [fX,if_neg d1']
  simp -implicitDefEqProofs only [RR,RE,aa,zp,↓reduceIte,reduceCtorEq,zq,zr,zs,zt,g4,g7,g8,pc,d1,aa,br]
  refine (w73 p K g n2 hc' nc vc evc csc [] _ wc oc 7 .nilS .nilS (fX g) [] (.inr ⟨rfl,er⟩) (.inr ⟨rfl,rfl⟩)).mono ?_
  rintro y he ne ⟨rfl,ve,cse,eve,we,g3⟩
  obtain ⟨h0',h4',⟨q1,q2⟩,⟨q3,q4⟩,⟨q5,q6⟩,fz⟩:=fin he ne ve eve cse we (Gc.trans g3)
  have gce:=we.cell
  simp only [mkC,mkr] at gce
  simp -implicitDefEqProofs only [RA,aa,zp,↓reduceIte,reduceCtorEq,zq,zr,zs,zt,g4,g7,g8,gce,h0',h4',b6,b7,b8,q1,q2,q3,q4,q5,q6,R31]
  obtain ⟨h2,hz⟩:=fz _ _
  exact ⟨_,h2,rfl,hz⟩
theorem xF {α:Type} {q:α→Bool} {l:List α} {i:Nat} {x:α} (h:l[i]?=some x):(l.drop i).any q=(q x||(l.drop (i+1)).any q):=by
 rw [cG h,List.any_cons]
theorem w14 (p:Pr) (o:OkP p):Pure Tryz.prog 14 [.agg (prE p)] (.tup [.agg [.lst 5 ((loW p).1.map fnE)],.int .i64 (loW p).2]):=by
 refine Pure.frz fun nx=>AC.go aj is14 (by simp) ?_
 have hpe:=ct p
 have c25:=w25 p o
 rcases ah (ckE p=0) with ⟨d1',d1⟩|⟨d1',d1⟩
 case inr =>
  have e1:loW p=([],ckE p):=by rw [loW,if_neg d1']
  rw [hpe] at c25 ⊢
  rw [e1]
  have n1:(nx+1=nx)=False:=eq_false (by omega)
  simp -implicitDefEqProofs only [RA,aa,zp,↓reduceIte,reduceCtorEq,zq,zr,zs,zt,A14,CV,n1,↓bf,↓bc,↓be,↓ba]
  refine c25.use fun m1 hm1=>?_
  simp -implicitDefEqProofs only [RA,aa,zp,↓reduceIte,reduceCtorEq,zq,zr,zs,zt,d1,n1,R14]
  exact ⟨_,_,rfl,Frz.head (Frz.agg (nFC _))⟩
 have n1:(nx+1=nx)=False:=eq_false (by omega)
 have lf:=cZ p.funcs
 have hfl:=o.fl
 have c31:=w31 p o d1'
 rw [d1',hpe] at c25
 rw [hpe] at c31 ⊢
 simp -implicitDefEqProofs only [RA,aa,zp,↓reduceIte,reduceCtorEq,zq,zr,zs,zt,A14,CV,n1,↓bf,↓bc,↓be,↓ba]
 refine c25.use fun m1 hm1=>?_
 have n2:(m1=nx)=False:=eq_false (by omega)
 have n3:(m1=nx+1)=False:=eq_false (by omega)
 simp -implicitDefEqProofs only [RA,aa,zp,↓reduceIte,reduceCtorEq,zq,zr,zs,zt,n1,n2,n3,lf]
 refine aq (fun q st=>∃ (i:Nat) (v:AV),q=p.funcs.length-i∧i≤p.funcs.length∧(p.funcs.take i).any (kN p)=false∧ab st.env 1=some (.op nx 0)∧ab st.env 2=some (.op (nx+1) 0)∧ab st.env 5=some (.op m1 0)∧ab st.env 6=some (.int .i64 i)∧af st.heap nx=some (.cells [bU p.arrays,bR p.funcs])∧af st.heap (nx+1)=some (.cells [.nilS])∧af st.heap m1=some (.cells [v])∧aF 90 5 st.heap st.nx v (((p.funcs.take i).map (fnL p)).map fnE)∧(∀ b,aw v=some b→m1<b)∧m1<st.nx∧st.dm=[]) (n:=p.funcs.length) aj
  ⟨0,.nilS,rfl,by omega,by simp,by simp [ab],by simp [ab],by simp [ab],by simp [ab],by simp [ai,n1,n2],by simp [ai,n1,n3],by simp [ai],.inl ⟨rfl,by simp⟩,by simp [aw],by simp,rfl⟩ ?_
 rintro q ⟨env,heap,nx',dm⟩ ⟨i,v,rfl,hi,hb,g1,g2,g5,g6,h1,h2,h5,ov,bv,hlt,hdm⟩
 simp only at g1 g2 g5 g6 h1 h2 h5 ov bv hlt hdm
 subst hdm
 have f1:=wS (i:=i) (by omega)
 by_cases hc:(i:Int)<(p.funcs.length:Int)
 case neg =>
  have hiK:i=p.funcs.length:=by omega
  rw [hiK,Ht] at hb ov
  have e1:loW p=(p.funcs.map (fnL p),0):=by rw [loW,if_pos d1',if_neg (by rw [hb];simp)]
  rw [e1]
  obtain ⟨q1,q2⟩:=bE ov
  obtain ⟨h3,fz,_⟩:=(ov.keep (h':=(nx+1,.cells [v])::heap) (H4 _) fun k a hb ha=>by have:=bv k hb;rw [ai,if_neg (by omega)];exact ha).frz2 (lN _)
  simp -implicitDefEqProofs only [RA,aa,zp,↓reduceIte,reduceCtorEq,zq,zr,zs,zt,yC,sO,g1,g2,g5,g6,h1,lf,hc,h2,h5,q1,q2,R14]
  exact ⟨_,_,rfl,Frz.head (Frz.agg (.cons fz rfl (.nil _)))⟩
 have hr:=G7 (show i<p.funcs.length by omega)
 generalize p.funcs[i]=g at hr
 have hgm:=G8 hr
 have c31':=c31 i g hr
 have fl:=oP (p:=p) (o.fb g hgm)
 have lb:=lR (fnL p g).blocks
 have et:p.funcs.take (i+1)=p.funcs.take i++[g]:=az hr
 rw [nG] at c31'
 have hbad:kN p g=true→loW p=([],4):=fun h=>by
  rw [loW,if_pos d1',if_pos (HF.2 ⟨g,hgm,h⟩)]
 simp -implicitDefEqProofs only [RA,aa,zp,↓reduceIte,reduceCtorEq,zq,zr,zs,zt,yC,sO,g1,g2,g5,g6,h1,lf,hc]
 refine c31'.use fun m2 hm2=>?_
 have n4:(m2=nx)=False:=eq_false (by omega)
 have n6:(m2=nx+1)=False:=eq_false (by omega)
 have n7:(m2=m1)=False:=eq_false (by omega)
 have gk:∀ (X Y:AO) k a,k<nx'→af heap k=some a→af ((m2,X)::(m2,Y)::heap) k=some a:=fun X Y k a hk ha=>by
  rw [ai,if_neg (by omega),ai,if_neg (by omega)];exact ha
 rcases ah (((fnL p g).blocks.length:Int) > 60) with ⟨d2',d2⟩|⟨d2',d2⟩
 ·rw [hbad (by rw [kN,decide_eq_true d2',HZ])]
  simp -implicitDefEqProofs only [RA,aa,zp,↓reduceIte,reduceCtorEq,zq,zr,zs,zt,g2,h2,n4,n6,n7,↓aY,↓aX,↓qJ,↓qf,lb,d2,R14]
  exact ⟨_,_,rfl,Frz.head (Frz.agg (nFC _))⟩
 simp -implicitDefEqProofs only [RA,aa,zp,↓reduceIte,reduceCtorEq,zq,zr,zs,zt,g2,h2,n4,n6,n7,↓aY,↓aX,↓qJ,↓qf,lb,d2]
 generalize hH:((m2,AO.cells [AV.str (fnL p g).name,bw (fnL p g).params,.int .i64 (fnL p g).result,bw (fnL p g).locals,jL (fnL p g).blocks])::(m2,.cells [.str [],.nilS,.int .i64 0,.nilS,.nilS])::heap:Heap)=H1
 have kH:∀ k a,k<nx'→af heap k=some a→af H1 k=some a:=fun k a hk ha=>by rw [← hH];exact gk _ _ k a hk ha
 have h7:af H1 m2=some (.cells [.str (fnL p g).name,bw (fnL p g).params,.int .i64 (fnL p g).result,bw (fnL p g).locals,jL (fnL p g).blocks]):=by rw [← hH,ai,if_pos rfl]
 refine rJ (fun q st=>∃ (j:Nat),q=(fnL p g).blocks.length-j∧j≤(fnL p g).blocks.length∧((fnL p g).blocks.drop j).any lng=(fnL p g).blocks.any lng∧ab st.env 1=some (.op nx 0)∧ab st.env 2=some (.op (nx+1) 0)∧ab st.env 5=some (.op m1 0)∧ab st.env 6=some (.int .i64 i)∧ab st.env 7=some (.op m2 0)∧ab st.env 8=some (.int .i64 j)∧st.heap=H1∧st.nx=m2+1∧st.dm=[]) 2
  (fun st=>(fnL p g).blocks.any lng=false∧ab st.env 1=some (.op nx 0)∧ab st.env 2=some (.op (nx+1) 0)∧ab st.env 5=some (.op m1 0)∧ab st.env 6=some (.int .i64 i)∧ab st.env 7=some (.op m2 0)∧st.heap=H1∧st.nx=m2+1∧st.dm=[]) (n:=(fnL p g).blocks.length) aj
  ⟨0,rfl,by omega,by simp,by simp [ab,g1],by simp [ab,g2],by simp [ab,g5],by simp [ab,g6],by simp [ab],by simp [ab],rfl,rfl,rfl⟩ ?_ ?_
 ·rintro q ⟨env2,hp,nx2,dm⟩ ⟨j,rfl,hj,hf,e1,e2,e5,e6,e7,e8,gh,gn,hdm⟩
  simp only at e1 e2 e5 e6 e7 e8 gh gn hdm
  subst hdm;subst gh;subst gn
  have f2:=wS (i:=j) (by omega)
  by_cases hd:(j:Int)<((fnL p g).blocks.length:Int)
  case neg =>
   rw [Hb (by omega)] at hf
   simp -implicitDefEqProofs only [RA,aa,zp,↓reduceIte,reduceCtorEq,zq,zr,zs,zt,cr,cL,cM,cN,ud,pB,e1,e2,e5,e6,e7,e8,h7,lb,hd]
   exact hf.symm
  have hr2:=G7 (show j<(fnL p g).blocks.length by omega)
  generalize (fnL p g).blocks[j]=b at hr2
  have iy:=oT hr2
  have lv:dt (.lst 4 (b.steps.map stE))=some b.steps.length:=by simp [dt]
  rw [AH] at iy
  rw [xF hr2] at hf
  rcases ah ((b.steps.length:Int) > 60) with ⟨d3',d3⟩|⟨d3',d3⟩
  ·have hl3:lng b=true:=decide_eq_true d3'
   rw [hl3,HZ] at hf
   have h2':=kH _ _ (by omega) h2
   rw [hbad (by rw [kN,← hf,Bool.or_true])]
   simp -implicitDefEqProofs only [RA,aa,zp,↓reduceIte,reduceCtorEq,zq,zr,zs,zt,cr,cL,cM,cN,ud,pB,e1,e2,e5,e6,e7,e8,h7,h2',lb,hd,iy,lv,d3,R14]
   exact ⟨_,_,rfl,Frz.head (Frz.agg (nFC _))⟩
  ·have hl3:lng b=false:=decide_eq_false d3'
   rw [hl3,Bool.false_or] at hf
   simp -implicitDefEqProofs only [RA,aa,zp,↓reduceIte,reduceCtorEq,zq,zr,zs,zt,cr,cL,cM,cN,ud,pB,e1,e2,e5,e6,e7,e8,h7,lb,hd,iy,lv,d3,f2]
   exact ⟨(fnL p g).blocks.length-(j+1),by omega,j+1,rfl,by omega,hf,rfl⟩
 rintro ⟨env2,hp,nx2,dm⟩ ⟨ha,e1,e2,e5,e6,e7,gh,gn,hdm⟩
 simp only at e1 e2 e5 e6 e7 gh gn hdm
 subst hdm;subst gh;subst gn
 have hok:kN p g=false:=by rw [kN,ha,decide_eq_false d2',Bool.or_false]
 have ov2:aF 90 5 hp (m2+1) v _:=ov.keep (by omega) fun k a hb2 hk=>kH k a (ov.blk hb2).2.2 hk
 obtain ⟨v2,hq,n9,ea,ow,hn9,k9,b9⟩:=ov2.grw (bytes:=96) (ns:=[fnE (fnL p g)]) (lN _) (by simp [xe]) (by simp only [He,Hf,Hc,Hd];omega) (by simp only [He,Hf,Hc,Hd,maxLen];omega)
 obtain ⟨q1,q2⟩:=bE ow
 rw [nG] at ea
 have kk:∀ k a,k≤m1→af heap k=some a→af hq k=some a:=fun k a hk hka=>k9 k a (by omega) (kH k a (by omega) hka) fun e=>by have:=bv k e;omega
 have h5':=kk m1 _ (H4 _) h5
 have h5q:=kH m1 _ (by omega) h5
 have bv2:∀ b,aw v2=some b→m1<b:=fun b hb2=>by
  rcases b9 b hb2 with h|h
  ·omega
  ·exact bv b h
 simp -implicitDefEqProofs only [RA,aa,zp,↓reduceIte,reduceCtorEq,zq,zr,zs,zt,e1,e2,e5,e6,e7,h7,h5q,h5',ea,q1,q2,f1]
 refine ⟨p.funcs.length-(i+1),by omega,i+1,v2,rfl,by omega,?_,rfl,?_,?_,rfl,?_,bv2,by omega⟩
 ·rw [et,List.any_append,hb];simp [hok]
 ·rw [if_neg (by omega)];exact kk _ _ (by omega) h1
 ·rw [if_neg (by omega)];exact kk _ _ (by omega) h2
 ·rw [et,Hk,Hk]
  exact ow.keep (H4 _) fun k a hb2 hk=>by
   have:=bv2 k hb2
   rw [ai,if_neg (by omega)];exact hk
def oC (l:List Tm):Prop:=l.length≤10000∧∀ t∈l,okT t
def B9 (b:Bk):Prop:=(∀ t∈b.steps,oC t.terms)∧oC b.terms∧b.to.length≤2
def fJ (s:WSt):Prop:=∀ b∈s.1,B9 b
theorem mE:oC []:=⟨by simp,fun t h=>by simp at h⟩
section
variable {s:WSt}
theorem fJ.mk (h:fJ s):fJ (mkB s):=fun b hb=>by
 rcases Hm.1 hb with hb|hb
 ·exact h b hb
 ·rw [Hn] at hb;subst hb
  exact ⟨fun t h=>by simp [Bk0] at h,mE,by simp [Bk0]⟩
theorem fJ.ad (h:fJ s) {t:St} (ht:oC t.terms):fJ (fW t s):=fun b hb=>by
 rcases ik hb with hb|⟨a,ha,rfl⟩
 ·exact h b hb
 ·obtain ⟨h1,h2,h3⟩:=h a ha
  refine ⟨fun u hu=>?_,h2,h3⟩
  rcases Hm.1 hu with hu|hu
  ·exact h1 u hu
  ·rw [Hn] at hu;subst hu;exact ht
theorem fJ.en (h:fJ s) {k:Int} {ts:List Tm} {to:List Int} (ht:oC ts) (hl:to.length≤2):fJ (cQ k ts to s):=by
 unfold cQ
 split
 ·exact h
 ·intro b hb
  rcases ik hb with hb|⟨a,ha,rfl⟩
  ·exact h b hb
  ·obtain ⟨h1,h2,h3⟩:=h a ha
   exact ⟨h1,ht,hl⟩
theorem fJ.jm (h:fJ s) {to:Int}:fJ (jmp to s):=h.en mE (by simp)
theorem fJ.op (h:fJ s) {i:Int}:fJ (opB i s):=h
end
mutual
theorem yZ (p:Pr) (kn:List Pm):∀ (x:Sm) (ex:Int) (s:WSt) (loop:Bool),okS p kn loop x→szS x≤5000→fJ s→fJ (stG p kn ex x s)
 | .mk k n fn w l b e,ex,s,loop,ho,hz,h=>by
  rw [stG]
  obtain ⟨hk,hwf,h3,h6,hb,he⟩:=ho
  simp only [szS] at hz
  have hll:l.length≤5000:=by
   have key:∀ l:List Ex,l.length≤cD l:=by
    intro l
    induction l with
    | nil=>simp [cD]
    | cons x r ih=>cases x;simp only [Hc,cD,szE];omega
   have:=key l;omega
  have ht:oC (l.map (exT p kn)):=⟨by rw [He];omega,fun t ht=>by
   obtain ⟨x,hx,rfl⟩:=List.mem_map.1 ht
   exact Cj p kn _ x (H4 _) (hwf x hx).1⟩
  have hp:oC [((l.map (exT p kn)).drop 1).headD (dF 0 0),elT (uJ p n) (vr p n) (hdT (l.map (exT p kn)))]:=⟨by simp,fun t h=>by
   simp only [List.mem_cons,List.not_mem_nil,or_false] at h
   rcases h with rfl|rfl
   ·cases hd:(l.map (exT p kn)).drop 1 with
    | nil=>exact hO _ _
    | cons a r=>exact ht.2 a (List.mem_of_mem_drop (by rw [hd];simp))
   ·exact wo (ru (oD ht.2))⟩
  try simp only
  split
  ·exact h.ad ht
  split
  ·exact h.ad hp
  split
  ·split
   ·exact ((jh p kn b _ _ _ hb (by omega) (h.mk.mk.en ht (by simp)).op).jm).op
   ·exact ((jh p kn e _ _ _ he (by omega) ((jh p kn b _ _ _ hb (by omega) (h.mk.mk.mk.en ht (by simp)).op).jm).op).jm).op
  split
  ·exact ((jh p kn b _ _ _ hb (by omega) (((h.mk.mk.mk.jm).op).en ht (by simp)).op).jm).op
  split
  ·exact h.jm
  split
  ·exact h.ad ht
  split
  ·exact h.en ht (by simp)
  ·exact h.ad ht
theorem jh (p:Pr) (kn:List Pm):∀ (l:List Sm) (ex:Int) (s:WSt) (loop:Bool),okL p kn loop l→bS l≤5000→fJ s→fJ (slG p kn ex l s)
 | [],ex,s,loop,ho,hz,h=>by rw [slG];exact h
 | x::r,ex,s,loop,ho,hz,h=>by
  rw [slG]
  simp only [bS] at hz
  split
  ·exact h
  ·exact jh p kn r _ _ loop ho.2 (by omega) (yZ p kn x ex s loop ho.1 (by omega) h)
end
def zm (f:Fn):Prop:=f.params.length≤10000∧f.locals.length≤10000∧f.blocks.length≤100000∧∀ b∈f.blocks,B9 b∧b.steps.length≤1000000
theorem Ci {p:Pr} (o:OkP p) (hck:ckE p=0) {g:Fu} (hg:g∈p.funcs):zm (fnL p g):=by
 have h1:=o.fb g hg
 have h2:=@oO p g
 have h3:=o.fp g hg
 have h4:=oP (p:=p) h1
 have hok:=wp hck hg rfl
 have h5:=ic g.body
 have w0:fJ (opB 0 (mkB ([],0))):=fJ.op (fJ.mk fun b hb=>by simp at hb)
 have m0:SB 0 (opB 0 (mkB ([],0))):=fun b hb=>by
  simp [opB,mkB] at hb;subst hb;simp [Bk0]
 have w1:fJ (gE p g):=jh p _ g.body (-1) _ false hok h1 w0
 have m1:SB (0+dr g.body) (gE p g):=iM p _ g.body (-1) _ 0 m0
 have hr:oC (fX g):=by
  unfold fX
  split
  ·exact ⟨by simp,fun t h=>by rw [Hn] at h;subst h;exact hO _ _⟩
  ·exact mE
 have w2:fJ (cQ 7 (fX g) [] (gE p g)):=w1.en hr (by simp)
 have m2:=m1.en 7 (fX g) []
 refine ⟨?_,?_,by omega,fun b hb=>⟨w2 b hb,?_⟩⟩
 ·simp only [fnL,Hf];omega
 ·simp only [fnL,Hu];omega
 ·have:=m2 b hb;omega
end Go.Proofs.YtgeieafamocnhaaGreatDoor
