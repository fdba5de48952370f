/- Copies of blocks. -/
import Derived.Test.YtkhjclmfbmfahaaGreatDoorGN
import Derived.Test.YtkhjclmfbmfahaaGreatDoorRows
namespace Go.Proofs.YtkhjclmfbmfahaaGreatDoor
open List renaming getElem?_eq_getElem → Fo, mem_of_getElem? → Fp, getElem?_eq_some_iff → Fq, take_of_length_le → Fs, length_map → Fw, mem_map → Fy, all_eq_true → Fz, map_append → FC, nil_append → FN, getElem?_map → FR
open Option renaming map_some → F9
open Bool renaming and_eq_true → Gd
open Nat renaming le_refl → Gp
set_option maxHeartbeats 64000000
open Go Go.Ab Go.Proofs
open Nat renaming reduceEqDiff → zp, reduceAdd → zq, reduceLeDiff → zr, reduceLT → zs, reduceBEq → zt
set_option linter.unusedVariables false
set_option linter.unusedSimpArgs false
set_option maxRecDepth 20000
theorem ru (l:List St):∀ z∈l.map stE,z.length=4:=fun z hz=>by
 obtain ⟨r,_,rfl⟩:=Fy.1 hz;rfl
theorem rQ {e1 s1 e2 s2:Nat} {h:Heap} {nx:Nat} {x y:AV} {es fs:List (List AV)} (ho:aR e1 s1 h nx x es) (hq:aR e2 s2 h nx y fs) (h1:∀ z∈es,z.length=s1) (h2:∀ z∈fs,z.length=s2) (ha:apart x y) :
  ∃ ha hb,Frz h x ha (.lst s1 es)∧Frz ha y hb (.lst s2 fs)∧∀ c o,aq h c=some o→aP x≠some c→aP y≠some c→aq hb c=some o:=by
 obtain ⟨a,f1,k1⟩:=ho.frz2 h1
 have hq2:aR e2 s2 a nx y fs:=hq.keep (Gp _) fun b o e1 e2=>k1 b o e2 fun z e=>ha b (by rw [e];rfl) e1
 obtain ⟨b,f2,k2⟩:=hq2.frz2 h2
 exact ⟨a,b,f1,f2,fun c o e n1 n2=>k2 c o (k1 c o e fun z e=>n1 (by rw [e];rfl)) fun z e=>n2 (by rw [e];rfl)⟩
theorem w22 (b:Bk) (ho:okK b):Pure Tryz.prog 22 [.agg (bkE b)] (.agg (bkE b)):=by
 refine Pure.frz fun nx=>AC.go aI is22 (by simp) ?_
 obtain ⟨o1,o2,o3,o4⟩:=ho
 have lv:=eh b.steps
 have w:=w44 b.terms o3
 have n1:(nx+1=nx)=False:=eq_false (by omega)
 rw [eD]
 simp -implicitDefEqProofs only [RA,ae,zp,↓reduceIte,reduceCtorEq,zq,zr,zs,zt,↓aA,↓az,↓au,↓ar,↓ay,↓aw,↓ak,↓aj,↓aC,↓aB,↓aE,↓aD,unA,ne_eq,not_true_eq_false,not_false_eq_true,A22,E2,n1]
 refine w.use fun k1 hk1=>?_
 intro _
 have a1:(k1=nx)=False:=eq_false (by omega)
 have a2:(k1=nx+1)=False:=eq_false (by omega)
 simp -implicitDefEqProofs only [RA,ae,zp,↓reduceIte,reduceCtorEq,zq,zr,zs,zt,↓aA,↓az,↓au,↓ar,↓ay,↓aw,↓ak,↓aj,↓aC,↓aB,↓aE,↓aD,unA,ne_eq,not_true_eq_false,not_false_eq_true,FN,n1,a1,a2]
 obtain ⟨H,hH⟩:∃ H:Heap,H=[(k1,AO.cells [.nilS,.int .u8 b.kind,.str b.func,bg b.terms,.nilS]),(k1,AO.cells [.nilS,.int .u8 0,.str [],.nilS,.nilS]),(nx+1,.cells [.nilS,.int .u8 0,.str [],.nilS,.nilS]),(nx,.cells [eH b.steps,.int .u8 b.kind,.str b.func,bg b.terms,cD b.to])]:=⟨_,rfl⟩
 rw [← hH]
 have H0:aq H nx=some (.cells [eH b.steps,.int .u8 b.kind,.str b.func,bg b.terms,cD b.to]):=by subst hH;simp [aq,a1,n1]
 have H1:aq H (nx+1)=some (.cells [.nilS,.int .u8 0,.str [],.nilS,.nilS]):=by subst hH;simp [aq,a2]
 have H2:aq H k1=some (.cells [.nilS,.int .u8 b.kind,.str b.func,bg b.terms,.nilS]):=by subst hH;simp [aq]
 obtain ⟨vt,h4,n4,ea,og,hle,fr,id⟩:=(aR.grw (e:=3) (sz:=1) (bytes:=8) (h:=H) (nx:=k1+1) (x:=.nilS) (es:=[]) (ns:=b.to.map inE) (.inl ⟨rfl,rfl⟩) (by simp) (kj _) (by simp;omega) (by simp [maxLen];omega))
 have ea':iM 3 1 8 H (k1+1) .nilS (cD b.to)=some (vt,h4,n4):=ea
 obtain ⟨vc,vp⟩:=eg og
 have J0:=fr nx _ (by omega) H0 (by simp [aP])
 have J1:=fr (nx+1) _ (by omega) H1 (by simp [aP])
 have J2:=fr k1 _ (by omega) H2 (by simp [aP])
 have hvt:∀ c,aP vt=some c→k1<c:=fun c e=>by
  rcases id c e with h|h
  ·omega
  ·cases h
 rw [FN] at og
 simp -implicitDefEqProofs only [RA,ae,zp,↓reduceIte,reduceCtorEq,zq,zr,zs,zt,↓aA,↓az,↓au,↓ar,↓ay,↓aw,↓ak,↓aj,↓aC,↓aB,↓aE,↓aD,unA,ne_eq,not_true_eq_false,not_false_eq_true,ea',vc,vp,J2,List.length_singleton]
 refine aJ (fun q st=>∃ (i:Nat) (vs:AV),q=b.steps.length-i∧i≤b.steps.length∧ah st.env 1=some (.op nx 0)∧ah st.env 2=some (.op (nx+1) 0)∧ah st.env 3=some (.op k1 0)∧ah st.env 4=some (.int .i64 i)∧aq st.heap nx=some (.cells [eH b.steps,.int .u8 b.kind,.str b.func,bg b.terms,cD b.to])∧aq st.heap (nx+1)=some (.cells [.nilS,.int .u8 0,.str [],.nilS,.nilS])∧aq st.heap k1=some (.cells [vs,.int .u8 b.kind,.str b.func,bg b.terms,vt]) ∧
   aR 3 1 st.heap st.nx vt (b.to.map inE)∧aR 102 4 st.heap st.nx vs ((b.steps.take i).map stE)∧k1<st.nx∧(∀ c,aP vs=some c→k1<c)∧apart vs vt∧st.dm=[]) (n:=b.steps.length) aI
  ⟨0,.nilS,rfl,by omega,by simp [ah],by simp [ah],by simp [ah],by simp [ah],by simp only;rw [af,if_neg (by omega)];exact J0,by simp only;rw [af,if_neg (by omega)];exact J1,by simp only;rw [af,if_pos rfl],
   og.keep (Gp _) fun c o e1 e2=>by simp only;rw [af,if_neg (by have:=hvt c e1;omega)];exact e2,.inl ⟨rfl,rfl⟩,by simp only;omega,by simp [aP],fun c e1 e2=>by simp [aP] at e1,rfl⟩ ?_
 clear J0 J1 J2 og ea ea' fr id hle H0 H1 H2 hH
 rintro q ⟨env,heap,nx',dm⟩ ⟨i,vs,rfl,hi,g1,g2,g3,g4,gx,gy,gz,ot,os,hlt,hvs,hap,hdm⟩
 simp only at g1 g2 g3 g4 gx gy gz ot os hlt hdm
 subst hdm
 have f1:=wS (i:=i) (by omega)
 by_cases hc:(i:Int)<(b.steps.length:Int)
 case neg =>
  rw [show b.steps.take i=b.steps from Fs (by omega)] at os
  have a3:(nx+1=k1)=False:=eq_false (by omega)
  simp -implicitDefEqProofs only [RA,ae,zp,↓reduceIte,reduceCtorEq,zq,zr,zs,zt,↓aA,↓az,↓au,↓ar,↓ay,↓aw,↓ak,↓aj,↓aC,↓aB,↓aE,↓aD,unA,ne_eq,not_true_eq_false,not_false_eq_true,xy,qT,g1,g2,g3,g4,gx,gy,gz,lv,hc,R22,a3]
  have kk:∀ v,(∀ c,aP v=some c→k1<c)→∀ c o,aP v=some c→aq heap c=some o→aq ((nx+1,AO.cells [vs,.int .u8 b.kind,.str b.func,bg b.terms,vt])::heap) c=some o:=fun v hv c o e1 e2=>by
   rw [af,if_neg (by have:=hv c e1;omega)];exact e2
  obtain ⟨ha,hb,f1,f2,_⟩:=rQ (os.keep (Gp _) (kk vs hvs)) (ot.keep (Gp _) (kk vt hvt)) (ru _) (kj _) hap
  exact ⟨_,hb,rfl,.agg (.cons f1 rfl (.keep rfl (.keep rfl (.keep rfl (.cons f2 rfl (.nil _))))))⟩
 have hr:=Fo (show i<b.steps.length by omega)
 generalize b.steps[i]=r at hr
 have hmem:=Fp hr
 have ix:=fv hr
 rw [gq] at ix
 have wr:=w44 r.terms (o2 r hmem)
 have b1:(nx'=nx)=False:=eq_false (by omega)
 have b2:(nx'=k1)=False:=eq_false (by omega)
 simp -implicitDefEqProofs only [RA,ae,zp,↓reduceIte,reduceCtorEq,zq,zr,zs,zt,↓aA,↓az,↓au,↓ar,↓ay,↓aw,↓ak,↓aj,↓aC,↓aB,↓aE,↓aD,unA,ne_eq,not_true_eq_false,not_false_eq_true,xy,qT,g1,g2,g3,g4,gx,gy,gz,lv,hc,ix,b1,b2]
 refine wr.use fun n5 hn5=>?_
 have os5:aR 102 4 ((nx',AO.cells [.int .u8 r.kind,.str r.var,.str r.func,bg r.terms])::(nx',.cells [.int .u8 0,.str [],.str [],.nilS])::heap) n5 vs ((b.steps.take i).map stE):=os.keep (by omega) fun c o e1 e2=>by
  rw [af,if_neg (by have:=(os.blk e1).2.2;omega),af,if_neg (by have:=(os.blk e1).2.2;omega)];exact e2
 obtain ⟨v',h4,n6,ea,og,hle,fr,id⟩:=os5.grw (bytes:=64) (ns:=[stE r]) (ru _) (by simp [pv]) (by simp;omega) (by simp [maxLen];omega)
 rw [gq] at ea
 obtain ⟨vc',vp'⟩:=eg og
 have fr':∀ c o,c<nx'→aP vs≠some c→aq heap c=some o→aq h4 c=some o:=fun c o e1 e2 e3=>fr c o (by omega) (by rw [af,if_neg (by omega),af,if_neg (by omega)];exact e3) e2
 have hns:∀ c,c≤k1→aP vs≠some c:=fun c h1 h2=>by have:=hvs c h2;omega
 have gz4:=fr' k1 _ hlt (hns _ (by omega)) gz
 have hnv':∀ c,aP v'=some c→k1<c:=fun c e=>by
  rcases id c e with h|h
  ·omega
  ·exact hvs c h
 simp -implicitDefEqProofs only [RA,ae,zp,↓reduceIte,reduceCtorEq,zq,zr,zs,zt,↓aA,↓az,↓au,↓ar,↓ay,↓aw,↓ak,↓aj,↓aC,↓aB,↓aE,↓aD,unA,ne_eq,not_true_eq_false,not_false_eq_true,g1,g2,g3,g4,gx,gy,gz,b1,b2,ea,gz4,vc',vp',List.length_singleton,f1]
 refine ⟨b.steps.length-(i+1),by omega,i+1,v',rfl,by omega,rfl,by rw [if_neg (by omega)];exact fr' _ _ (by omega) (hns _ (by omega)) gx,by rw [if_neg (by omega)];exact fr' _ _ (by omega) (hns _ (by omega)) gy,rfl,?_,?_,by omega,hnv',fun c e1 e2=>?_⟩
 ·refine ot.keep (by omega) fun c o e1 e2=>?_
  rw [af,if_neg (by have:=hvt c e1;omega)];exact fr' c o (ot.blk e1).2.2 (fun e=>hap c e e1) e2
 ·rw [aQ hr,FC]
  exact og.keep (Gp _) fun c o e1 e2=>by rw [af,if_neg (by have:=hnv' c e1;omega)];exact e2
 ·rcases id c e1 with h|h
  ·have:=(ot.blk e2).2.2;omega
  ·exact hap c h e2
theorem r5 (l:List Bk):∀ z∈l.map bkE,z.length=5:=fun z hz=>by
 obtain ⟨r,_,rfl⟩:=Fy.1 hz;rfl
theorem tq {e1 s1 e2 s2 e3 s3:Nat} {h:Heap} {nx:Nat} {x y u:AV} {es fs gs:List (List AV)} (ho:aR e1 s1 h nx x es) (hq:aR e2 s2 h nx y fs) (hr:aR e3 s3 h nx u gs) (h1:∀ z∈es,z.length=s1) (h2:∀ z∈fs,z.length=s2) (h3:∀ z∈gs,z.length=s3) (ha:apart x y) (hb:apart x u) (hc:apart y u) :
  ∃ ha hb hc,Frz h x ha (.lst s1 es)∧Frz ha y hb (.lst s2 fs)∧Frz hb u hc (.lst s3 gs)∧∀ c o,aq h c=some o→aP x≠some c→aP y≠some c→aP u≠some c→aq hc c=some o:=by
 obtain ⟨a,b,f1,f2,k⟩:=rQ ho hq h1 h2 ha
 have hr2:aR e3 s3 b nx u gs:=hr.keep (Gp _) fun c o e1 e2=>k c o e2 (fun e=>hb c e e1) (fun e=>hc c e e1)
 obtain ⟨d,f3,k3⟩:=hr2.frz2 h3
 exact ⟨a,b,d,f1,f2,f3,fun c o e n1 n2 n3=>k3 c o (k c o e n1 n2) fun z e=>n3 (by rw [e];rfl)⟩
theorem w6 (P:Pi) (ho:jZ P):Pure Tryz.prog 6 [.agg (piE P)] (.agg (piE P)):=by
 refine Pure.frz fun nx=>AC.go aI is6 (by simp) ?_
 obtain ⟨o1,o2⟩:=ho
 have lv:=cX P
 have n1:(nx+1=nx)=False:=eq_false (by omega)
 have n2:(nx+1+1=nx)=False:=eq_false (by omega)
 unfold piE
 simp -implicitDefEqProofs only [RA,ae,zp,↓reduceIte,reduceCtorEq,zq,zr,zs,zt,↓aA,↓az,↓au,↓ar,↓ay,↓aw,↓ak,↓aj,↓aC,↓aB,↓aE,↓aD,unA,ne_eq,not_true_eq_false,not_false_eq_true,A6,A6p,n1,n2]
 refine aJ (fun q st=>∃ (i:Nat) (vo:AV),q=P.length-i∧i≤P.length∧ah st.env 1=some (.op nx 0)∧ah st.env 2=some (.op (nx+1) 0)∧ah st.env 3=some (.op (nx+1+1) 0)∧ah st.env 4=some (.int .i64 i)∧aq st.heap nx=some (.cells [bM P])∧aq st.heap (nx+1)=some (.cells [.nilS])∧aq st.heap (nx+1+1)=some (.cells [vo])∧aR 54 5 st.heap st.nx vo ((P.take i).map fnE)∧nx+1+1<st.nx∧(∀ c,aP vo=some c→nx+1+1<c)∧st.dm=[]) (n:=P.length) aI
  ⟨0,.nilS,rfl,by omega,by simp [ah],by simp [ah],by simp [ah],by simp [ah],by simp [aq,n1,n2],by simp [aq],by simp [aq],.inl ⟨rfl,rfl⟩,by simp only;omega,by simp [aP],rfl⟩ ?_
 rintro q ⟨env,heap,nx',dm⟩ ⟨i,vo,rfl,hi,g1,g2,g3,g4,gx,gy,gz,oo,hlt,hvo,hdm⟩
 simp only at g1 g2 g3 g4 gx gy gz oo hlt hdm
 subst hdm
 have f1:=wS (i:=i) (by omega)
 by_cases hc:(i:Int)<(P.length:Int)
 case neg =>
  rw [show P.take i=P from Fs (by omega)] at oo
  have n3:(nx+1=nx+1+1)=False:=eq_false (by omega)
  simp -implicitDefEqProofs only [RA,ae,zp,↓reduceIte,reduceCtorEq,zq,zr,zs,zt,↓aA,↓az,↓au,↓ar,↓ay,↓aw,↓ak,↓aj,↓aC,↓aB,↓aE,↓aD,unA,ne_eq,not_true_eq_false,not_false_eq_true,Cp,wP,g1,g2,g3,g4,gx,gy,gz,lv,hc,R6,n3]
  obtain ⟨h2,hf⟩:=(oo.keep (h':=(nx+1,AO.cells [vo])::heap) (Gp _) fun c o e1 e2=>by rw [af,if_neg (by have:=hvo c e1;omega)];exact e2).frz (rS _)
  exact ⟨_,h2,rfl,.agg (.cons hf rfl (.nil _))⟩
 have hr:=Fo (show i<P.length by omega)
 generalize P[i]=f at hr
 have hmem:=Fp hr
 obtain ⟨t1,t2,t3,t4,t5,t6⟩:=o2 f hmem
 have ix:=cL hr
 rw [bN] at ix
 have lp:=bW f.params
 have ll:=bW f.locals
 have lb:=dv f.blocks
 have b1:(nx'=nx)=False:=eq_false (by omega)
 have b2:(nx'+1=nx')=False:=eq_false (by omega)
 have b3:(nx'=nx'+1)=False:=eq_false (by omega)
 obtain ⟨H,hH⟩:∃ H:Heap,H=(nx'+1,AO.cells [.str f.name,.nilS,.int .i64 f.result,.nilS,.nilS])::(nx'+1,.cells [.str [],.nilS,.int .i64 0,.nilS,.nilS])::(nx',.cells [.str f.name,bp f.params,.int .i64 f.result,bp f.locals,cp f.blocks])::(nx',.cells [.str [],.nilS,.int .i64 0,.nilS,.nilS])::heap:=⟨_,rfl⟩
 have Hold:∀ c o,c<nx'→aq heap c=some o→aq H c=some o:=fun c o e1 e2=>by
  rw [hH,af,if_neg (by omega),af,if_neg (by omega),af,if_neg (by omega),af,if_neg (by omega)];exact e2
 have Hf:aq H nx'=some (.cells [.str f.name,bp f.params,.int .i64 f.result,bp f.locals,cp f.blocks]):=by
  rw [hH,af,if_neg (by omega),af,if_neg (by omega),af,if_pos rfl]
 have Hg:aq H (nx'+1)=some (.cells [.str f.name,.nilS,.int .i64 f.result,.nilS,.nilS]):=by rw [hH,af,if_pos rfl]
 obtain ⟨vp,h4,n4,ea,og,hle,fr,id⟩:=(aR.grw (e:=57) (sz:=2) (bytes:=24) (h:=H) (nx:=nx'+1+1) (x:=.nilS) (es:=[]) (ns:=f.params.map pmE) (.inl ⟨rfl,rfl⟩) (by simp) (dR _) (by simp;omega) (by simp [maxLen];omega))
 have ea':iM 57 2 24 H (nx'+1+1) .nilS (bp f.params)=some (vp,h4,n4):=ea
 rw [FN] at og
 obtain ⟨vpc,vpp⟩:=eg og
 have hvp:∀ c,aP vp=some c→nx'+1<c:=fun c e=>by
  rcases id c e with h|h
  ·omega
  ·cases h
 have Hg4:=fr (nx'+1) _ (by omega) Hg (by simp [aP])
 have Hf4:=fr nx' _ (by omega) Hf (by simp [aP])
 obtain ⟨H5,hH5⟩:∃ H5:Heap,H5=(nx'+1,AO.cells [.str f.name,vp,.int .i64 f.result,.nilS,.nilS])::h4:=⟨_,rfl⟩
 have og5:aR 57 2 H5 n4 vp (f.params.map pmE):=og.keep (Gp _) fun c o e1 e2=>by
  rw [hH5,af,if_neg (by have:=hvp c e1;omega)];exact e2
 obtain ⟨vl,h6,n6,ea6,og6,hle6,fr6,id6⟩:=(aR.grw (e:=57) (sz:=2) (bytes:=24) (h:=H5) (nx:=n4) (x:=.nilS) (es:=[]) (ns:=f.locals.map pmE) (.inl ⟨rfl,rfl⟩) (by simp) (dR _) (by simp;omega) (by simp [maxLen];omega))
 have ea6':iM 57 2 24 H5 n4 .nilS (bp f.locals)=some (vl,h6,n6):=ea6
 rw [FN] at og6
 obtain ⟨vlc,vlp⟩:=eg og6
 have hvl:∀ c,aP vl=some c→n4≤c:=fun c e=>by
  rcases id6 c e with h|h
  ·omega
  ·cases h
 have Hg5:aq H5 (nx'+1)=some (.cells [.str f.name,vp,.int .i64 f.result,.nilS,.nilS]):=by rw [hH5,af,if_pos rfl]
 have Hf5:aq H5 nx'=some (.cells [.str f.name,bp f.params,.int .i64 f.result,bp f.locals,cp f.blocks]):=by rw [hH5,af,if_neg (by omega)];exact Hf4
 have Hg6:=fr6 (nx'+1) _ (by omega) Hg5 (by simp [aP])
 have Hf6:=fr6 nx' _ (by omega) Hf5 (by simp [aP])
 have old6:∀ c o,c<nx'→aq heap c=some o→aq h6 c=some o:=fun c o e1 e2=>fr6 c o (by omega) (by rw [hH5,af,if_neg (by omega)];exact fr c o (by omega) (Hold c o e1 e2) (by simp [aP])) (by simp [aP])
 have ogp:aR 57 2 h6 n6 vp (f.params.map pmE):=og5.keep hle6 fun c o e1 e2=>fr6 c o (og5.blk e1).2.2 e2 (by simp [aP])
 have hap1:apart vp vl:=fun c e1 e2=>by have:=hvl c e2;have:=(og5.blk e1).2.2;omega
 simp -implicitDefEqProofs only [RA,ae,zp,↓reduceIte,reduceCtorEq,zq,zr,zs,zt,↓aA,↓az,↓au,↓ar,↓ay,↓aw,↓ak,↓aj,↓aC,↓aB,↓aE,↓aD,unA,ne_eq,not_true_eq_false,not_false_eq_true,Cp,wP,g1,g2,g3,g4,gx,gy,gz,lv,hc,ix,b1,b2,b3]
 rw [← hH]
 simp -implicitDefEqProofs only [RA,ae,zp,↓reduceIte,reduceCtorEq,zq,zr,zs,zt,↓aA,↓az,↓au,↓ar,↓ay,↓aw,↓ak,↓aj,↓aC,↓aB,↓aE,↓aD,unA,ne_eq,not_true_eq_false,not_false_eq_true,ea',vpc,vpp,Hg4,Hf4,b1,b2,b3,List.length_singleton]
 rw [← hH5]
 simp -implicitDefEqProofs only [RA,ae,zp,↓reduceIte,reduceCtorEq,zq,zr,zs,zt,↓aA,↓az,↓au,↓ar,↓ay,↓aw,↓ak,↓aj,↓aC,↓aB,↓aE,↓aD,unA,ne_eq,not_true_eq_false,not_false_eq_true,ea6',vlc,vlp,Hg6,Hf6,b1,b2,b3,List.length_singleton]
 have hvob:∀ c,aP vo=some c→c<nx':=fun c e=>(oo.blk e).2.2
 have kk:∀ X c o,c<nx'→aq heap c=some o→aq ((nx'+1,X)::h6) c=some o:=fun X c o e1 e2=>by
  rw [af,if_neg (by omega)];exact old6 c o e1 e2
 have ogl:aR 57 2 ((nx'+1,AO.cells [.str f.name,vp,.int .i64 f.result,vl,.nilS])::h6) n6 vl (f.locals.map pmE):=og6.keep (Gp _) fun c o e1 e2=>by rw [af,if_neg (by have:=hvl c e1;omega)];exact e2
 have ogp':aR 57 2 ((nx'+1,AO.cells [.str f.name,vp,.int .i64 f.result,vl,.nilS])::h6) n6 vp (f.params.map pmE):=ogp.keep (Gp _) fun c o e1 e2=>by rw [af,if_neg (by have:=hvp c e1;omega)];exact e2
 obtain ⟨b6,hb6⟩:∃ b,b=nx'+1:=⟨_,rfl⟩
 refine pT (fun q st=>∃ (j:Nat) (vb:AV),q=f.blocks.length-j∧j≤f.blocks.length∧ah st.env 1=some (.op nx 0)∧ah st.env 2=some (.op (nx+1) 0)∧ah st.env 3=some (.op (nx+1+1) 0)∧ah st.env 4=some (.int .i64 i)∧ah st.env 5=some (.op nx' 0)∧ah st.env 6=some (.op b6 0)∧ah st.env 7=some (.int .i64 j)∧aq st.heap nx=some (.cells [bM P])∧aq st.heap (nx+1)=some (.cells [.nilS])∧aq st.heap (nx+1+1)=some (.cells [vo])∧aR 54 5 st.heap st.nx vo ((P.take i).map fnE) ∧
   aq st.heap nx'=some (.cells [.str f.name,bp f.params,.int .i64 f.result,bp f.locals,cp f.blocks])∧aq st.heap b6=some (.cells [.str f.name,vp,.int .i64 f.result,vl,vb])∧aR 57 2 st.heap st.nx vp (f.params.map pmE)∧aR 57 2 st.heap st.nx vl (f.locals.map pmE)∧aR 64 5 st.heap st.nx vb ((f.blocks.take j).map bkE)∧b6<st.nx∧(∀ c,aP vb=some c→b6<c)∧apart vp vb∧apart vl vb∧st.dm=[]) 2
  (fun st=>∃ (vb:AV),ah st.env 1=some (.op nx 0)∧ah st.env 2=some (.op (nx+1) 0)∧ah st.env 3=some (.op (nx+1+1) 0)∧ah st.env 4=some (.int .i64 i)∧ah st.env 6=some (.op b6 0)∧aq st.heap nx=some (.cells [bM P])∧aq st.heap (nx+1)=some (.cells [.nilS])∧aq st.heap (nx+1+1)=some (.cells [vo])∧aR 54 5 st.heap st.nx vo ((P.take i).map fnE) ∧
   aq st.heap b6=some (.cells [.str f.name,vp,.int .i64 f.result,vl,vb])∧aR 57 2 st.heap st.nx vp (f.params.map pmE)∧aR 57 2 st.heap st.nx vl (f.locals.map pmE)∧aR 64 5 st.heap st.nx vb (f.blocks.map bkE)∧b6<st.nx∧(∀ c,aP vb=some c→b6<c)∧apart vp vb∧apart vl vb∧st.dm=[]) (n:=f.blocks.length) aI
  ⟨0,.nilS,rfl,by omega,by simp [ah,g1],by simp [ah,g2],by simp [ah,g3],by simp [ah,g4],by simp [ah],by simp [ah,hb6],by simp [ah],kk _ _ _ (by omega) gx,kk _ _ _ (by omega) gy,kk _ _ _ (by omega) gz,oo.keep (by simp only;omega) fun c o e1 e2=>kk _ c o (hvob c e1) e2,
   by simp only;rw [af,if_neg (by omega)];exact Hf6,by simp only;rw [af,if_pos hb6.symm],ogp',ogl,.inl ⟨rfl,rfl⟩,by simp only;omega,by simp [aP],fun c e1 e2=>by simp [aP] at e2,fun c e1 e2=>by simp [aP] at e2,rfl⟩ ?_ ?_
 ·clear g1 g2 g3 g4 gx gy gz oo
  rintro q ⟨env,heap2,nx2,dm⟩ ⟨j,vb,rfl,hj,g1,g2,g3,g4,g5,g6,g7,gx,gy,gz,oo,gf,gg,op,ol,ob,hlt2,hvb,ap1,ap2,hdm⟩
  simp only at g1 g2 g3 g4 g5 g6 g7 gx gy gz oo gf gg op ol ob hlt2 hdm
  subst hdm
  have f3:=wS (i:=j) (by omega)
  by_cases hcj:(j:Int)<(f.blocks.length:Int)
  case neg =>
   rw [show f.blocks.take j=f.blocks from Fs (by omega)] at ob
   simp -implicitDefEqProofs only [RA,ae,zp,↓reduceIte,reduceCtorEq,zq,zr,zs,zt,↓aA,↓az,↓au,↓ar,↓ay,↓aw,↓ak,↓aj,↓aC,↓aB,↓aE,↓aD,unA,ne_eq,not_true_eq_false,not_false_eq_true,kp,mZ,m7,m8,Cq,wQ,g1,g2,g3,g4,g5,g6,g7,gf,lb,hcj]
   exact ⟨vb,gx,gy,gz,oo,gg,op,ol,ob,hlt2,hvb,ap1,ap2⟩
  have hrj:=Fo (show j<f.blocks.length by omega)
  generalize f.blocks[j]=b at hrj
  have hmb:=Fp hrj
  have ixb:=dH hrj
  have wb:=w22 b (t6 b hmb)
  rw [eD] at ixb wb
  simp -implicitDefEqProofs only [RA,ae,zp,↓reduceIte,reduceCtorEq,zq,zr,zs,zt,↓aA,↓az,↓au,↓ar,↓ay,↓aw,↓ak,↓aj,↓aC,↓aB,↓aE,↓aD,unA,ne_eq,not_true_eq_false,not_false_eq_true,kp,mZ,m7,m8,Cq,wQ,g1,g2,g3,g4,g5,g6,g7,gf,gg,lb,hcj,ixb]
  refine wb.use fun n5 hn5=>?_
  obtain ⟨vb',h8,n8,ea8,og8,hle8,fr8,id8⟩:=(ob.mono hn5).grw (bytes:=96) (ns:=[bkE b]) (r5 _) (by simp [iL]) (by simp;omega) (by simp [maxLen];omega)
  rw [eD] at ea8
  obtain ⟨vc8,vp8⟩:=eg og8
  have hnb:∀ c,c≤b6→aP vb≠some c:=fun c h1 h2=>by have:=hvb c h2;omega
  have gg8:=fr8 b6 _ (by omega) gg (hnb _ (by omega))
  have hvb':∀ c,aP vb'=some c→b6<c:=fun c e=>by
   rcases id8 c e with h|h
   ·omega
   ·exact hvb c h
  simp -implicitDefEqProofs only [RA,ae,zp,↓reduceIte,reduceCtorEq,zq,zr,zs,zt,↓aA,↓az,↓au,↓ar,↓ay,↓aw,↓ak,↓aj,↓aC,↓aB,↓aE,↓aD,unA,ne_eq,not_true_eq_false,not_false_eq_true,kp,mZ,m7,m8,g1,g2,g3,g4,g5,g6,g7,gf,gg,ea8,gg8,vc8,vp8,List.length_singleton,f3]
  have k8:∀ c o,c≠b6→c<nx2→aP vb≠some c→aq heap2 c=some o→aq ((b6,AO.cells [.str f.name,vp,.int .i64 f.result,vl,vb'])::h8) c=some o:=fun c o e1 e2 e3 e4=>by
   rw [af,if_neg (by omega)];exact fr8 c o (by omega) e4 e3
  have k9:∀ c o,c≠b6→c<nx2→aP vb≠some c→aq heap2 c=some o→(if b6=c then some (AO.cells [.str f.name,vp,.int .i64 f.result,vl,vb']) else aq h8 c)=some o:=fun c o e1 e2 e3 e4=>k8 c o e1 e2 e3 e4
  refine ⟨f.blocks.length-(j+1),by omega,j+1,vb',rfl,by omega,rfl,k9 _ _ (by omega) (by omega) (hnb _ (by omega)) gx,k9 _ _ (by omega) (by omega) (hnb _ (by omega)) gy,k9 _ _ (by omega) (by omega) (hnb _ (by omega)) gz,oo.keep (by omega) fun c o e1 e2=>k8 c o (by have:=hvob c e1;omega) (by have:=hvob c e1;omega) (hnb _ (by have:=hvob c e1;omega)) e2,
   k9 _ _ (by omega) (by omega) (hnb _ (by omega)) gf,rfl,op.keep (by omega) fun c o e1 e2=>k8 c o (by have:=hvp c e1;omega) (op.blk e1).2.2 (fun e=>ap1 c e1 e) e2,ol.keep (by omega) fun c o e1 e2=>k8 c o (by have:=hvl c e1;omega) (ol.blk e1).2.2 (fun e=>ap2 c e1 e) e2,?_,by omega,hvb',fun c e1 e2=>?_,fun c e1 e2=>?_⟩
  ·rw [aQ hrj,FC]
   exact og8.keep (Gp _) fun c o e1 e2=>by rw [af,if_neg (by have:=hvb' c e1;omega)];exact e2
  ·rcases id8 c e2 with h|h
   ·have:=(op.blk e1).2.2;omega
   ·exact ap1 c e1 h
  ·rcases id8 c e2 with h|h
   ·have:=(ol.blk e1).2.2;omega
   ·exact ap2 c e1 h
 ·clear g1 g2 g3 g4 gx gy gz oo
  rintro ⟨env,heap2,nx2,dm⟩ ⟨vb,g1,g2,g3,g4,g6,gx,gy,gz,oo,gg,op,ol,ob,hlt2,hvb,ap1,ap2,hdm⟩
  simp only at g1 g2 g3 g4 g6 gx gy gz oo gg op ol ob hlt2 hdm
  subst hdm
  have dk:∀ v,(∀ c,aP v=some c→b6≠c)→∀ c o,aP v=some c→aq heap2 c=some o→aq (cC heap2 b6) c=some o:=fun v hv c o e1 e2=>by
   rw [bT (fun e=>hv c e1 e.symm)];exact e2
  obtain ⟨ha,hb,hc',z1,z2,z3,zk⟩:=tq (op.keep (Gp _) (dk vp fun c e=>by have:=hvp c e;omega)) (ol.keep (Gp _) (dk vl fun c e=>by have:=hvl c e;omega)) (ob.keep (Gp _) (dk vb fun c e=>by have:=hvb c e;omega)) (dR _) (dR _) (r5 _) hap1 ap1 ap2
  refine ⟨6,.op b6 0,.fp [.str f.name,bp f.params,.int .i64 f.result,bp f.locals,cp f.blocks],hc',g6,Frz.pt gg (.keep rfl (.cons z1 rfl (.keep rfl (.cons z2 rfl (.cons z3 rfl (.nil _)))))),?_⟩
  have zz:∀ c o,c<nx'→aq heap2 c=some o→aq hc' c=some o:=fun c o e1 e2=>zk c o (by rw [bT (by omega)];exact e2) (fun e=>by have:=hvp c e;omega) (fun e=>by have:=hvl c e;omega) (fun e=>by have:=hvb c e;omega)
  obtain ⟨vo',h9,n9,ea9,og9,hle9,fr9,id9⟩:=((oo.keep (h':=hc') (Gp _) fun c o e1 e2=>zz c o (hvob c e1) e2)).grw (bytes:=96) (ns:=[fnE f]) (rS _) (by simp [mY]) (by simp;omega) (by simp [maxLen];omega)
  rw [bN] at ea9
  obtain ⟨vc9,vp9⟩:=eg og9
  have gz9:=zz _ _ (by omega) gz
  have hno:∀ c,c≤nx+1+1→aP vo≠some c:=fun c h1 h2=>by have:=hvo c h2;omega
  have gz10:=fr9 _ _ (by omega) gz9 (hno _ (by omega))
  have hvo':∀ c,aP vo'=some c→nx+1+1<c:=fun c e=>by
   rcases id9 c e with h|h
   ·omega
   ·exact hvo c h
  simp -implicitDefEqProofs only [RA,ae,zp,↓reduceIte,reduceCtorEq,zq,zr,zs,zt,↓aA,↓az,↓au,↓ar,↓ay,↓aw,↓ak,↓aj,↓aC,↓aB,↓aE,↓aD,unA,ne_eq,not_true_eq_false,not_false_eq_true,g1,g2,g3,g4,gz9,ea9,gz10,vc9,vp9,List.length_singleton,f1]
  refine ⟨P.length-(i+1),by omega,i+1,vo',rfl,by omega,rfl,by rw [if_neg (by omega)];exact fr9 _ _ (by omega) (zz _ _ (by omega) gx) (hno _ (by omega)),by rw [if_neg (by omega)];exact fr9 _ _ (by omega) (zz _ _ (by omega) gy) (hno _ (by omega)),rfl,?_,by omega,hvo'⟩
  rw [aQ hr,FC]
  exact og9.keep (Gp _) fun c o e1 e2=>by rw [af,if_neg (by have:=hvo' c e1;omega)];exact e2
def kdN (x:Tm):Prop:=0≤x.kind∧x.kind<256∧0≤x.bits∧x.bits<18446744073709551616
def kdT (t:Tm):Prop:=∀ x∈ndT t,kdN x
def kdI (P:Pi):Prop:=∀ f∈P,∀ b∈f.blocks,(∀ s∈b.steps,∀ t∈s.terms,kdT t)∧∀ t∈b.terms,kdT t
theorem Bm {p:Tm→Prop} (hs:∀ x,p x→∀ y∈x.sub,p y):∀ (N:Nat) (x:Tm),szT x≤N→p x→∀ y∈ndT x,p y:=by
 intro N
 induction N with
 | zero=>intro x h;have:=bR x;omega
 | succ N ih =>
  intro x h hp y hy
  rw [dU] at hy
  rcases List.mem_cons.1 hy with e|e
  ·subst e;exact hp
  ·have key:∀ l:List Tm,(∀ z∈l,z∈x.sub)→y∈bD l→p y:=by
    intro l
    induction l with
    | nil=>intro _ h;simp [bD] at h
    | cons a r ihr =>
     intro hz hy
     rw [bD] at hy
     rcases List.mem_append.1 hy with e|e
     ·have ha:=hz a (by simp)
      have:=bZ ha
      have:=bR x
      exact ih a (by omega) (hs x hp a ha) y e
     ·exact ihr (fun z hz'=>hz z (List.mem_cons_of_mem _ hz')) e
   exact key x.sub (fun _ h=>h) e
theorem Bx {x:Tm} (h:grT x=false) (hk:kdT x):szT x≤4000000∧okT x:=by
 obtain ⟨h1,h2,h3⟩:=By h
 refine ⟨by omega,fun y hy=>?_⟩
 have:=Bm (p:=fun x=>j0 x=false∧szT x≤500) (fun x hx y hy=>by
  obtain ⟨k,w,b,n,lo,s⟩:=x
  simp only [j0,Bool.or_eq_false_iff] at hx
  simp only [Tm.sub] at hy
  rw [jG] at hx
  have:=bZ hy
  have:=bR (.mk k w b n lo s)
  simp only [Tm.sub] at this
  exact ⟨jL hx.1.1 hy,by omega⟩) _ x (Gp _) ⟨h3,h1⟩ y hy
 obtain ⟨k1,k2,k3,k4⟩:=hk y hy
 obtain ⟨k,w,b,n,lo,s⟩:=y
 simp only [j0,Bool.or_eq_false_iff,decide_eq_false_iff_not] at this
 have e1:=bR (.mk k w b n lo s)
 have e2:=bJ s
 simp only [Tm.sub] at e1
 exact ⟨k1,k2,k3,k4,by simp only [Tm.name];omega,by simp only [Tm.sub];omega⟩
theorem rO {l:List Tm} (h:oG l=false) (hk:∀ t∈l,kdT t):jC l:=by
 simp only [oG,Bool.or_eq_false_iff,decide_eq_false_iff_not] at h
 exact ⟨by omega,fun x hx=>Bx (jL h.2 hx) (hk x hx)⟩
theorem Dq {P:Pi} (h:grI P=false) (hk:kdI P):jZ P:=by
 simp only [grI,Bool.or_eq_false_iff,decide_eq_false_iff_not] at h
 obtain ⟨h1,h2,h3⟩:=h
 refine ⟨by omega,fun f hf=>?_⟩
 have hg:=jL h2 hf
 simp only [grF,Bool.or_eq_false_iff,decide_eq_false_iff_not] at hg
 obtain ⟨g1,g2,g3,g4,g5,g6⟩:=hg
 refine ⟨by omega,by omega,by omega,fun p hp=>?_,by omega,fun b hb=>?_⟩
 ·have:=jL g5 hp
  simp only [grV,decide_eq_false_iff_not] at this
  omega
 ·have hb':=jL g6 hb
  simp only [grB,Bool.or_eq_false_iff,decide_eq_false_iff_not] at hb'
  obtain ⟨b1,b2,b3,b4,b5⟩:=hb'
  obtain ⟨k1,k2⟩:=hk f hf b hb
  refine ⟨by omega,fun s hs=>?_,rO b3 k2,by omega⟩
  have hs':=jL b5 hs
  simp only [grS,Bool.or_eq_false_iff] at hs'
  exact rO hs'.1 (k1 s hs)
theorem BQ {P:Pi} {f:Int} (h:chE P f=0) {g:Fn} (hg:P[f.toNat]?=some g):GdF P g:=by
 obtain ⟨e0,_⟩:=p8 h
 exact (vW e0).2.2.2 g (Fp hg)
end Go.Proofs.YtkhjclmfbmfahaaGreatDoor
namespace Go.Ab
open List renaming getElem?_eq_getElem → Fo, mem_of_getElem? → Fp, getElem?_eq_some_iff → Fq, take_of_length_le → Fs, length_map → Fw, mem_map → Fy, all_eq_true → Fz, map_append → FC, nil_append → FN, getElem?_map → FR
open Option renaming map_some → F9
open Bool renaming and_eq_true → Gd
open Nat renaming le_refl → Gp
set_option maxHeartbeats 64000000
open Go.RowKit Go.ChangeShapes Go.Proofs.YtkhjclmfbmfahaaGreatDoor.Rows
set_option linter.unusedVariables false
set_option linter.unusedSimpArgs false
mutual
def avz:AV→Nat
 | .str s=>s.length+1
 | .lst _ es=>fD es+1
 | .agg cs=>cM cs+1
 | .tup cs=>cM cs+1
 | .fp cs=>cM cs+1
 | _=>1
def cM:List AV→Nat
 | []=>0
 | x::r=>avz x+cM r
def fD:List (List AV)→Nat
 | []=>0
 | x::r=>cM x+fD r
end
theorem oY:∀ a b:List AV,cM (a++b)=cM a+cM b
 | [],b=>by simp [cM]
 | x::a,b=>by simp only [List.cons_append,cM,oY a b];omega
theorem oV {H:Type}:∀ (es:List (List AV)) (ps:List (DataW H)),es.length=ps.length→(∀ (i:Nat) x d,es[i]?=some x→ps[i]?=some d→cM x≤uptoBulk d)→fD es≤uptoBulkAll ps
 | [],_,_,_=>by simp [fD]
 | x::es,[],h,_=>by simp at h
 | x::es,d::ps,h,hb=>by
  have h1:=hb 0 x d rfl rfl
  have h2:=oV es ps (by simpa using h) fun i y e hy he=>hb (i+1) y e (by simpa using hy) (by simpa using he)
  simp only [fD,uptoBulkAll];omega
section
variable {H:Type} {enc:TypeId × Value→H} {P:Program} {K:Wd} {base:Nat} {spare:Nat→Bool} {held:Bool}
theorem rD {S:List TypeId} (hS:okS P S=true) (hK:Old K):∀ (fuel:Nat) (t:TypeId) (cs:List Value) (x:DataW H × List MemPlace),t∈S→DataW.trod enc P K.w base spare held fuel t cs=some x →
  ∃ xs,AT P fuel t xs∧CR K 0 xs cs∧cM xs≤uptoBulk x.1:=by
 intro fuel
 induction fuel with
 | zero=>intro t cs x _ h;simp [DataW.trod] at h
 | succ n ih =>
  intro t cs x ht h
  have hok:=Fz.1 hS t ht
  have fields:∀ (ts:List (TypeId × Nat)) (ps:List (DataW H × List MemPlace)) (cs:List Value) (o:Nat),(∀ q∈ts,q.1∈S∧q.2=P.cellsOf q.1)→ps.length=ts.length→cs.length=o+(ts.map (·.2)).sum →
    (∀ i q,ts[i]?=some q→DataW.trod enc P K.w base spare held n q.1 ((cs.drop (o+((ts.take i).map (·.2)).sum)).take q.2)=ps[i]?)→∃ xs,ATl (AT P n) (ts.map (·.1)) xs∧CR K 0 xs (cs.drop o)∧cM xs≤uptoBulkAll (ps.map (·.1)):=by
   intro ts
   induction ts with
   | nil =>
    intro ps cs o _ _ hl _
    refine ⟨[],rfl,?_,by simp [cM]⟩
    rw [List.drop_of_length_le (by simp at hl;omega)];exact .nil _ _
   | cons q ts ihs =>
    intro ps cs o hq hu hl hf
    match ps,hu with
    | y::ps,hu =>
    have hy:=hf 0 q rfl
    simp only [List.take_zero,List.map_nil,List.sum_nil,Nat.add_zero,List.getElem?_cons_zero] at hy
    obtain ⟨ys,h1,h2,h2b⟩:=ih _ _ _ (hq q List.mem_cons_self).1 hy
    obtain ⟨zs,h3,h4,h4b⟩:=ihs ps cs (o+q.2) (fun r hr=>hq r (List.mem_cons_of_mem _ hr)) (by simpa using hu) (by rw [hl];simp;omega) (fun i r hr=>by
     have hy':=hf (i+1) r (by simpa using hr)
     rw [List.getElem?_cons_succ] at hy'
     rw [← hy']
     simp only [List.take_succ_cons,List.map_cons,List.sum_cons,Nat.add_assoc])
    refine ⟨ys++zs,⟨ys,zs,rfl,h1,h3⟩,?_,by rw [oY,List.map_cons,uptoBulkAll];omega⟩
    have:cs.drop o=(cs.drop o).take q.2++cs.drop (o+q.2):=by
     rw [← List.drop_drop,List.take_append_drop]
    rw [this]
    exact h2.append h4
  simp only [AT]
  cases hu:P.underlying t with
  | none=>simp [hu] at hok
  | some d =>
   simp only [hu] at hok
   cases d <;> simp only at hok <;> first|(cases hok;done)|skip
   case bool =>
    obtain ⟨b,rfl,rfl⟩:=DataW.trod_bool hu h
    exact ⟨[.bool b],⟨b,rfl⟩,.single (.bool b) rfl,by simp [cM,avz,uptoBulk]⟩
   case int k =>
    obtain ⟨i,rfl,rfl,hw⟩:=DataW.trod_int hu h
    exact ⟨[.int k i],⟨i,rfl,hw⟩,.single (.int k i) rfl,by simp [cM,avz,uptoBulk]⟩
   case string =>
    obtain ⟨s,rfl,rfl,hw⟩:=DataW.trod_string hu h
    exact ⟨[.str s.data.toList],⟨_,rfl,by simpa using hw⟩,.single (.str _ s rfl) rfl,by simp [cM,avz,uptoBulk]⟩
   case pointer e =>
    have he:e∈S:=by simpa using hok
    rcases DataW.trod_pointer hu h with ⟨rfl,rfl⟩|⟨a,cs',y,m,hm,rfl,rfl,hc,hy⟩
    ·exact ⟨[.nilP],.inl rfl,.single .nilP rfl,by simp [cM,avz,uptoBulk]⟩
    ·obtain rfl:m=n:=by omega
     obtain ⟨ys,h1,h2,h2b⟩:=ih e cs' y he hy
     obtain ⟨h3,h4⟩:=jm hc
     refine ⟨[.fp ys],.inr ⟨ys,rfl,h1⟩,.single (.fp ys a (fun k=>cs'.getD k undef) h2.one (fun k hk=>?_) fun j x hx=>?_) rfl,by simp only [cM,avz,uptoBulk];omega⟩
     ·have hkl:k<cs'.length:=by rw [h2.len];exact hk
      have:=h4 k (by omega)
      rw [Fo hkl] at this
      refine ⟨by simp only [this,List.getD_eq_getElem?_getD,Fo hkl,Option.getD_some],hK _ _ ?_⟩
      exact na this
     ·have hj:=(Fq.1 hx).1
      have hjl:j<cs'.length:=by rw [h2.len];exact hj
      refine h2.at_ j x _ hx ?_
      simp only [List.getD_eq_getElem?_getD,Fo hjl,Option.getD_some]
   case slice e =>
    have he:e∈S:=by simpa using hok
    rcases DataW.trod_slice hu h with ⟨rfl,rfl⟩|⟨a,len,cap,elems,rest,m,hm,rfl,hx,_,hlc,hcap,hlen,hel,_,_⟩
    ·exact ⟨[.lst (P.cellsOf e) []],⟨[],rfl,by simp,fun x hx=>by simp at hx⟩,.single (.lst0 _ _ _ _ _ rfl rfl fun _=>rfl) rfl,by simp [cM,avz,fD,uptoBulk]⟩
    ·obtain rfl:m=n:=by omega
     obtain ⟨es,h1,h2⟩:=jU (α:=List AV) (p:=fun i xs=>AT P m e xs∧∃ cs,K.w.cells? base (a.add (i*P.cellsOf e)) (P.cellsOf e)=some cs∧CR K 0 xs cs∧∀ d,elems[i]?=some d→cM xs≤uptoBulk d.1) len fun i hi=>by
      have h3:=hel i hi
      have hy:elems[i]?=some (elems[i]'(by omega)):=Fo (by omega)
      rw [hy] at h3
      obtain ⟨cs,h4,h5⟩:=Option.bind_eq_some_iff.1 h3
      obtain ⟨xs,h6,h7,h8⟩:=ih e cs _ he h5
      exact ⟨xs,h6,cs,h4,h7,fun d hd=>by rw [hy] at hd;injection hd with hd;subst hd;exact h8⟩
     have hlenE:∀ (i:Nat) (x:List AV),es[i]?=some x→x.length=P.cellsOf e:=fun i x hx=>by
      obtain ⟨_,cs,h4,h5,_⟩:=h2 i x hx
      rw [← h5.len];exact (jm h4).1
     have hbk:fD es≤uptoBulkAll (elems.map (·.1)):=oV es _ (by rw [Fw,hlen,h1]) fun i x d hx hd=>by
      rw [FR] at hd
      cases hel:elems[i]? with
      | none=>rw [hel] at hd;cases hd
      | some y =>
       rw [hel] at hd;simp only [F9,Option.some.injEq] at hd;subst hd
       obtain ⟨_,_,_,_,h6⟩:=h2 i x hx
       exact h6 y hel
     refine ⟨[.lst (P.cellsOf e) es],⟨es,rfl,by omega,fun x hx=>?_⟩,.single ?_ rfl,by rw [hx];simp only [cM,avz,uptoBulk];omega⟩
     ·obtain ⟨i,hi⟩:=List.getElem?_of_mem hx
      exact ⟨hlenE i x hi,(h2 i x hi).1⟩
     ·refine .lst _ es a len cap (fun k=>(K.w.cell? (a.add k)).getD undef) h1.symm hlc hcap hlenE (fun i x hx j y hy=>?_) (fun k hk=>?_) fun i x hx j y hy=>?_
      ·obtain ⟨_,cs,h4,h5,_⟩:=h2 i x hx
       exact h5.one j y hy
      ·have hpos:0<P.cellsOf e:=by
        rcases Nat.eq_zero_or_pos (P.cellsOf e) with h|h
        ·rw [h] at hk;simp at hk
        ·exact h
       have hi:k / P.cellsOf e<len:=by rw [Nat.div_lt_iff_lt_mul hpos];exact hk
       have hx:es[k / P.cellsOf e]?=some (es[k / P.cellsOf e]'(by omega)):=Fo (by omega)
       obtain ⟨_,cs,h4,h5,_⟩:=h2 _ _ hx
       obtain ⟨h6,h7⟩:=jm h4
       have hmod:k % P.cellsOf e<P.cellsOf e:=Nat.mod_lt _ hpos
       have h8:=h7 (k % P.cellsOf e) hmod
       rw [Fo (by omega)] at h8
       have h9:=sb _ _ _ _ _ h8
       rw [Nat.mul_comm,Nat.div_add_mod] at h9
       exact ⟨by rw [h9];rfl,hK _ _ (na h9)⟩
      ·obtain ⟨_,cs,h4,h5,_⟩:=h2 i x hx
       obtain ⟨h6,h7⟩:=jm h4
       have hj:=(Fq.1 hy).1
       have hjl:j<cs.length:=by rw [h5.len];exact hj
       have h8:=h7 j (by omega)
       rw [Fo hjl] at h8
       have h9:=sb _ _ _ _ _ h8
       rw [h9]
       exact h5.at_ j y _ hy (Fo hjl)
   case struct fs =>
    simp only [Gd,Fz,beq_iff_eq] at hok
    obtain ⟨hmem,htile⟩:=hok
    obtain ⟨ys,m,hm,rfl,hl,hyl,hf⟩:=DataW.trod_struct hu h
    obtain rfl:m=n:=by omega
    have off:∀ (l:List Field) (o r:Nat),nQ P o l=some r→r=o+(l.map fun f=>P.cellsOf f.type).sum∧∀ i f,l[i]?=some f→f.offset=o+((l.take i).map fun f=>P.cellsOf f.type).sum:=by
     intro l
     induction l with
     | nil=>intro o r h;simp only [nQ,Option.some.injEq] at h;subst h;exact ⟨by simp,fun i f h=>by simp at h⟩
     | cons f l ihl =>
      intro o r h
      simp only [nQ] at h
      split at h
      ·rename_i ho
       obtain ⟨h1,h2⟩:=ihl _ _ h
       refine ⟨by rw [h1];simp;omega,fun i g hg=>?_⟩
       cases i with
       | zero=>simp at hg;subst hg;simpa using ho
       | succ i=>rw [h2 i g (by simpa using hg)];simp;omega
      ·cases h
    obtain ⟨h1,h2⟩:=off fs.toList 0 _ htile
    have hmm:∀ (l:List Field),(l.map fun f=>(f.type,P.cellsOf f.type)).map (·.1)=l.map (·.type):=fun l=>by simp
    obtain ⟨xs,h3,h4,h4b⟩:=fields (fs.toList.map fun f=>(f.type,P.cellsOf f.type)) ys cs 0 (fun q hq=>by
      obtain ⟨f,hf,rfl⟩:=Fy.1 hq
      exact ⟨by simpa using hmem f hf,rfl⟩) (by rw [Fw,hyl];simp) (by rw [hl,h1,List.map_map];rfl) (fun i q hq=>by
      rw [FR] at hq
      cases hfi:fs.toList[i]? with
      | none=>rw [hfi] at hq;cases hq
      | some f =>
       rw [hfi] at hq
       simp only [F9,Option.some.injEq] at hq;subst hq
       have hfi':fs[i]?=some f:=by simpa using hfi
       have h5:=hf i f hfi'
       rw [← h5,h2 i f hfi,← List.map_take,List.map_map];rfl)
    rw [hmm] at h3
    exact ⟨xs,h3,by simpa using h4,by simp only [uptoBulk];omega⟩
   case array m e =>
    simp only [Gd,beq_iff_eq] at hok
    obtain ⟨hmem,hsz⟩:=hok
    obtain ⟨ys,m',hm,rfl,hl,hyl,hf⟩:=DataW.trod_array hu h
    obtain rfl:m'=n:=by omega
    have hsum:∀ k,((List.replicate k (e,P.cellsOf e)).map (·.2)).sum=k*P.cellsOf e:=fun k=>by simp
    obtain ⟨xs,h3,h4,h4b⟩:=fields (List.replicate m (e,P.cellsOf e)) ys cs 0 (fun q hq=>by
      have:q=(e,P.cellsOf e):=(List.mem_replicate.1 hq).2
      subst this
      exact ⟨by simpa using hmem,rfl⟩) (by rw [List.length_replicate];exact hyl) (by rw [hl,hsz,hsum];omega) (fun i q hq=>by
      have hi:i<m:=by have:=(Fq.1 hq).1;simpa using this
      have:q=(e,P.cellsOf e):=(List.mem_replicate.1 (Fp hq)).2
      subst this
      have h5:=hf i hi
      rw [← h5,List.take_replicate,hsum,Nat.min_eq_left (by omega),Nat.zero_add])
    refine ⟨xs,?_,by simpa using h4,by simp only [uptoBulk];omega⟩
    simpa using h3
theorem v3 {S:List TypeId} (hS:okS P S=true) {W:World} {t:TypeId} {v:Value} {d:DataW H} {p:List MemPlace} (ht:t∈S) (hone:∀ c,v≠.agg c) (h:DataW.Trod enc P W base spare held t v d p) :
  ∃ n x,AT P n t [x]∧VR (wd0 W) 0 x v∧avz x≤uptoBulk d:=by
 obtain ⟨fuel,hf⟩:=h
 obtain ⟨xs,h1,h2,h3⟩:=rD (K:=wd0 W) hS (Old.wd0 W) fuel t _ _ ht hf
 have hc:v.cells.toList=[v]:=by cases v <;> first|rfl|exact absurd rfl (hone _)
 rw [hc] at h2
 have hl:=h2.len
 match xs,hl with
 | [x],_=>exact ⟨fuel,x,h1,h2.at_ 0 x v rfl rfl,by simpa [cM] using h3⟩
theorem v4 {S:List TypeId} (hS:okS P S=true) {W:World} {t:TypeId} {c:Array Value} {d:DataW H} {p:List MemPlace} (ht:t∈S) (h:DataW.Trod enc P W base spare held t (.agg c) d p) :
  ∃ n xs,AT P n t xs∧VR (wd0 W) 0 (.agg xs) (.agg c)∧cM xs≤uptoBulk d:=by
 obtain ⟨fuel,hf⟩:=h
 obtain ⟨xs,h1,h2,h3⟩:=rD (K:=wd0 W) hS (Old.wd0 W) fuel t _ _ ht hf
 exact ⟨fuel,xs,h1,h2.toAgg',h3⟩
end
end Go.Ab
