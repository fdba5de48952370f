/- Copies of blocks. -/
import Derived.Test.YtkhjclmfbmfahaaGreatDoorGN
import Derived.Test.YtkhjclmfbmfahaaGreatDoorRows
import Derived.Test.YtkhjclmfbmfahaaGreatDoorCards
import Derived.Test.YtkhjclmfbmfahaaGreatDoorTie
import Derived.WalkKit
import Derived.OpenShut
import Derived.ShutString
import Derived.ChangeOld
import Derived.Below
import Derived.FnData
import Derived.LaidLaws
import Derived.Deep.DeepHandedRow
import Derived.Deep.DeepWitnessRowRef
namespace Go.Proofs.YtkhjclmfbmfahaaGreatDoor
open List renaming getElem?_eq_getElem → DN, mem_of_getElem? → DO, getElem?_eq_some_iff → DP, take_of_length_le → DQ, length_map → DX, mem_map → DZ, all_eq_true → D4, map_append → D7, mem_cons → D8, mem_append → D9, nil_append → Ef, getElem?_map → Ej, map_cons → El
open Option renaming map_some → EB
open Bool renaming and_eq_true → EF
open Nat renaming le_refl → EQ
set_option maxHeartbeats 64000000
open Go Go.Ab Go.Proofs
open Nat renaming reduceEqDiff → zp, reduceAdd → zq, reduceLeDiff → zr, reduceLT → zs, reduceBEq → zt
set_option linter.unusedVariables false
set_option linter.unusedSimpArgs false
set_option maxRecDepth 20000
theorem q7 (l:List St):∀ z∈l.map stE,z.length=4:=fun z hz=>by
 obtain ⟨r,_,rfl⟩:=DZ.1 hz;rfl
theorem rA {e1 s1 e2 s2:Nat} {h:Heap} {nx:Nat} {x y:AV} {es fs:List (List AV)} (ho:aQ e1 s1 h nx x es) (hq:aQ e2 s2 h nx y fs) (h1:∀ z∈es,z.length=s1) (h2:∀ z∈fs,z.length=s2) (ha:apart x y) :
  ∃ ha hb,Frz h x ha (.lst s1 es)∧Frz ha y hb (.lst s2 fs)∧∀ c o,aA h c=some o→aM x≠some c→aM y≠some c→aA hb c=some o:=by
 obtain ⟨a,f1,k1⟩:=ho.frz2 h1
 have hq2:aQ e2 s2 a nx y fs:=hq.keep (EQ _) fun b o e1 e2=>k1 b o e2 fun z e=>ha b (by rw [e];rfl) e1
 obtain ⟨b,f2,k2⟩:=hq2.frz2 h2
 exact ⟨a,b,f1,f2,fun c o e n1 n2=>k2 c o (k1 c o e fun z e=>n1 (by rw [e];rfl)) fun z e=>n2 (by rw [e];rfl)⟩
theorem w22 (b:Bk) (ho:okK b):Pure Tryz.prog 22 [.agg (bkE b)] (.agg (bkE b)):=by
 refine Pure.frz fun nx=>AC.go aI is22 (by simp) ?_
 obtain ⟨o1,o2,o3,o4⟩:=ho
 have lv:=fh b.steps
 have w:=w44 b.terms o3
 have n1:(nx+1=nx)=False:=eq_false (by omega)
 rw [fL]
 simp -implicitDefEqProofs only [RA,ae,zp,↓reduceIte,reduceCtorEq,zq,zr,zs,zt,↓ay,↓az,↓ar,↓aq,↓aw,↓au,↓ak,↓aj,↓aC,↓aB,↓aE,↓aD,unA,ne_eq,not_true_eq_false,not_false_eq_true,A22,Dh,n1]
 refine w.use fun k1 hk1=>?_
 intro _
 have a1:(k1=nx)=False:=eq_false (by omega)
 have a2:(k1=nx+1)=False:=eq_false (by omega)
 simp -implicitDefEqProofs only [RA,ae,zp,↓reduceIte,reduceCtorEq,zq,zr,zs,zt,↓ay,↓az,↓ar,↓aq,↓aw,↓au,↓ak,↓aj,↓aC,↓aB,↓aE,↓aD,unA,ne_eq,not_true_eq_false,not_false_eq_true,Ef,n1,a1,a2]
 obtain ⟨H,hH⟩:∃ H:Heap,H=[(k1,AO.cells [.nilS,.int .u8 b.kind,.str b.func,bg b.terms,.nilS]),(k1,AO.cells [.nilS,.int .u8 0,.str [],.nilS,.nilS]),(nx+1,.cells [.nilS,.int .u8 0,.str [],.nilS,.nilS]),(nx,.cells [fD b.steps,.int .u8 b.kind,.str b.func,bg b.terms,bT b.to])]:=⟨_,rfl⟩
 rw [← hH]
 have H0:aA H nx=some (.cells [fD b.steps,.int .u8 b.kind,.str b.func,bg b.terms,bT b.to]):=by subst hH;simp [aA,a1,n1]
 have H1:aA H (nx+1)=some (.cells [.nilS,.int .u8 0,.str [],.nilS,.nilS]):=by subst hH;simp [aA,a2]
 have H2:aA H k1=some (.cells [.nilS,.int .u8 b.kind,.str b.func,bg b.terms,.nilS]):=by subst hH;simp [aA]
 obtain ⟨vt,h4,n4,ea,og,hle,fr,id⟩:=(aQ.grw (e:=3) (sz:=1) (bytes:=8) (h:=H) (nx:=k1+1) (x:=.nilS) (es:=[]) (ns:=b.to.map inE) (.inl ⟨rfl,rfl⟩) (by simp) (eo _) (by simp;omega) (by simp [maxLen];omega))
 have ea':gk 3 1 8 H (k1+1) .nilS (bT b.to)=some (vt,h4,n4):=ea
 obtain ⟨vc,vp⟩:=cJ og
 have J0:=fr nx _ (by omega) H0 (by simp [aM])
 have J1:=fr (nx+1) _ (by omega) H1 (by simp [aM])
 have J2:=fr k1 _ (by omega) H2 (by simp [aM])
 have hvt:∀ c,aM vt=some c→k1<c:=fun c e=>by
  rcases id c e with h|h
  ·omega
  ·cases h
 rw [Ef] at og
 simp -implicitDefEqProofs only [RA,ae,zp,↓reduceIte,reduceCtorEq,zq,zr,zs,zt,↓ay,↓az,↓ar,↓aq,↓aw,↓au,↓ak,↓aj,↓aC,↓aB,↓aE,↓aD,unA,ne_eq,not_true_eq_false,not_false_eq_true,ea',vc,vp,J2,List.length_singleton]
 refine aJ (fun q st=>∃ (i:Nat) (vs:AV),q=b.steps.length-i∧i≤b.steps.length∧ai st.env 1=some (.op nx 0)∧ai st.env 2=some (.op (nx+1) 0)∧ai st.env 3=some (.op k1 0)∧ai st.env 4=some (.int .i64 i)∧aA st.heap nx=some (.cells [fD b.steps,.int .u8 b.kind,.str b.func,bg b.terms,bT b.to])∧aA st.heap (nx+1)=some (.cells [.nilS,.int .u8 0,.str [],.nilS,.nilS])∧aA st.heap k1=some (.cells [vs,.int .u8 b.kind,.str b.func,bg b.terms,vt]) ∧
   aQ 3 1 st.heap st.nx vt (b.to.map inE)∧aQ 102 4 st.heap st.nx vs ((b.steps.take i).map stE)∧k1<st.nx∧(∀ c,aM vs=some c→k1<c)∧apart vs vt∧st.dm=[]) (n:=b.steps.length) aI
  ⟨0,.nilS,rfl,by omega,by simp [ai],by simp [ai],by simp [ai],by simp [ai],by simp only;rw [af,if_neg (by omega)];exact J0,by simp only;rw [af,if_neg (by omega)];exact J1,by simp only;rw [af,if_pos rfl],
   og.keep (EQ _) fun c o e1 e2=>by simp only;rw [af,if_neg (by have:=hvt c e1;omega)];exact e2,.inl ⟨rfl,rfl⟩,by simp only;omega,by simp [aM],fun c e1 e2=>by simp [aM] at e1,rfl⟩ ?_
 clear J0 J1 J2 og ea ea' fr id hle H0 H1 H2 hH
 rintro q ⟨env,heap,nx',dm⟩ ⟨i,vs,rfl,hi,g1,g2,g3,g4,gx,gy,gz,ot,os,hlt,hvs,hap,hdm⟩
 simp only at g1 g2 g3 g4 gx gy gz ot os hlt hdm
 subst hdm
 have f1:=wS (i:=i) (by omega)
 by_cases hc:(i:Int)<(b.steps.length:Int)
 case neg =>
  rw [show b.steps.take i=b.steps from DQ (by omega)] at os
  have a3:(nx+1=k1)=False:=eq_false (by omega)
  simp -implicitDefEqProofs only [RA,ae,zp,↓reduceIte,reduceCtorEq,zq,zr,zs,zt,↓ay,↓az,↓ar,↓aq,↓aw,↓au,↓ak,↓aj,↓aC,↓aB,↓aE,↓aD,unA,ne_eq,not_true_eq_false,not_false_eq_true,wt,qA,g1,g2,g3,g4,gx,gy,gz,lv,hc,R22,a3]
  have kk:∀ v,(∀ c,aM v=some c→k1<c)→∀ c o,aM v=some c→aA heap c=some o→aA ((nx+1,AO.cells [vs,.int .u8 b.kind,.str b.func,bg b.terms,vt])::heap) c=some o:=fun v hv c o e1 e2=>by
   rw [af,if_neg (by have:=hv c e1;omega)];exact e2
  obtain ⟨ha,hb,f1,f2,_⟩:=rA (os.keep (EQ _) (kk vs hvs)) (ot.keep (EQ _) (kk vt hvt)) (q7 _) (eo _) hap
  exact ⟨_,hb,rfl,.agg (.cons f1 rfl (.keep rfl (.keep rfl (.keep rfl (.cons f2 rfl (.nil _))))))⟩
 have hr:=DN (show i<b.steps.length by omega)
 generalize b.steps[i]=r at hr
 have hmem:=DO hr
 have ix:=ii hr
 rw [iq] at ix
 have wr:=w44 r.terms (o2 r hmem)
 have b1:(nx'=nx)=False:=eq_false (by omega)
 have b2:(nx'=k1)=False:=eq_false (by omega)
 simp -implicitDefEqProofs only [RA,ae,zp,↓reduceIte,reduceCtorEq,zq,zr,zs,zt,↓ay,↓az,↓ar,↓aq,↓aw,↓au,↓ak,↓aj,↓aC,↓aB,↓aE,↓aD,unA,ne_eq,not_true_eq_false,not_false_eq_true,wt,qA,g1,g2,g3,g4,gx,gy,gz,lv,hc,ix,b1,b2]
 refine wr.use fun n5 hn5=>?_
 have os5:aQ 102 4 ((nx',AO.cells [.int .u8 r.kind,.str r.var,.str r.func,bg r.terms])::(nx',.cells [.int .u8 0,.str [],.str [],.nilS])::heap) n5 vs ((b.steps.take i).map stE):=os.keep (by omega) fun c o e1 e2=>by
  rw [af,if_neg (by have:=(os.blk e1).2.2;omega),af,if_neg (by have:=(os.blk e1).2.2;omega)];exact e2
 obtain ⟨v',h4,n6,ea,og,hle,fr,id⟩:=os5.grw (bytes:=64) (ns:=[stE r]) (q7 _) (by simp [zE]) (by simp;omega) (by simp [maxLen];omega)
 rw [iq] at ea
 obtain ⟨vc',vp'⟩:=cJ og
 have fr':∀ c o,c<nx'→aM vs≠some c→aA heap c=some o→aA h4 c=some o:=fun c o e1 e2 e3=>fr c o (by omega) (by rw [af,if_neg (by omega),af,if_neg (by omega)];exact e3) e2
 have hns:∀ c,c≤k1→aM vs≠some c:=fun c h1 h2=>by have:=hvs c h2;omega
 have gz4:=fr' k1 _ hlt (hns _ (by omega)) gz
 have hnv':∀ c,aM v'=some c→k1<c:=fun c e=>by
  rcases id c e with h|h
  ·omega
  ·exact hvs c h
 simp -implicitDefEqProofs only [RA,ae,zp,↓reduceIte,reduceCtorEq,zq,zr,zs,zt,↓ay,↓az,↓ar,↓aq,↓aw,↓au,↓ak,↓aj,↓aC,↓aB,↓aE,↓aD,unA,ne_eq,not_true_eq_false,not_false_eq_true,g1,g2,g3,g4,gx,gy,gz,b1,b2,ea,gz4,vc',vp',List.length_singleton,f1]
 refine ⟨b.steps.length-(i+1),by omega,i+1,v',rfl,by omega,rfl,by rw [if_neg (by omega)];exact fr' _ _ (by omega) (hns _ (by omega)) gx,by rw [if_neg (by omega)];exact fr' _ _ (by omega) (hns _ (by omega)) gy,rfl,?_,?_,by omega,hnv',fun c e1 e2=>?_⟩
 ·refine ot.keep (by omega) fun c o e1 e2=>?_
  rw [af,if_neg (by have:=hvt c e1;omega)];exact fr' c o (ot.blk e1).2.2 (fun e=>hap c e e1) e2
 ·rw [aP hr,D7]
  exact og.keep (EQ _) fun c o e1 e2=>by rw [af,if_neg (by have:=hnv' c e1;omega)];exact e2
 ·rcases id c e1 with h|h
  ·have:=(ot.blk e2).2.2;omega
  ·exact hap c h e2
theorem rO (l:List Bk):∀ z∈l.map bkE,z.length=5:=fun z hz=>by
 obtain ⟨r,_,rfl⟩:=DZ.1 hz;rfl
theorem sT {e1 s1 e2 s2 e3 s3:Nat} {h:Heap} {nx:Nat} {x y u:AV} {es fs gs:List (List AV)} (ho:aQ e1 s1 h nx x es) (hq:aQ e2 s2 h nx y fs) (hr:aQ e3 s3 h nx u gs) (h1:∀ z∈es,z.length=s1) (h2:∀ z∈fs,z.length=s2) (h3:∀ z∈gs,z.length=s3) (ha:apart x y) (hb:apart x u) (hc:apart y u) :
  ∃ ha hb hc,Frz h x ha (.lst s1 es)∧Frz ha y hb (.lst s2 fs)∧Frz hb u hc (.lst s3 gs)∧∀ c o,aA h c=some o→aM x≠some c→aM y≠some c→aM u≠some c→aA hc c=some o:=by
 obtain ⟨a,b,f1,f2,k⟩:=rA ho hq h1 h2 ha
 have hr2:aQ e3 s3 b nx u gs:=hr.keep (EQ _) fun c o e1 e2=>k c o e2 (fun e=>hb c e e1) (fun e=>hc c e e1)
 obtain ⟨d,f3,k3⟩:=hr2.frz2 h3
 exact ⟨a,b,d,f1,f2,f3,fun c o e n1 n2 n3=>k3 c o (k c o e n1 n2) fun z e=>n3 (by rw [e];rfl)⟩
theorem w6 (P:Pi) (ho:im P):Pure Tryz.prog 6 [.agg (piE P)] (.agg (piE P)):=by
 refine Pure.frz fun nx=>AC.go aI is6 (by simp) ?_
 obtain ⟨o1,o2⟩:=ho
 have lv:=cw P
 have n1:(nx+1=nx)=False:=eq_false (by omega)
 have n2:(nx+1+1=nx)=False:=eq_false (by omega)
 unfold piE
 simp -implicitDefEqProofs only [RA,ae,zp,↓reduceIte,reduceCtorEq,zq,zr,zs,zt,↓ay,↓az,↓ar,↓aq,↓aw,↓au,↓ak,↓aj,↓aC,↓aB,↓aE,↓aD,unA,ne_eq,not_true_eq_false,not_false_eq_true,A6,A6p,n1,n2]
 refine aJ (fun q st=>∃ (i:Nat) (vo:AV),q=P.length-i∧i≤P.length∧ai st.env 1=some (.op nx 0)∧ai st.env 2=some (.op (nx+1) 0)∧ai st.env 3=some (.op (nx+1+1) 0)∧ai st.env 4=some (.int .i64 i)∧aA st.heap nx=some (.cells [bU P])∧aA st.heap (nx+1)=some (.cells [.nilS])∧aA st.heap (nx+1+1)=some (.cells [vo])∧aQ 54 5 st.heap st.nx vo ((P.take i).map fnE)∧nx+1+1<st.nx∧(∀ c,aM vo=some c→nx+1+1<c)∧st.dm=[]) (n:=P.length) aI
  ⟨0,.nilS,rfl,by omega,by simp [ai],by simp [ai],by simp [ai],by simp [ai],by simp [aA,n1,n2],by simp [aA],by simp [aA],.inl ⟨rfl,rfl⟩,by simp only;omega,by simp [aM],rfl⟩ ?_
 rintro q ⟨env,heap,nx',dm⟩ ⟨i,vo,rfl,hi,g1,g2,g3,g4,gx,gy,gz,oo,hlt,hvo,hdm⟩
 simp only at g1 g2 g3 g4 gx gy gz oo hlt hdm
 subst hdm
 have f1:=wS (i:=i) (by omega)
 by_cases hc:(i:Int)<(P.length:Int)
 case neg =>
  rw [show P.take i=P from DQ (by omega)] at oo
  have n3:(nx+1=nx+1+1)=False:=eq_false (by omega)
  simp -implicitDefEqProofs only [RA,ae,zp,↓reduceIte,reduceCtorEq,zq,zr,zs,zt,↓ay,↓az,↓ar,↓aq,↓aw,↓au,↓ak,↓aj,↓aC,↓aB,↓aE,↓aD,unA,ne_eq,not_true_eq_false,not_false_eq_true,AN,vN,g1,g2,g3,g4,gx,gy,gz,lv,hc,R6,n3]
  obtain ⟨h2,hf⟩:=(oo.keep (h':=(nx+1,AO.cells [vo])::heap) (EQ _) fun c o e1 e2=>by rw [af,if_neg (by have:=hvo c e1;omega)];exact e2).frz (rC _)
  exact ⟨_,h2,rfl,.agg (.cons hf rfl (.nil _))⟩
 have hr:=DN (show i<P.length by omega)
 generalize P[i]=f at hr
 have hmem:=DO hr
 obtain ⟨t1,t2,t3,t4,t5,t6⟩:=o2 f hmem
 have ix:=cC hr
 rw [bG] at ix
 have lp:=ce f.params
 have ll:=ce f.locals
 have lb:=dn f.blocks
 have b1:(nx'=nx)=False:=eq_false (by omega)
 have b2:(nx'+1=nx')=False:=eq_false (by omega)
 have b3:(nx'=nx'+1)=False:=eq_false (by omega)
 obtain ⟨H,hH⟩:∃ H:Heap,H=(nx'+1,AO.cells [.str f.name,.nilS,.int .i64 f.result,.nilS,.nilS])::(nx'+1,.cells [.str [],.nilS,.int .i64 0,.nilS,.nilS])::(nx',.cells [.str f.name,bh f.params,.int .i64 f.result,bh f.locals,cg f.blocks])::(nx',.cells [.str [],.nilS,.int .i64 0,.nilS,.nilS])::heap:=⟨_,rfl⟩
 have Hold:∀ c o,c<nx'→aA heap c=some o→aA H c=some o:=fun c o e1 e2=>by
  rw [hH,af,if_neg (by omega),af,if_neg (by omega),af,if_neg (by omega),af,if_neg (by omega)];exact e2
 have Hf:aA H nx'=some (.cells [.str f.name,bh f.params,.int .i64 f.result,bh f.locals,cg f.blocks]):=by
  rw [hH,af,if_neg (by omega),af,if_neg (by omega),af,if_pos rfl]
 have Hg:aA H (nx'+1)=some (.cells [.str f.name,.nilS,.int .i64 f.result,.nilS,.nilS]):=by rw [hH,af,if_pos rfl]
 obtain ⟨vp,h4,n4,ea,og,hle,fr,id⟩:=(aQ.grw (e:=57) (sz:=2) (bytes:=24) (h:=H) (nx:=nx'+1+1) (x:=.nilS) (es:=[]) (ns:=f.params.map pmE) (.inl ⟨rfl,rfl⟩) (by simp) (dM _) (by simp;omega) (by simp [maxLen];omega))
 have ea':gk 57 2 24 H (nx'+1+1) .nilS (bh f.params)=some (vp,h4,n4):=ea
 rw [Ef] at og
 obtain ⟨vpc,vpp⟩:=cJ og
 have hvp:∀ c,aM vp=some c→nx'+1<c:=fun c e=>by
  rcases id c e with h|h
  ·omega
  ·cases h
 have Hg4:=fr (nx'+1) _ (by omega) Hg (by simp [aM])
 have Hf4:=fr nx' _ (by omega) Hf (by simp [aM])
 obtain ⟨H5,hH5⟩:∃ H5:Heap,H5=(nx'+1,AO.cells [.str f.name,vp,.int .i64 f.result,.nilS,.nilS])::h4:=⟨_,rfl⟩
 have og5:aQ 57 2 H5 n4 vp (f.params.map pmE):=og.keep (EQ _) fun c o e1 e2=>by
  rw [hH5,af,if_neg (by have:=hvp c e1;omega)];exact e2
 obtain ⟨vl,h6,n6,ea6,og6,hle6,fr6,id6⟩:=(aQ.grw (e:=57) (sz:=2) (bytes:=24) (h:=H5) (nx:=n4) (x:=.nilS) (es:=[]) (ns:=f.locals.map pmE) (.inl ⟨rfl,rfl⟩) (by simp) (dM _) (by simp;omega) (by simp [maxLen];omega))
 have ea6':gk 57 2 24 H5 n4 .nilS (bh f.locals)=some (vl,h6,n6):=ea6
 rw [Ef] at og6
 obtain ⟨vlc,vlp⟩:=cJ og6
 have hvl:∀ c,aM vl=some c→n4≤c:=fun c e=>by
  rcases id6 c e with h|h
  ·omega
  ·cases h
 have Hg5:aA H5 (nx'+1)=some (.cells [.str f.name,vp,.int .i64 f.result,.nilS,.nilS]):=by rw [hH5,af,if_pos rfl]
 have Hf5:aA H5 nx'=some (.cells [.str f.name,bh f.params,.int .i64 f.result,bh f.locals,cg f.blocks]):=by rw [hH5,af,if_neg (by omega)];exact Hf4
 have Hg6:=fr6 (nx'+1) _ (by omega) Hg5 (by simp [aM])
 have Hf6:=fr6 nx' _ (by omega) Hf5 (by simp [aM])
 have old6:∀ c o,c<nx'→aA heap c=some o→aA h6 c=some o:=fun c o e1 e2=>fr6 c o (by omega) (by rw [hH5,af,if_neg (by omega)];exact fr c o (by omega) (Hold c o e1 e2) (by simp [aM])) (by simp [aM])
 have ogp:aQ 57 2 h6 n6 vp (f.params.map pmE):=og5.keep hle6 fun c o e1 e2=>fr6 c o (og5.blk e1).2.2 e2 (by simp [aM])
 have hap1:apart vp vl:=fun c e1 e2=>by have:=hvl c e2;have:=(og5.blk e1).2.2;omega
 simp -implicitDefEqProofs only [RA,ae,zp,↓reduceIte,reduceCtorEq,zq,zr,zs,zt,↓ay,↓az,↓ar,↓aq,↓aw,↓au,↓ak,↓aj,↓aC,↓aB,↓aE,↓aD,unA,ne_eq,not_true_eq_false,not_false_eq_true,AN,vN,g1,g2,g3,g4,gx,gy,gz,lv,hc,ix,b1,b2,b3]
 rw [← hH]
 simp -implicitDefEqProofs only [RA,ae,zp,↓reduceIte,reduceCtorEq,zq,zr,zs,zt,↓ay,↓az,↓ar,↓aq,↓aw,↓au,↓ak,↓aj,↓aC,↓aB,↓aE,↓aD,unA,ne_eq,not_true_eq_false,not_false_eq_true,ea',vpc,vpp,Hg4,Hf4,b1,b2,b3,List.length_singleton]
 rw [← hH5]
 simp -implicitDefEqProofs only [RA,ae,zp,↓reduceIte,reduceCtorEq,zq,zr,zs,zt,↓ay,↓az,↓ar,↓aq,↓aw,↓au,↓ak,↓aj,↓aC,↓aB,↓aE,↓aD,unA,ne_eq,not_true_eq_false,not_false_eq_true,ea6',vlc,vlp,Hg6,Hf6,b1,b2,b3,List.length_singleton]
 have hvob:∀ c,aM vo=some c→c<nx':=fun c e=>(oo.blk e).2.2
 have kk:∀ X c o,c<nx'→aA heap c=some o→aA ((nx'+1,X)::h6) c=some o:=fun X c o e1 e2=>by
  rw [af,if_neg (by omega)];exact old6 c o e1 e2
 have ogl:aQ 57 2 ((nx'+1,AO.cells [.str f.name,vp,.int .i64 f.result,vl,.nilS])::h6) n6 vl (f.locals.map pmE):=og6.keep (EQ _) fun c o e1 e2=>by rw [af,if_neg (by have:=hvl c e1;omega)];exact e2
 have ogp':aQ 57 2 ((nx'+1,AO.cells [.str f.name,vp,.int .i64 f.result,vl,.nilS])::h6) n6 vp (f.params.map pmE):=ogp.keep (EQ _) fun c o e1 e2=>by rw [af,if_neg (by have:=hvp c e1;omega)];exact e2
 obtain ⟨b6,hb6⟩:∃ b,b=nx'+1:=⟨_,rfl⟩
 refine kw (fun q st=>∃ (j:Nat) (vb:AV),q=f.blocks.length-j∧j≤f.blocks.length∧ai st.env 1=some (.op nx 0)∧ai st.env 2=some (.op (nx+1) 0)∧ai st.env 3=some (.op (nx+1+1) 0)∧ai st.env 4=some (.int .i64 i)∧ai st.env 5=some (.op nx' 0)∧ai st.env 6=some (.op b6 0)∧ai st.env 7=some (.int .i64 j)∧aA st.heap nx=some (.cells [bU P])∧aA st.heap (nx+1)=some (.cells [.nilS])∧aA st.heap (nx+1+1)=some (.cells [vo])∧aQ 54 5 st.heap st.nx vo ((P.take i).map fnE) ∧
   aA st.heap nx'=some (.cells [.str f.name,bh f.params,.int .i64 f.result,bh f.locals,cg f.blocks])∧aA st.heap b6=some (.cells [.str f.name,vp,.int .i64 f.result,vl,vb])∧aQ 57 2 st.heap st.nx vp (f.params.map pmE)∧aQ 57 2 st.heap st.nx vl (f.locals.map pmE)∧aQ 64 5 st.heap st.nx vb ((f.blocks.take j).map bkE)∧b6<st.nx∧(∀ c,aM vb=some c→b6<c)∧apart vp vb∧apart vl vb∧st.dm=[]) 2
  (fun st=>∃ (vb:AV),ai st.env 1=some (.op nx 0)∧ai st.env 2=some (.op (nx+1) 0)∧ai st.env 3=some (.op (nx+1+1) 0)∧ai st.env 4=some (.int .i64 i)∧ai st.env 6=some (.op b6 0)∧aA st.heap nx=some (.cells [bU P])∧aA st.heap (nx+1)=some (.cells [.nilS])∧aA st.heap (nx+1+1)=some (.cells [vo])∧aQ 54 5 st.heap st.nx vo ((P.take i).map fnE) ∧
   aA st.heap b6=some (.cells [.str f.name,vp,.int .i64 f.result,vl,vb])∧aQ 57 2 st.heap st.nx vp (f.params.map pmE)∧aQ 57 2 st.heap st.nx vl (f.locals.map pmE)∧aQ 64 5 st.heap st.nx vb (f.blocks.map bkE)∧b6<st.nx∧(∀ c,aM vb=some c→b6<c)∧apart vp vb∧apart vl vb∧st.dm=[]) (n:=f.blocks.length) aI
  ⟨0,.nilS,rfl,by omega,by simp [ai,g1],by simp [ai,g2],by simp [ai,g3],by simp [ai,g4],by simp [ai],by simp [ai,hb6],by simp [ai],kk _ _ _ (by omega) gx,kk _ _ _ (by omega) gy,kk _ _ _ (by omega) gz,oo.keep (by simp only;omega) fun c o e1 e2=>kk _ c o (hvob c e1) e2,
   by simp only;rw [af,if_neg (by omega)];exact Hf6,by simp only;rw [af,if_pos hb6.symm],ogp',ogl,.inl ⟨rfl,rfl⟩,by simp only;omega,by simp [aM],fun c e1 e2=>by simp [aM] at e2,fun c e1 e2=>by simp [aM] at e2,rfl⟩ ?_ ?_
 ·clear g1 g2 g3 g4 gx gy gz oo
  rintro q ⟨env,heap2,nx2,dm⟩ ⟨j,vb,rfl,hj,g1,g2,g3,g4,g5,g6,g7,gx,gy,gz,oo,gf,gg,op,ol,ob,hlt2,hvb,ap1,ap2,hdm⟩
  simp only at g1 g2 g3 g4 g5 g6 g7 gx gy gz oo gf gg op ol ob hlt2 hdm
  subst hdm
  have f3:=wS (i:=j) (by omega)
  by_cases hcj:(j:Int)<(f.blocks.length:Int)
  case neg =>
   rw [show f.blocks.take j=f.blocks from DQ (by omega)] at ob
   simp -implicitDefEqProofs only [RA,ae,zp,↓reduceIte,reduceCtorEq,zq,zr,zs,zt,↓ay,↓az,↓ar,↓aq,↓aw,↓au,↓ak,↓aj,↓aC,↓aB,↓aE,↓aD,unA,ne_eq,not_true_eq_false,not_false_eq_true,fu,fW,fX,fY,AP,vO,g1,g2,g3,g4,g5,g6,g7,gf,lb,hcj]
   exact ⟨vb,gx,gy,gz,oo,gg,op,ol,ob,hlt2,hvb,ap1,ap2⟩
  have hrj:=DN (show j<f.blocks.length by omega)
  generalize f.blocks[j]=b at hrj
  have hmb:=DO hrj
  have ixb:=eq hrj
  have wb:=w22 b (t6 b hmb)
  rw [fL] at ixb wb
  simp -implicitDefEqProofs only [RA,ae,zp,↓reduceIte,reduceCtorEq,zq,zr,zs,zt,↓ay,↓az,↓ar,↓aq,↓aw,↓au,↓ak,↓aj,↓aC,↓aB,↓aE,↓aD,unA,ne_eq,not_true_eq_false,not_false_eq_true,fu,fW,fX,fY,AP,vO,g1,g2,g3,g4,g5,g6,g7,gf,gg,lb,hcj,ixb]
  refine wb.use fun n5 hn5=>?_
  obtain ⟨vb',h8,n8,ea8,og8,hle8,fr8,id8⟩:=(ob.mono hn5).grw (bytes:=96) (ns:=[bkE b]) (rO _) (by simp [mO]) (by simp;omega) (by simp [maxLen];omega)
  rw [fL] at ea8
  obtain ⟨vc8,vp8⟩:=cJ og8
  have hnb:∀ c,c≤b6→aM vb≠some c:=fun c h1 h2=>by have:=hvb c h2;omega
  have gg8:=fr8 b6 _ (by omega) gg (hnb _ (by omega))
  have hvb':∀ c,aM vb'=some c→b6<c:=fun c e=>by
   rcases id8 c e with h|h
   ·omega
   ·exact hvb c h
  simp -implicitDefEqProofs only [RA,ae,zp,↓reduceIte,reduceCtorEq,zq,zr,zs,zt,↓ay,↓az,↓ar,↓aq,↓aw,↓au,↓ak,↓aj,↓aC,↓aB,↓aE,↓aD,unA,ne_eq,not_true_eq_false,not_false_eq_true,fu,fW,fX,fY,g1,g2,g3,g4,g5,g6,g7,gf,gg,ea8,gg8,vc8,vp8,List.length_singleton,f3]
  have k8:∀ c o,c≠b6→c<nx2→aM vb≠some c→aA heap2 c=some o→aA ((b6,AO.cells [.str f.name,vp,.int .i64 f.result,vl,vb'])::h8) c=some o:=fun c o e1 e2 e3 e4=>by
   rw [af,if_neg (by omega)];exact fr8 c o (by omega) e4 e3
  have k9:∀ c o,c≠b6→c<nx2→aM vb≠some c→aA heap2 c=some o→(if b6=c then some (AO.cells [.str f.name,vp,.int .i64 f.result,vl,vb']) else aA h8 c)=some o:=fun c o e1 e2 e3 e4=>k8 c o e1 e2 e3 e4
  refine ⟨f.blocks.length-(j+1),by omega,j+1,vb',rfl,by omega,rfl,k9 _ _ (by omega) (by omega) (hnb _ (by omega)) gx,k9 _ _ (by omega) (by omega) (hnb _ (by omega)) gy,k9 _ _ (by omega) (by omega) (hnb _ (by omega)) gz,oo.keep (by omega) fun c o e1 e2=>k8 c o (by have:=hvob c e1;omega) (by have:=hvob c e1;omega) (hnb _ (by have:=hvob c e1;omega)) e2,
   k9 _ _ (by omega) (by omega) (hnb _ (by omega)) gf,rfl,op.keep (by omega) fun c o e1 e2=>k8 c o (by have:=hvp c e1;omega) (op.blk e1).2.2 (fun e=>ap1 c e1 e) e2,ol.keep (by omega) fun c o e1 e2=>k8 c o (by have:=hvl c e1;omega) (ol.blk e1).2.2 (fun e=>ap2 c e1 e) e2,?_,by omega,hvb',fun c e1 e2=>?_,fun c e1 e2=>?_⟩
  ·rw [aP hrj,D7]
   exact og8.keep (EQ _) fun c o e1 e2=>by rw [af,if_neg (by have:=hvb' c e1;omega)];exact e2
  ·rcases id8 c e2 with h|h
   ·have:=(op.blk e1).2.2;omega
   ·exact ap1 c e1 h
  ·rcases id8 c e2 with h|h
   ·have:=(ol.blk e1).2.2;omega
   ·exact ap2 c e1 h
 ·clear g1 g2 g3 g4 gx gy gz oo
  rintro ⟨env,heap2,nx2,dm⟩ ⟨vb,g1,g2,g3,g4,g6,gx,gy,gz,oo,gg,op,ol,ob,hlt2,hvb,ap1,ap2,hdm⟩
  simp only at g1 g2 g3 g4 g6 gx gy gz oo gg op ol ob hlt2 hdm
  subst hdm
  have dk:∀ v,(∀ c,aM v=some c→b6≠c)→∀ c o,aM v=some c→aA heap2 c=some o→aA (bN heap2 b6) c=some o:=fun v hv c o e1 e2=>by
   rw [br (fun e=>hv c e1 e.symm)];exact e2
  obtain ⟨ha,hb,hc',z1,z2,z3,zk⟩:=sT (op.keep (EQ _) (dk vp fun c e=>by have:=hvp c e;omega)) (ol.keep (EQ _) (dk vl fun c e=>by have:=hvl c e;omega)) (ob.keep (EQ _) (dk vb fun c e=>by have:=hvb c e;omega)) (dM _) (dM _) (rO _) hap1 ap1 ap2
  refine ⟨6,.op b6 0,.fp [.str f.name,bh f.params,.int .i64 f.result,bh f.locals,cg f.blocks],hc',g6,Frz.pt gg (.keep rfl (.cons z1 rfl (.keep rfl (.cons z2 rfl (.cons z3 rfl (.nil _)))))),?_⟩
  have zz:∀ c o,c<nx'→aA heap2 c=some o→aA hc' c=some o:=fun c o e1 e2=>zk c o (by rw [br (by omega)];exact e2) (fun e=>by have:=hvp c e;omega) (fun e=>by have:=hvl c e;omega) (fun e=>by have:=hvb c e;omega)
  obtain ⟨vo',h9,n9,ea9,og9,hle9,fr9,id9⟩:=((oo.keep (h':=hc') (EQ _) fun c o e1 e2=>zz c o (hvob c e1) e2)).grw (bytes:=96) (ns:=[fnE f]) (rC _) (by simp [iD]) (by simp;omega) (by simp [maxLen];omega)
  rw [bG] at ea9
  obtain ⟨vc9,vp9⟩:=cJ og9
  have gz9:=zz _ _ (by omega) gz
  have hno:∀ c,c≤nx+1+1→aM vo≠some c:=fun c h1 h2=>by have:=hvo c h2;omega
  have gz10:=fr9 _ _ (by omega) gz9 (hno _ (by omega))
  have hvo':∀ c,aM vo'=some c→nx+1+1<c:=fun c e=>by
   rcases id9 c e with h|h
   ·omega
   ·exact hvo c h
  simp -implicitDefEqProofs only [RA,ae,zp,↓reduceIte,reduceCtorEq,zq,zr,zs,zt,↓ay,↓az,↓ar,↓aq,↓aw,↓au,↓ak,↓aj,↓aC,↓aB,↓aE,↓aD,unA,ne_eq,not_true_eq_false,not_false_eq_true,g1,g2,g3,g4,gz9,ea9,gz10,vc9,vp9,List.length_singleton,f1]
  refine ⟨P.length-(i+1),by omega,i+1,vo',rfl,by omega,rfl,by rw [if_neg (by omega)];exact fr9 _ _ (by omega) (zz _ _ (by omega) gx) (hno _ (by omega)),by rw [if_neg (by omega)];exact fr9 _ _ (by omega) (zz _ _ (by omega) gy) (hno _ (by omega)),rfl,?_,by omega,hvo'⟩
  rw [aP hr,D7]
  exact og9.keep (EQ _) fun c o e1 e2=>by rw [af,if_neg (by have:=hvo' c e1;omega)];exact e2
def kdN (x:Tm):Prop:=0≤x.kind∧x.kind<256∧0≤x.bits∧x.bits<18446744073709551616
def kdT (t:Tm):Prop:=∀ x∈ndT t,kdN x
def kdI (P:Pi):Prop:=∀ f∈P,∀ b∈f.blocks,(∀ s∈b.steps,∀ t∈s.terms,kdT t)∧∀ t∈b.terms,kdT t
theorem zS {p:Tm→Prop} (hs:∀ x,p x→∀ y∈x.sub,p y):∀ (N:Nat) (x:Tm),szT x≤N→p x→∀ y∈ndT x,p y:=by
 intro N
 induction N with
 | zero=>intro x h;have:=bK x;omega
 | succ N ih =>
  intro x h hp y hy
  rw [eR] at hy
  rcases D8.1 hy with e|e
  ·subst e;exact hp
  ·have key:∀ l:List Tm,(∀ z∈l,z∈x.sub)→y∈bL l→p y:=by
    intro l
    induction l with
    | nil=>intro _ h;simp [bL] at h
    | cons a r ihr =>
     intro hz hy
     rw [bL] at hy
     rcases D9.1 hy with e|e
     ·have ha:=hz a (by simp)
      have:=cb ha
      have:=bK x
      exact ih a (by omega) (hs x hp a ha) y e
     ·exact ihr (fun z hz'=>hz z (List.mem_cons_of_mem _ hz')) e
   exact key x.sub (fun _ h=>h) e
theorem zY {x:Tm} (h:grT x=false) (hk:kdT x):szT x≤4000000∧okT x:=by
 obtain ⟨h1,h2,h3⟩:=zZ h
 refine ⟨by omega,fun y hy=>?_⟩
 have:=zS (p:=fun x=>jR x=false∧szT x≤500) (fun x hx y hy=>by
  obtain ⟨k,w,b,n,lo,s⟩:=x
  simp only [jR,Bool.or_eq_false_iff] at hx
  simp only [Tm.sub] at hy
  rw [jA] at hx
  have:=cb hy
  have:=bK (.mk k w b n lo s)
  simp only [Tm.sub] at this
  exact ⟨jD hx.1.1 hy,by omega⟩) _ x (EQ _) ⟨h3,h1⟩ y hy
 obtain ⟨k1,k2,k3,k4⟩:=hk y hy
 obtain ⟨k,w,b,n,lo,s⟩:=y
 simp only [jR,Bool.or_eq_false_iff,decide_eq_false_iff_not] at this
 have e1:=bK (.mk k w b n lo s)
 have e2:=bY s
 simp only [Tm.sub] at e1
 exact ⟨k1,k2,k3,k4,by simp only [Tm.name];omega,by simp only [Tm.sub];omega⟩
theorem ry {l:List Tm} (h:nW l=false) (hk:∀ t∈l,kdT t):kj l:=by
 simp only [nW,Bool.or_eq_false_iff,decide_eq_false_iff_not] at h
 exact ⟨by omega,fun x hx=>zY (jD h.2 hx) (hk x hx)⟩
theorem BL {P:Pi} (h:grI P=false) (hk:kdI P):im P:=by
 simp only [grI,Bool.or_eq_false_iff,decide_eq_false_iff_not] at h
 obtain ⟨h1,h2,h3⟩:=h
 refine ⟨by omega,fun f hf=>?_⟩
 have hg:=jD h2 hf
 simp only [grF,Bool.or_eq_false_iff,decide_eq_false_iff_not] at hg
 obtain ⟨g1,g2,g3,g4,g5,g6⟩:=hg
 refine ⟨by omega,by omega,by omega,fun p hp=>?_,by omega,fun b hb=>?_⟩
 ·have:=jD g5 hp
  simp only [grV,decide_eq_false_iff_not] at this
  omega
 ·have hb':=jD g6 hb
  simp only [grB,Bool.or_eq_false_iff,decide_eq_false_iff_not] at hb'
  obtain ⟨b1,b2,b3,b4,b5⟩:=hb'
  obtain ⟨k1,k2⟩:=hk f hf b hb
  refine ⟨by omega,fun s hs=>?_,ry b3 k2,by omega⟩
  have hs':=jD b5 hs
  simp only [grS,Bool.or_eq_false_iff] at hs'
  exact ry hs'.1 (k1 s hs)
theorem pM {P:Pi} {f:Int} (h:chE P f=0) {g:Fn} (hg:P[f.toNat]?=some g):GdF P g:=by
 obtain ⟨e0,_⟩:=iF h
 exact (kE e0).2.2.2 g (DO hg)
theorem nH (P:Pi) (f:Int):(ntL P f).length≤4000000∧∀ x∈ntL P f,x.length≤4000000:=by
 unfold ntL
 split
 ·rename_i h
  split
  ·rename_i g hg
   have G:=pM h hg
   refine ⟨by have:=G.n2;simp;omega,fun x hx=>?_⟩
   obtain ⟨b,hb,rfl⟩:=DZ.1 hx
   have:=G.to2 b hb
   have:=jU b.to
   omega
  ·simp
 ·simp
theorem t7 (P:Pi) (f:Int):(orL P f).length≤4000000:=by
 unfold orL
 split
 ·rename_i h
  split
  ·rename_i g hg
   have G:=pM h hg
   obtain ⟨o1,o2,o3,_⟩:=t0 G.n1 (iX G)
   have:=cq _ o1 o3
   have:=G.n2
   unfold pk;omega
  ·simp
 ·simp
theorem uV (P:Pi) (f:Int):(dmL P f).length≤4000000:=by
 unfold dmL
 split
 ·rename_i h
  split
  ·rename_i g hg
   have G:=pM h hg
   have:=G.n2
   simp [nrL];omega
  ·simp
 ·simp
theorem w4 (P:Pi) (f:Int) (hz:szI P≤4000000) (hk:kdI P):Pure Tryz.prog 4 [.agg (piE P),.int .i64 f] (.bool true):=by
 refine Pure.of fun nx=>AC.go aI is4 (by simp) ?_
 have w5':=w5 P hz
 unfold piE at w5' ⊢
 simp -implicitDefEqProofs only [RA,ae,zp,↓reduceIte,reduceCtorEq,zq,zr,zs,zt,↓ay,↓az,↓ar,↓aq,↓aw,↓au,↓ak,↓aj,↓aC,↓aB,↓aE,↓aD,unA,ne_eq,not_true_eq_false,not_false_eq_true,A4,A4p]
 refine w5'.use fun k1 hk1=>?_
 cases hg:grI P
 case true =>
  simp -implicitDefEqProofs only [RA,ae,zp,↓reduceIte,reduceCtorEq,zq,zr,zs,zt,↓ay,↓az,↓ar,↓aq,↓aw,↓au,↓ak,↓aj,↓aC,↓aB,↓aE,↓aD,unA,ne_eq,not_true_eq_false,not_false_eq_true,R4]
 have ho:=BL hg hk
 have w6':=w6 P ho
 have w11':=w11 P f ho
 have w12':=w12 P f ho
 have w13':=w13 P f ho
 have w14':=w14 P f ho
 have w15':=w15 P f ho
 have w16':=w16 P f ho
 have w17':=w17 (ntL P f) (nH P f).1 (nH P f).2
 have w18a:=w18 ((orL P f).map fun x:Nat=>(x:Int)) (by rw [DX];exact t7 P f)
 have w18b:=w18 (dmL P f) (uV P f)
 rw [← uG] at w18a
 have w10':=w10 P ho.1 ho.2
 unfold piE at w6' w11' w12' w13' w14' w15' w16'
 simp -implicitDefEqProofs only [RA,ae,zp,↓reduceIte,reduceCtorEq,zq,zr,zs,zt,↓ay,↓az,↓ar,↓aq,↓aw,↓au,↓ak,↓aj,↓aC,↓aB,↓aE,↓aD,unA,ne_eq,not_true_eq_false,not_false_eq_true]
 refine w6'.use fun k2 hk2=>?_
 have a1:(k2=nx)=False:=eq_false (by omega)
 simp -implicitDefEqProofs only [RA,ae,zp,↓reduceIte,reduceCtorEq,zq,zr,zs,zt,↓ay,↓az,↓ar,↓aq,↓aw,↓au,↓ak,↓aj,↓aC,↓aB,↓aE,↓aD,unA,ne_eq,not_true_eq_false,not_false_eq_true,a1]
 refine w11'.use fun k3 hk3=>?_
 simp -implicitDefEqProofs only [RA,ae,zp,↓reduceIte,reduceCtorEq,zq,zr,zs,zt,↓ay,↓az,↓ar,↓aq,↓aw,↓au,↓ak,↓aj,↓aC,↓aB,↓aE,↓aD,unA,ne_eq,not_true_eq_false,not_false_eq_true,a1]
 refine w12'.use fun k4 hk4=>?_
 simp -implicitDefEqProofs only [RA,ae,zp,↓reduceIte,reduceCtorEq,zq,zr,zs,zt,↓ay,↓az,↓ar,↓aq,↓aw,↓au,↓ak,↓aj,↓aC,↓aB,↓aE,↓aD,unA,ne_eq,not_true_eq_false,not_false_eq_true,a1]
 refine w13'.use fun k5 hk5=>?_
 simp -implicitDefEqProofs only [RA,ae,zp,↓reduceIte,reduceCtorEq,zq,zr,zs,zt,↓ay,↓az,↓ar,↓aq,↓aw,↓au,↓ak,↓aj,↓aC,↓aB,↓aE,↓aD,unA,ne_eq,not_true_eq_false,not_false_eq_true,a1]
 refine w14'.use fun k6 hk6=>?_
 simp -implicitDefEqProofs only [RA,ae,zp,↓reduceIte,reduceCtorEq,zq,zr,zs,zt,↓ay,↓az,↓ar,↓aq,↓aw,↓au,↓ak,↓aj,↓aC,↓aB,↓aE,↓aD,unA,ne_eq,not_true_eq_false,not_false_eq_true,a1]
 refine w15'.use fun k7 hk7=>?_
 simp -implicitDefEqProofs only [RA,ae,zp,↓reduceIte,reduceCtorEq,zq,zr,zs,zt,↓ay,↓az,↓ar,↓aq,↓aw,↓au,↓ak,↓aj,↓aC,↓aB,↓aE,↓aD,unA,ne_eq,not_true_eq_false,not_false_eq_true,a1]
 refine w16'.use fun k8 hk8=>?_
 simp -implicitDefEqProofs only [RA,ae,zp,↓reduceIte,reduceCtorEq,zq,zr,zs,zt,↓ay,↓az,↓ar,↓aq,↓aw,↓au,↓ak,↓aj,↓aC,↓aB,↓aE,↓aD,unA,ne_eq,not_true_eq_false,not_false_eq_true,a1]
 refine w17'.use fun k9 hk9=>?_
 simp -implicitDefEqProofs only [RA,ae,zp,↓reduceIte,reduceCtorEq,zq,zr,zs,zt,↓ay,↓az,↓ar,↓aq,↓aw,↓au,↓ak,↓aj,↓aC,↓aB,↓aE,↓aD,unA,ne_eq,not_true_eq_false,not_false_eq_true,a1]
 refine w18a.use fun k10 hk10=>?_
 simp -implicitDefEqProofs only [RA,ae,zp,↓reduceIte,reduceCtorEq,zq,zr,zs,zt,↓ay,↓az,↓ar,↓aq,↓aw,↓au,↓ak,↓aj,↓aC,↓aB,↓aE,↓aD,unA,ne_eq,not_true_eq_false,not_false_eq_true,a1]
 refine w18b.use fun k11 hk11=>?_
 simp -implicitDefEqProofs only [RA,ae,zp,↓reduceIte,reduceCtorEq,zq,zr,zs,zt,↓ay,↓az,↓ar,↓aq,↓aw,↓au,↓ak,↓aj,↓aC,↓aB,↓aE,↓aD,unA,ne_eq,not_true_eq_false,not_false_eq_true,a1]
 refine w10'.use fun k12 hk12=>?_
 simp -implicitDefEqProofs only [RA,ae,zp,↓reduceIte,reduceCtorEq,zq,zr,zs,zt,↓ay,↓az,↓ar,↓aq,↓aw,↓au,↓ak,↓aj,↓aC,↓aB,↓aE,↓aD,unA,ne_eq,not_true_eq_false,not_false_eq_true,a1,R4]
end Go.Proofs.YtkhjclmfbmfahaaGreatDoor
namespace Go.Ab
open List renaming getElem?_eq_getElem → DN, mem_of_getElem? → DO, getElem?_eq_some_iff → DP, take_of_length_le → DQ, length_map → DX, mem_map → DZ, all_eq_true → D4, map_append → D7, mem_cons → D8, mem_append → D9, nil_append → Ef, getElem?_map → Ej, map_cons → El
open Option renaming map_some → EB
open Bool renaming and_eq_true → EF
open Nat renaming le_refl → EQ
set_option maxHeartbeats 64000000
open Go.RowKit Go.ChangeShapes Go.Proofs.YtkhjclmfbmfahaaGreatDoor.Rows
set_option linter.unusedVariables false
set_option linter.unusedSimpArgs false
mutual
def avz:AV→Nat
 | .str s=>s.length+1
 | .lst _ es=>fv es+1
 | .agg cs=>cF cs+1
 | .tup cs=>cF cs+1
 | .fp cs=>cF cs+1
 | _=>1
def cF:List AV→Nat
 | []=>0
 | x::r=>avz x+cF r
def fv:List (List AV)→Nat
 | []=>0
 | x::r=>cF x+fv r
end
theorem oE:∀ a b:List AV,cF (a++b)=cF a+cF b
 | [],b=>by simp [cF]
 | x::a,b=>by simp only [List.cons_append,cF,oE a b];omega
theorem oB {H:Type}:∀ (es:List (List AV)) (ps:List (DataW H)),es.length=ps.length→(∀ (i:Nat) x d,es[i]?=some x→ps[i]?=some d→cF x≤uptoBulk d)→fv es≤uptoBulkAll ps
 | [],_,_,_=>by simp [fv]
 | x::es,[],h,_=>by simp at h
 | x::es,d::ps,h,hb=>by
  have h1:=hb 0 x d rfl rfl
  have h2:=oB es ps (by simpa using h) fun i y e hy he=>hb (i+1) y e (by simpa using hy) (by simpa using he)
  simp only [fv,uptoBulkAll];omega
section
variable {H:Type} {enc:TypeId × Value→H} {P:Program} {K:Wd} {base:Nat} {spare:Nat→Bool} {held:Bool}
theorem ri {S:List TypeId} (hS:okS P S=true) (hK:Old K):∀ (fuel:Nat) (t:TypeId) (cs:List Value) (x:DataW H × List MemPlace),t∈S→DataW.trod enc P K.w base spare held fuel t cs=some x →
  ∃ xs,AT P fuel t xs∧CR K 0 xs cs∧cF xs≤uptoBulk x.1:=by
 intro fuel
 induction fuel with
 | zero=>intro t cs x _ h;simp [DataW.trod] at h
 | succ n ih =>
  intro t cs x ht h
  have hok:=D4.1 hS t ht
  have fields:∀ (ts:List (TypeId × Nat)) (ps:List (DataW H × List MemPlace)) (cs:List Value) (o:Nat),(∀ q∈ts,q.1∈S∧q.2=P.cellsOf q.1)→ps.length=ts.length→cs.length=o+(ts.map (·.2)).sum →
    (∀ i q,ts[i]?=some q→DataW.trod enc P K.w base spare held n q.1 ((cs.drop (o+((ts.take i).map (·.2)).sum)).take q.2)=ps[i]?)→∃ xs,ATl (AT P n) (ts.map (·.1)) xs∧CR K 0 xs (cs.drop o)∧cF xs≤uptoBulkAll (ps.map (·.1)):=by
   intro ts
   induction ts with
   | nil =>
    intro ps cs o _ _ hl _
    refine ⟨[],rfl,?_,by simp [cF]⟩
    rw [List.drop_of_length_le (by simp at hl;omega)];exact .nil _ _
   | cons q ts ihs =>
    intro ps cs o hq hu hl hf
    match ps,hu with
    | y::ps,hu =>
    have hy:=hf 0 q rfl
    simp only [List.take_zero,List.map_nil,List.sum_nil,Nat.add_zero,List.getElem?_cons_zero] at hy
    obtain ⟨ys,h1,h2,h2b⟩:=ih _ _ _ (hq q List.mem_cons_self).1 hy
    obtain ⟨zs,h3,h4,h4b⟩:=ihs ps cs (o+q.2) (fun r hr=>hq r (List.mem_cons_of_mem _ hr)) (by simpa using hu) (by rw [hl];simp;omega) (fun i r hr=>by
     have hy':=hf (i+1) r (by simpa using hr)
     rw [List.getElem?_cons_succ] at hy'
     rw [← hy']
     simp only [List.take_succ_cons,El,List.sum_cons,Nat.add_assoc])
    refine ⟨ys++zs,⟨ys,zs,rfl,h1,h3⟩,?_,by rw [oE,El,uptoBulkAll];omega⟩
    have:cs.drop o=(cs.drop o).take q.2++cs.drop (o+q.2):=by
     rw [← List.drop_drop,List.take_append_drop]
    rw [this]
    exact h2.append h4
  simp only [AT]
  cases hu:P.underlying t with
  | none=>simp [hu] at hok
  | some d =>
   simp only [hu] at hok
   cases d <;> simp only at hok <;> first|(cases hok;done)|skip
   case bool =>
    obtain ⟨b,rfl,rfl⟩:=DataW.trod_bool hu h
    exact ⟨[.bool b],⟨b,rfl⟩,.single (.bool b) rfl,by simp [cF,avz,uptoBulk]⟩
   case int k =>
    obtain ⟨i,rfl,rfl,hw⟩:=DataW.trod_int hu h
    exact ⟨[.int k i],⟨i,rfl,hw⟩,.single (.int k i) rfl,by simp [cF,avz,uptoBulk]⟩
   case string =>
    obtain ⟨s,rfl,rfl,hw⟩:=DataW.trod_string hu h
    exact ⟨[.str s.data.toList],⟨_,rfl,by simpa using hw⟩,.single (.str _ s rfl) rfl,by simp [cF,avz,uptoBulk]⟩
   case pointer e =>
    have he:e∈S:=by simpa using hok
    rcases DataW.trod_pointer hu h with ⟨rfl,rfl⟩|⟨a,cs',y,m,hm,rfl,rfl,hc,hy⟩
    ·exact ⟨[.nilP],.inl rfl,.single .nilP rfl,by simp [cF,avz,uptoBulk]⟩
    ·obtain rfl:m=n:=by omega
     obtain ⟨ys,h1,h2,h2b⟩:=ih e cs' y he hy
     obtain ⟨h3,h4⟩:=jm hc
     refine ⟨[.fp ys],.inr ⟨ys,rfl,h1⟩,.single (.fp ys a (fun k=>cs'.getD k undef) h2.one (fun k hk=>?_) fun j x hx=>?_) rfl,by simp only [cF,avz,uptoBulk];omega⟩
     ·have hkl:k<cs'.length:=by rw [h2.len];exact hk
      have:=h4 k (by omega)
      rw [DN hkl] at this
      refine ⟨by simp only [this,List.getD_eq_getElem?_getD,DN hkl,Option.getD_some],hK _ _ ?_⟩
      exact mK this
     ·have hj:=(DP.1 hx).1
      have hjl:j<cs'.length:=by rw [h2.len];exact hj
      refine h2.at_ j x _ hx ?_
      simp only [List.getD_eq_getElem?_getD,DN hjl,Option.getD_some]
   case slice e =>
    have he:e∈S:=by simpa using hok
    rcases DataW.trod_slice hu h with ⟨rfl,rfl⟩|⟨a,len,cap,elems,rest,m,hm,rfl,hx,_,hlc,hcap,hlen,hel,_,_⟩
    ·exact ⟨[.lst (P.cellsOf e) []],⟨[],rfl,by simp,fun x hx=>by simp at hx⟩,.single (.lst0 _ _ _ _ _ rfl rfl fun _=>rfl) rfl,by simp [cF,avz,fv,uptoBulk]⟩
    ·obtain rfl:m=n:=by omega
     obtain ⟨es,h1,h2⟩:=jM (α:=List AV) (p:=fun i xs=>AT P m e xs∧∃ cs,K.w.cells? base (a.add (i*P.cellsOf e)) (P.cellsOf e)=some cs∧CR K 0 xs cs∧∀ d,elems[i]?=some d→cF xs≤uptoBulk d.1) len fun i hi=>by
      have h3:=hel i hi
      have hy:elems[i]?=some (elems[i]'(by omega)):=DN (by omega)
      rw [hy] at h3
      obtain ⟨cs,h4,h5⟩:=Option.bind_eq_some_iff.1 h3
      obtain ⟨xs,h6,h7,h8⟩:=ih e cs _ he h5
      exact ⟨xs,h6,cs,h4,h7,fun d hd=>by rw [hy] at hd;injection hd with hd;subst hd;exact h8⟩
     have hlenE:∀ (i:Nat) (x:List AV),es[i]?=some x→x.length=P.cellsOf e:=fun i x hx=>by
      obtain ⟨_,cs,h4,h5,_⟩:=h2 i x hx
      rw [← h5.len];exact (jm h4).1
     have hbk:fv es≤uptoBulkAll (elems.map (·.1)):=oB es _ (by rw [DX,hlen,h1]) fun i x d hx hd=>by
      rw [Ej] at hd
      cases hel:elems[i]? with
      | none=>rw [hel] at hd;cases hd
      | some y =>
       rw [hel] at hd;simp only [EB,Option.some.injEq] at hd;subst hd
       obtain ⟨_,_,_,_,h6⟩:=h2 i x hx
       exact h6 y hel
     refine ⟨[.lst (P.cellsOf e) es],⟨es,rfl,by omega,fun x hx=>?_⟩,.single ?_ rfl,by rw [hx];simp only [cF,avz,uptoBulk];omega⟩
     ·obtain ⟨i,hi⟩:=List.getElem?_of_mem hx
      exact ⟨hlenE i x hi,(h2 i x hi).1⟩
     ·refine .lst _ es a len cap (fun k=>(K.w.cell? (a.add k)).getD undef) h1.symm hlc hcap hlenE (fun i x hx j y hy=>?_) (fun k hk=>?_) fun i x hx j y hy=>?_
      ·obtain ⟨_,cs,h4,h5,_⟩:=h2 i x hx
       exact h5.one j y hy
      ·have hpos:0<P.cellsOf e:=by
        rcases Nat.eq_zero_or_pos (P.cellsOf e) with h|h
        ·rw [h] at hk;simp at hk
        ·exact h
       have hi:k / P.cellsOf e<len:=by rw [Nat.div_lt_iff_lt_mul hpos];exact hk
       have hx:es[k / P.cellsOf e]?=some (es[k / P.cellsOf e]'(by omega)):=DN (by omega)
       obtain ⟨_,cs,h4,h5,_⟩:=h2 _ _ hx
       obtain ⟨h6,h7⟩:=jm h4
       have hmod:k % P.cellsOf e<P.cellsOf e:=Nat.mod_lt _ hpos
       have h8:=h7 (k % P.cellsOf e) hmod
       rw [DN (by omega)] at h8
       have h9:=rV _ _ _ _ _ h8
       rw [Nat.mul_comm,Nat.div_add_mod] at h9
       exact ⟨by rw [h9];rfl,hK _ _ (mK h9)⟩
      ·obtain ⟨_,cs,h4,h5,_⟩:=h2 i x hx
       obtain ⟨h6,h7⟩:=jm h4
       have hj:=(DP.1 hy).1
       have hjl:j<cs.length:=by rw [h5.len];exact hj
       have h8:=h7 j (by omega)
       rw [DN hjl] at h8
       have h9:=rV _ _ _ _ _ h8
       rw [h9]
       exact h5.at_ j y _ hy (DN hjl)
   case struct fs =>
    simp only [EF,D4,beq_iff_eq] at hok
    obtain ⟨hmem,htile⟩:=hok
    obtain ⟨ys,m,hm,rfl,hl,hyl,hf⟩:=DataW.trod_struct hu h
    obtain rfl:m=n:=by omega
    have off:∀ (l:List Field) (o r:Nat),nA P o l=some r→r=o+(l.map fun f=>P.cellsOf f.type).sum∧∀ i f,l[i]?=some f→f.offset=o+((l.take i).map fun f=>P.cellsOf f.type).sum:=by
     intro l
     induction l with
     | nil=>intro o r h;simp only [nA,Option.some.injEq] at h;subst h;exact ⟨by simp,fun i f h=>by simp at h⟩
     | cons f l ihl =>
      intro o r h
      simp only [nA] at h
      split at h
      ·rename_i ho
       obtain ⟨h1,h2⟩:=ihl _ _ h
       refine ⟨by rw [h1];simp;omega,fun i g hg=>?_⟩
       cases i with
       | zero=>simp at hg;subst hg;simpa using ho
       | succ i=>rw [h2 i g (by simpa using hg)];simp;omega
      ·cases h
    obtain ⟨h1,h2⟩:=off fs.toList 0 _ htile
    have hmm:∀ (l:List Field),(l.map fun f=>(f.type,P.cellsOf f.type)).map (·.1)=l.map (·.type):=fun l=>by simp
    obtain ⟨xs,h3,h4,h4b⟩:=fields (fs.toList.map fun f=>(f.type,P.cellsOf f.type)) ys cs 0 (fun q hq=>by
      obtain ⟨f,hf,rfl⟩:=DZ.1 hq
      exact ⟨by simpa using hmem f hf,rfl⟩) (by rw [DX,hyl];simp) (by rw [hl,h1,List.map_map];rfl) (fun i q hq=>by
      rw [Ej] at hq
      cases hfi:fs.toList[i]? with
      | none=>rw [hfi] at hq;cases hq
      | some f =>
       rw [hfi] at hq
       simp only [EB,Option.some.injEq] at hq;subst hq
       have hfi':fs[i]?=some f:=by simpa using hfi
       have h5:=hf i f hfi'
       rw [← h5,h2 i f hfi,← List.map_take,List.map_map];rfl)
    rw [hmm] at h3
    exact ⟨xs,h3,by simpa using h4,by simp only [uptoBulk];omega⟩
   case array m e =>
    simp only [EF,beq_iff_eq] at hok
    obtain ⟨hmem,hsz⟩:=hok
    obtain ⟨ys,m',hm,rfl,hl,hyl,hf⟩:=DataW.trod_array hu h
    obtain rfl:m'=n:=by omega
    have hsum:∀ k,((List.replicate k (e,P.cellsOf e)).map (·.2)).sum=k*P.cellsOf e:=fun k=>by simp
    obtain ⟨xs,h3,h4,h4b⟩:=fields (List.replicate m (e,P.cellsOf e)) ys cs 0 (fun q hq=>by
      have:q=(e,P.cellsOf e):=(List.mem_replicate.1 hq).2
      subst this
      exact ⟨by simpa using hmem,rfl⟩) (by rw [List.length_replicate];exact hyl) (by rw [hl,hsz,hsum];omega) (fun i q hq=>by
      have hi:i<m:=by have:=(DP.1 hq).1;simpa using this
      have:q=(e,P.cellsOf e):=(List.mem_replicate.1 (DO hq)).2
      subst this
      have h5:=hf i hi
      rw [← h5,List.take_replicate,hsum,Nat.min_eq_left (by omega),Nat.zero_add])
    refine ⟨xs,?_,by simpa using h4,by simp only [uptoBulk];omega⟩
    simpa using h3
theorem ve {S:List TypeId} (hS:okS P S=true) {W:World} {t:TypeId} {v:Value} {d:DataW H} {p:List MemPlace} (ht:t∈S) (hone:∀ c,v≠.agg c) (h:DataW.Trod enc P W base spare held t v d p) :
  ∃ n x,AT P n t [x]∧VR (wd0 W) 0 x v∧avz x≤uptoBulk d:=by
 obtain ⟨fuel,hf⟩:=h
 obtain ⟨xs,h1,h2,h3⟩:=ri (K:=wd0 W) hS (Old.wd0 W) fuel t _ _ ht hf
 have hc:v.cells.toList=[v]:=by cases v <;> first|rfl|exact absurd rfl (hone _)
 rw [hc] at h2
 have hl:=h2.len
 match xs,hl with
 | [x],_=>exact ⟨fuel,x,h1,h2.at_ 0 x v rfl rfl,by simpa [cF] using h3⟩
theorem vf {S:List TypeId} (hS:okS P S=true) {W:World} {t:TypeId} {c:Array Value} {d:DataW H} {p:List MemPlace} (ht:t∈S) (h:DataW.Trod enc P W base spare held t (.agg c) d p) :
  ∃ n xs,AT P n t xs∧VR (wd0 W) 0 (.agg xs) (.agg c)∧cF xs≤uptoBulk d:=by
 obtain ⟨fuel,hf⟩:=h
 obtain ⟨xs,h1,h2,h3⟩:=ri (K:=wd0 W) hS (Old.wd0 W) fuel t _ _ ht hf
 exact ⟨fuel,xs,h1,h2.toAgg',h3⟩
end
end Go.Ab
namespace Go.Proofs.YtkhjclmfbmfahaaGreatDoor
open List renaming getElem?_eq_getElem → DN, mem_of_getElem? → DO, getElem?_eq_some_iff → DP, take_of_length_le → DQ, length_map → DX, mem_map → DZ, all_eq_true → D4, map_append → D7, mem_cons → D8, mem_append → D9, nil_append → Ef, getElem?_map → Ej, map_cons → El
open Option renaming map_some → EB
open Bool renaming and_eq_true → EF
open Nat renaming le_refl → EQ
set_option maxHeartbeats 64000000
open Go Go.Ab Go.Proofs
open Nat renaming reduceEqDiff → zp, reduceAdd → zq, reduceLeDiff → zr, reduceLT → zs, reduceBEq → zt
open Go.ChangeShapes Go.WideShapes Go.ChangeAt Go.RowKit
set_option linter.unusedVariables false
set_option maxRecDepth 100000
theorem ownK:ownKnob Tryz.prog.godebug=none:=by kernel_rfl
theorem xD:laidOutB Tryz.prog=true:=by kernel_rfl
theorem fA {n:Nat} {y:List AV} {t:TypeId} {k:IntKind} (hu:Tryz.prog.underlying t=some (.int k)) (h:AT Tryz.prog n t y):∃ a:Int,y=[.int k a]∧(Lit.int k a).wf=true:=by
 cases n with
 | zero=>exact h.elim
 | succ n =>
  simp only [AT,hu] at h
  exact h
theorem Bb {a:Int} (h:(Lit.int .u8 a).wf=true):0≤a∧a<256:=by
 simp [Lit.wf,IntKind.min,IntKind.max,IntKind.signed,IntKind.bits] at h;omega
theorem zv {a:Int} (h:(Lit.int .u64 a).wf=true):0≤a∧a<18446744073709551616:=by
 simp [Lit.wf,IntKind.min,IntKind.max,IntKind.signed,IntKind.bits] at h;omega
theorem jC {n:Nat} {y:List AV} (h:AT Tryz.prog n 9 y):∃ s:Nm,y=[.str s]:=by
 cases n with
 | zero=>exact h.elim
 | succ n =>
  simp only [AT,Tryz.underlying9] at h
  obtain ⟨s,h1,h2⟩:=h
  exact ⟨s,h1⟩
theorem oF {n:Nat} {y:List AV} {t e:TypeId} {sz:Nat} (hu:Tryz.prog.underlying t=some (.slice e)) (hc:Tryz.prog.cellsOf e=sz) (h:AT Tryz.prog (n+1) t y):∃ es,y=[.lst sz es]∧∀ x∈es,AT Tryz.prog n e x:=by
 simp only [AT,hu] at h
 obtain ⟨es,h1,h2,h3⟩:=h
 rw [hc] at h1
 exact ⟨es,h1,fun x hx=>(h3 x hx).2⟩
theorem mF {α:Type} {f:α→List AV} {p:α→Prop}:∀ (es:List (List AV)),(∀ x∈es,∃ a,x=f a∧p a)→∃ l:List α,es=l.map f∧∀ a∈l,p a
 | [],_=>⟨[],rfl,by simp⟩
 | e::es,h=>by
  obtain ⟨l,hl,hp⟩:=mF es fun x hx=>h x (List.mem_cons_of_mem _ hx)
  obtain ⟨a,ha,hq⟩:=h e List.mem_cons_self
  exact ⟨a::l,by rw [hl,ha];rfl,fun b hb=>by
   rcases D8.1 hb with e|e
   ·subst e;exact hq
   ·exact hp b e⟩
theorem lY {n:Nat} {y:List AV} {t e:TypeId} {sz:Nat} {α:Type} {f:α→List AV} {p:α→Prop} (hu:Tryz.prog.underlying t=some (.slice e)) (hc:Tryz.prog.cellsOf e=sz) (hf:∀ (n:Nat) (x:List AV),AT Tryz.prog n e x→∃ a,x=f a∧p a) (h:AT Tryz.prog n t y):∃ l:List α,y=[.lst sz (l.map f)]∧∀ a∈l,p a:=by
 cases n with
 | zero=>exact h.elim
 | succ n =>
  obtain ⟨es,rfl,hes⟩:=oF hu hc h
  obtain ⟨l,rfl,hp⟩:=mF (f:=f) (p:=p) es fun x hx=>hf n x (hes x hx)
  exact ⟨l,rfl,hp⟩
theorem Bl {k w b:Int} {n:Nm} {lo:Int} {l:List Tm} (hk:kdN (.mk k w b n lo l)) (hl:∀ x∈l,kdT x):kdT (.mk k w b n lo l):=by
 intro y hy
 rw [eR] at hy
 rcases D8.1 hy with e|e
 ·subst e;exact hk
 ·have key:∀ m:List Tm,(∀ x∈m,kdT x)→y∈bL m→kdN y:=by
   intro m
   induction m with
   | nil=>intro _ h;simp [bL] at h
   | cons a r ih =>
    intro hm h
    rw [bL] at h
    rcases D9.1 h with e|e
    ·exact hm a (by simp) y e
    ·exact ih (fun x hx=>hm x (List.mem_cons_of_mem _ hx)) e
  exact key l hl e
theorem pQ:∀ n:Nat,(∀ y,AT Tryz.prog n 119 y→∃ x:Tm,y=tmE x∧kdT x)∧(∀ y,AT Tryz.prog n 60 y→∃ l:List Tm,y=[bg l]∧∀ x∈l,kdT x)
 | 0=>⟨fun y h=>h.elim,fun y h=>h.elim⟩
 | n+1=>by
  obtain ⟨ih1,ih2⟩:=pQ n
  refine ⟨fun y h=>?_,fun y h=>?_⟩
  ·simp only [AT,Tryz.underlying119] at h
   obtain ⟨y1,z1,rfl,h1,y2,z2,rfl,h2,y3,z3,rfl,h3,y4,z4,rfl,h4,y5,z5,rfl,h5,y6,z6,rfl,h6,h7⟩:=h
   subst h7
   obtain ⟨k,rfl,r1⟩:=fA Tryz.underlying5 h1
   obtain ⟨w,rfl,_⟩:=fA Tryz.underlying3 h2
   obtain ⟨b,rfl,r2⟩:=fA Tryz.underlying76 h3
   obtain ⟨nm,rfl⟩:=jC h4
   obtain ⟨o,rfl,_⟩:=fA Tryz.underlying3 h5
   obtain ⟨l,rfl,hl⟩:=ih2 _ h6
   have r1:=Bb r1
   have r2:=zv r2
   exact ⟨.mk k w b nm o l,by rw [gu];rfl,Bl ⟨r1.1,r1.2,r2.1,r2.2⟩ hl⟩
  ·obtain ⟨es,rfl,hes⟩:=oF Tryz.underlying60 (show Tryz.prog.cellsOf 119=6 by kernel_rfl) h
   obtain ⟨l,rfl,hl⟩:=mF (f:=tmE) (p:=kdT) es fun x hx=>ih1 x (hes x hx)
   exact ⟨l,rfl,hl⟩
theorem Cd (n:Nat) (y:List AV) (h:AT Tryz.prog n 102 y):∃ s:St,y=stE s∧∀ t∈s.terms,kdT t:=by
 cases n with
 | zero=>exact h.elim
 | succ n =>
  simp only [AT,Tryz.underlying102] at h
  obtain ⟨y1,z1,rfl,h1,y2,z2,rfl,h2,y3,z3,rfl,h3,y4,z4,rfl,h4,h5⟩:=h
  subst h5
  obtain ⟨k,rfl,_⟩:=fA Tryz.underlying5 h1
  obtain ⟨v,rfl⟩:=jC h2
  obtain ⟨f,rfl⟩:=jC h3
  obtain ⟨l,rfl,hl⟩:=(pQ n).2 _ h4
  exact ⟨⟨k,v,f,l⟩,rfl,hl⟩
theorem Aq (n:Nat) (y:List AV) (h:AT Tryz.prog n 3 y):∃ a:Int,y=inE a∧True:=by
 obtain ⟨a,h1,_⟩:=fA Tryz.underlying3 h
 exact ⟨a,h1,trivial⟩
theorem Cf (n:Nat) (y:List AV) (h:AT Tryz.prog n 64 y):∃ b:Bk,y=bkE b∧(∀ s∈b.steps,∀ t∈s.terms,kdT t)∧∀ t∈b.terms,kdT t:=by
 cases n with
 | zero=>exact h.elim
 | succ n =>
  simp only [AT,Tryz.underlying64] at h
  obtain ⟨y1,z1,rfl,h1,y2,z2,rfl,h2,h3⟩:=h
  subst h3
  obtain ⟨ss,rfl,hs⟩:=lY (f:=stE) (p:=fun s=>∀ t∈s.terms,kdT t) Tryz.underlying59 (show Tryz.prog.cellsOf 102=4 by kernel_rfl) Cd h1
  cases n with
  | zero=>exact h2.elim
  | succ n =>
   simp only [AT,Tryz.underlying62] at h2
   obtain ⟨x1,w1,rfl,g1,x2,w2,rfl,g2,x3,w3,rfl,g3,x4,w4,rfl,g4,g5⟩:=h2
   subst g5
   obtain ⟨k,rfl,_⟩:=fA Tryz.underlying5 g1
   obtain ⟨f,rfl⟩:=jC g2
   obtain ⟨l,rfl,hl⟩:=(pQ n).2 _ g3
   obtain ⟨to,rfl,_⟩:=lY (f:=inE) (p:=fun _=>True) Tryz.underlying44 (show Tryz.prog.cellsOf 3=1 by kernel_rfl) Aq g4
   exact ⟨⟨ss,k,f,l,to⟩,rfl,hs,hl⟩
theorem yP (n:Nat) (y:List AV) (h:AT Tryz.prog n 57 y):∃ v:Pm,y=pmE v∧True:=by
 cases n with
 | zero=>exact h.elim
 | succ n =>
  simp only [AT,Tryz.underlying57] at h
  obtain ⟨y1,z1,rfl,h1,y2,z2,rfl,h2,h3⟩:=h
  subst h3
  obtain ⟨nm,rfl⟩:=jC h1
  obtain ⟨w,rfl,_⟩:=fA Tryz.underlying3 h2
  exact ⟨(nm,w),rfl,trivial⟩
def kdF (f:Fn):Prop:=∀ b∈f.blocks,(∀ s∈b.steps,∀ t∈s.terms,kdT t)∧∀ t∈b.terms,kdT t
theorem Ce (n:Nat) (y:List AV) (h:AT Tryz.prog n 54 y):∃ f:Fn,y=fnE f∧kdF f:=by
 cases n with
 | zero=>exact h.elim
 | succ n =>
  simp only [AT,Tryz.underlying54] at h
  obtain ⟨y1,z1,rfl,h1,y2,z2,rfl,h2,y3,z3,rfl,h3,y4,z4,rfl,h4,y5,z5,rfl,h5,h6⟩:=h
  subst h6
  obtain ⟨nm,rfl⟩:=jC h1
  obtain ⟨ps,rfl,_⟩:=lY (f:=pmE) (p:=fun _=>True) Tryz.underlying51 (show Tryz.prog.cellsOf 57=2 by kernel_rfl) yP h2
  obtain ⟨r,rfl,_⟩:=fA Tryz.underlying3 h3
  obtain ⟨ls,rfl,_⟩:=lY (f:=pmE) (p:=fun _=>True) Tryz.underlying51 (show Tryz.prog.cellsOf 57=2 by kernel_rfl) yP h4
  obtain ⟨bs,rfl,hb⟩:=lY (f:=bkE) (p:=fun b=>(∀ s∈b.steps,∀ t∈s.terms,kdT t)∧∀ t∈b.terms,kdT t) Tryz.underlying52 (show Tryz.prog.cellsOf 64=5 by kernel_rfl) Cf h5
  exact ⟨⟨nm,ps,r,ls,bs⟩,rfl,hb⟩
theorem xo {n:Nat} {y:List AV} (h:AT Tryz.prog n 24 y):∃ P:Pi,y=piE P∧kdI P:=by
 cases n with
 | zero=>exact h.elim
 | succ n =>
  simp only [AT,Tryz.underlying24] at h
  obtain ⟨y1,z1,rfl,h1,h2⟩:=h
  subst h2
  obtain ⟨fs,rfl,hf⟩:=lY (f:=fnE) (p:=kdF) Tryz.underlying22 (show Tryz.prog.cellsOf 54=5 by kernel_rfl) Ce h1
  exact ⟨fs,rfl,hf⟩
theorem ua {n:Nat} {x:AV} (h:AT Tryz.prog n 3 [x]):∃ a:Int,x=.int .i64 a:=by
 obtain ⟨a,h1,_⟩:=fA Tryz.underlying3 h
 exact ⟨a,by simpa using h1⟩
mutual
theorem B8:∀ x:Tm,szT x≤cF (tmE x)
 | .mk k w b n o s=>by
  have:=pP s
  simp only [tmE,szT,cF,avz];omega
theorem pP:∀ l:List Tm,bD l≤fv (oZ l)
 | []=>by simp [bD]
 | x::r=>by
  have:=B8 x
  have:=pP r
  simp only [oZ,bD,fv];omega
end
theorem rQ (l:List Tm):bD l≤fv (l.map tmE):=by have:=pP l;rwa [j0] at this
theorem mQ {α:Type} {f:α→List AV} (h:∀ a,1≤cF (f a)):∀ l:List α,l.length≤fv (l.map f)
 | []=>by simp
 | x::r=>by
  have:=mQ h r
  have:=h x
  simp only [El,List.length_cons,fv];omega
theorem mP {α:Type} {f:α→List AV} {g:α→Nat} (h:∀ a,g a≤cF (f a)):∀ l:List α,bw g l≤fv (l.map f)
 | []=>by simp [bw]
 | x::r=>by
  have:=mP h r
  have:=h x
  simp only [El,bw,fv];omega
theorem B9 (s:St):szS s≤cF (stE s):=by
 have:=rQ s.terms
 simp only [szS,stE,bg,cF,avz];omega
theorem Cc (b:Bk):szB b≤cF (bkE b):=by
 have h1:=mP B9 b.steps
 have h2:=rQ b.terms
 have h3:=mQ (f:=inE) (fun a=>by simp [inE,cF,avz]) b.to
 simp only [szB,iO,bkE,fD,bg,bT,cF,avz];omega
theorem Cb (f:Fn):szF f≤cF (fnE f):=by
 have h1:=mP Cc f.blocks
 have h2:=mQ (f:=pmE) (fun a=>by simp [pmE,cF,avz]) f.params
 have h3:=mQ (f:=pmE) (fun a=>by simp [pmE,cF,avz]) f.locals
 simp only [szF,fnE,bh,cg,cF,avz];omega
theorem Ca (P:Pi):szI P≤cF (piE P):=by
 have h1:=mP Cb P
 simp only [szI,piE,bU,cF,avz];omega
def iT:List (Nm × Int × Int):=[([],0,0),([],0,0),([],0,0),([110,111,116],1,1),([110,101,103],1,1),([97,100,100],2,1),([115,117,98],2,1),([109,117,108],2,1),([97,110,100],2,1),([111,114],2,1),([120,111,114],2,1),([115,104,108],2,1),([115,104,114],2,1),([115,97,114],2,1),([117,100,105,118],2,1),([117,114,101,109],2,1),([101,113],2,2),([117,108,116],2,2),([115,108,116],2,2),([105,116,101],3,3),([99,111,110,99,97,116],2,4),([101,120,116,114,97,99,116],1,5),([122,101,120,116],1,6),([115,101,120,116],1,6),([108,111,97,100],1,7)]
theorem xJ:GL 0=some (iT.map fun r=>[AV.str r.1,.int .i64 r.2.1,.int .i64 r.2.2]).flatten:=rfl
theorem sP:(Rows.laid_retarget_term_shapes:DataW Unit)=.agg (iT.map fun r=>.agg [.lit (.string r.1),.lit (.int .i64 r.2.1),.lit (.int .i64 r.2.2)]):=rfl
theorem rz:Tryz.prog.globalNamed "retarget/term.shapes" = some 0:=by kernel_rfl
theorem nX:(Tryz.prog.globals[0]?).map (·.type)=some 166:=by kernel_rfl
theorem Am:Tryz.prog.cellsOf 9=1:=by kernel_rfl
theorem An:Tryz.prog.cellsOf 3=1:=by kernel_rfl
theorem oA:Tryz.prog.cellsOf 162=3:=by kernel_rfl
section
variable {w:World} {base:Nat} {spare:Nat→Bool} {held:Bool}
theorem sy {fuel:Nat} {cs:List Value} {a:Nm} {b c:Int} {p:List MemPlace} (h:DataW.trod (fun _=>()) Tryz.prog w base spare held fuel 162 cs=some (.agg [.lit (.string a),.lit (.int .i64 b),.lit (.int .i64 c)],p)) :
  ∃ s:ByteArray,cs=[.string s,.int .i64 b,.int .i64 c]∧s.data.toList=a:=by
 obtain ⟨xs,m,rfl,hx,hl,hn,hf⟩:=DataW.trod_struct Tryz.underlying162 h
 rw [oA] at hl
 obtain ⟨v0,v1,v2,rfl⟩:∃ v0 v1 v2,cs=[v0,v1,v2]:=by
  match cs,hl with
  | [v0,v1,v2],_=>exact ⟨_,_,_,rfl⟩
 simp only [Prod.mk.injEq,DataW.agg.injEq] at hx
 obtain ⟨hx,_⟩:=hx
 have hg:∀ i:Nat,(xs.map (·.1))[i]?=([.lit (.string a),.lit (.int .i64 b),.lit (.int .i64 c)]:List (DataW Unit))[i]?:=fun i=>by rw [← hx]
 have h0:=hf 0 { name := "word",type:=9,offset:=0,embedded:=false,tag := "",pkgPath := "retarget/term",byteOffset:=0 } rfl
 have h1:=hf 1 { name := "parts",type:=3,offset:=1,embedded:=false,tag := "",pkgPath := "retarget/term",byteOffset:=16 } rfl
 have h2:=hf 2 { name := "how",type:=3,offset:=2,embedded:=false,tag := "",pkgPath := "retarget/term",byteOffset:=24 } rfl
 dsimp only at h0 h1 h2
 rw [Am] at h0
 rw [An] at h1 h2
 simp only [List.drop_zero,List.take_succ_cons,List.take_zero,List.drop_succ_cons] at h0 h1 h2
 have g0:=hg 0
 have g1:=hg 1
 have g2:=hg 2
 rw [Ej] at g0 g1 g2
 cases e0:xs[0]? with
 | none=>rw [e0] at g0;cases g0
 | some x0 =>
 cases e1:xs[1]? with
 | none=>rw [e1] at g1;cases g1
 | some x1 =>
 cases e2:xs[2]? with
 | none=>rw [e2] at g2;cases g2
 | some x2 =>
 rw [e0] at h0 g0
 rw [e1] at h1 g1
 rw [e2] at h2 g2
 obtain ⟨s,q0,r0,_⟩:=DataW.trod_string Tryz.underlying9 h0
 obtain ⟨n1,q1,r1,_⟩:=DataW.trod_int Tryz.underlying3 h1
 obtain ⟨n2,q2,r2,_⟩:=DataW.trod_int Tryz.underlying3 h2
 subst r0;subst r1;subst r2
 simp at g0 g1 g2 q0 q1 q2
 subst g1;subst g2;subst q0;subst q1;subst q2
 exact ⟨s,rfl,g0⟩
theorem tP {fuel:Nat} {cs:List Value} {p:List MemPlace} (h:DataW.trod (fun _=>()) Tryz.prog w base spare held fuel 166 cs=some (Rows.laid_retarget_term_shapes,p)) {i:Nat} {r:Nm × Int × Int} (hr:iT[i]?=some r) :
  ∃ s:ByteArray,(cs.drop (i*3)).take 3=[.string s,.int .i64 r.2.1,.int .i64 r.2.2]∧s.data.toList=r.1:=by
 obtain ⟨xs,m,rfl,hx,hl,hn,hf⟩:=DataW.trod_array Tryz.underlying166 h
 rw [sP] at hx
 simp only [Prod.mk.injEq,DataW.agg.injEq] at hx
 obtain ⟨hx,_⟩:=hx
 have hi:i<25:=by
  have:=(DP.1 hr).1
  exact this
 have hg:(xs.map (·.1))[i]?=some (.agg [.lit (.string r.1),.lit (.int .i64 r.2.1),.lit (.int .i64 r.2.2)]):=by rw [← hx,Ej,hr];rfl
 rw [Ej] at hg
 have h1:=hf i hi
 rw [oA] at h1
 cases e:xs[i]? with
 | none=>rw [e] at hg;cases hg
 | some x =>
  rw [e] at hg h1
  obtain ⟨d,ps⟩:=x
  simp only [EB,Option.some.injEq] at hg
  subst hg
  exact sy h1
end
theorem xC {W:World} {laid:List (String × DataW Unit)} (hlaid:laid=[("retarget/term.shapes",Rows.laid_retarget_term_shapes)]) (h:laidMet Tryz.prog laid W):GlR (wd0 W) 0:=by
 subst hlaid
 obtain ⟨ps,⟨g',t',cs,fuel,p,q,hg',ht',hvar,hd,_,_⟩,_⟩:=h
 obtain rfl:=Option.some.inj (rz.symm.trans hg')
 obtain rfl:=Option.some.inj (nX.symm.trans ht')
 intro g gcs hgl
 have hg0:g=0:=by
  unfold GL at hgl
  split at hgl
  ·assumption
  ·cases hgl
 subst hg0
 rw [xJ] at hgl
 simp only [Option.some.injEq] at hgl
 subst hgl
 have hall:∀ z∈iT.map fun r=>[AV.str r.1,.int .i64 r.2.1,.int .i64 r.2.2],z.length=3:=fun z hz=>by
  obtain ⟨r,_,rfl⟩:=DZ.1 hz;rfl
 have hlen:(iT.map fun r=>[AV.str r.1,.int .i64 r.2.1,.int .i64 r.2.2]).flatten.length=75:=rfl
 have key:∀ j,j<75→∃ (r:Nm × Int × Int) (s:ByteArray) (v:Value) (x:AV),iT[j / 3]?=some r∧s.data.toList=r.1∧cs[j]?=some v∧([.string s,.int .i64 r.2.1,.int .i64 r.2.2]:List Value)[j % 3]?=some v∧([AV.str r.1,.int .i64 r.2.1,.int .i64 r.2.2])[j % 3]?=some x∧(iT.map fun r=>[AV.str r.1,.int .i64 r.2.1,.int .i64 r.2.2]).flatten[j]?=some x:=by
  intro j hj
  have hjl:j / 3<iT.length:=by show j / 3<25;omega
  obtain ⟨r,hr⟩:∃ r,iT[j / 3]?=some r:=⟨_,DN hjl⟩
  obtain ⟨s,h1,h2⟩:=tP hd hr
  have hm:j % 3<3:=Nat.mod_lt _ (by omega)
  have hj3:j / 3*3+j % 3=j:=by omega
  have hv:(cs.toList)[j]?=([.string s,.int .i64 r.2.1,.int .i64 r.2.2]:List Value)[j % 3]?:=by
   rw [← h1,List.getElem?_take,if_pos hm,List.getElem?_drop,hj3]
  have e1:=DN (l:=([.string s,.int .i64 r.2.1,.int .i64 r.2.2]:List Value)) (show j % 3<3 from hm)
  have e2:=DN (l:=[AV.str r.1,.int .i64 r.2.1,.int .i64 r.2.2]) (show j % 3<3 from hm)
  refine ⟨r,s,_,_,hr,h2,?_,e1,e2,?_⟩
  ·rw [← e1,← hv];simp
  ·have:=fq hall (j / 3) _ (by rw [Ej,hr];rfl) (j % 3) _ e2
   rwa [hj3] at this
 refine .fp _ _ (fun j=>cs[j]?.getD undef) (fun j x hx=>?_) (fun k hk=>?_) (fun j x hx=>?_)
 ·have hj:j<75:=by rw [← hlen];exact (DP.1 hx).1
  obtain ⟨r,s,v,y,h1,h2,h3,h4,h5,h6⟩:=key j hj
  rw [h6] at hx
  cases hx
  match hq:j % 3,h5 with
  | 0,h5=>simp at h5;subst h5;rfl
  | 1,h5=>simp at h5;subst h5;rfl
  | 2,h5=>simp at h5;subst h5;rfl
  | k+3,h5=>omega
 ·rw [hlen] at hk
  obtain ⟨r,s,v,y,h1,h2,h3,h4,h5,h6⟩:=key k hk
  have hc:=World.var?_cell rz hvar k
  rw [h3] at hc
  have hc2:(wd0 W).w.cell? ((⟨0,0,none⟩:Addr).add k)=some v:=by rw [cH,Nat.zero_add];exact hc
  exact ⟨by rw [h3];exact hc2,Old.wd0 W _ _ (mK hc2)⟩
 ·have hj:j<75:=by rw [← hlen];exact (DP.1 hx).1
  obtain ⟨r,s,v,y,h1,h2,h3,h4,h5,h6⟩:=key j hj
  rw [h6] at hx
  cases hx
  rw [h3]
  match hq:j % 3,h4,h5 with
  | 0,h4,h5=>simp at h4 h5;subst h4;subst h5;exact .str _ _ h2
  | 1,h4,h5=>simp at h4 h5;subst h4;subst h5;exact .int _ _
  | 2,h4,h5=>simp at h4 h5;subst h4;subst h5;exact .int _ _
  | k+3,h4,h5=>omega
end Go.Proofs.YtkhjclmfbmfahaaGreatDoor
