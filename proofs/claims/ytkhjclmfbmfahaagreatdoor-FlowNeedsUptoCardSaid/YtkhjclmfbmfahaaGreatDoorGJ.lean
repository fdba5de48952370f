/- The reference's: Find, arguments, closed. -/
import Derived.Test.YtkhjclmfbmfahaaGreatDoorGI
namespace Go.Proofs.YtkhjclmfbmfahaaGreatDoor
open List renaming getElem?_eq_getElem → Fo, mem_of_getElem? → Fp, take_of_length_le → Fs, mem_map → Fy
open Bool renaming true_and → Ge, false_and → Gf, and_false → Gj, true_or → Gl, or_true → Gn
open Int renaming reduceEq → Gy
set_option maxHeartbeats 64000000
open Go Go.Ab Go.Proofs
open Nat renaming reduceEqDiff → zp, reduceAdd → zq, reduceLeDiff → zr, reduceLT → zs, reduceBEq → zt
set_option linter.unusedVariables false
set_option linter.unusedSimpArgs false
set_option maxRecDepth 20000
def fdF:Int→Pi→Nm→Int × Int
 | _,[],_=>(0,6)
 | i,f::r,n=>if f.name=n then (i,0) else fdF (i+1) r n
theorem jg (n:Nm):∀ (P:Pi) (i:Int),(fnO P n=none∧fdF i P n=(0,6))∨∃ (j:Nat) (g:Fn),P[j]?=some g∧fnO P n=some g∧fdF i P n=(i+j,0)∧n∉(P.take j).map (·.name)
 | [],i=>.inl ⟨rfl,rfl⟩
 | f::r,i=>by
  rw [fdF,fnO,List.find?_cons]
  by_cases e:f.name=n
  ·rw [if_pos e]
   exact .inr ⟨0,f,rfl,by simp [e],by simp,by simp⟩
  ·have:(f.name==n)=false:=by simpa using e
   rw [if_neg e,this]
   rcases jg n r (i+1) with ⟨h1,h2⟩|⟨j,g,h1,h2,h3,h4⟩
   ·exact .inl ⟨h1,h2⟩
   ·exact .inr ⟨j+1,g,by simpa using h1,h2,by rw [h3];congr 1;omega,by simpa using ⟨fun h=>e h.symm,by simpa using h4⟩⟩
theorem im (s t:Nm):(s==t)=decide (s=t):=by by_cases h:s=t <;> simp [h]
theorem w68 (P:Pi) (n:Nm) (hP:P.length≤4000000):Pure Tryz.prog 68 [.agg (piE P),.str n] (.tup [.int .i64 (fdF 0 P n).1,.int .i64 (fdF 0 P n).2]):=by
 refine Pure.of fun nx=>AC.go aI is68 (by simp) ?_
 have lv:=cX P
 unfold piE
 simp -implicitDefEqProofs only [RA,ae,zp,↓reduceIte,reduceCtorEq,zq,zr,zs,zt,↓aA,↓az,↓au,↓ar,↓ay,↓aw,↓ak,↓aj,↓aC,↓aB,↓aE,↓aD,unA,ne_eq,not_true_eq_false,not_false_eq_true,aG,aN,A68,Ey,lv]
 refine aJ (fun q st=>∃ i:Nat,q=P.length-i∧i≤P.length∧ah st.env 1=some (.str n)∧ah st.env 2=some (.op nx 0)∧ah st.env 6=some (.int .i64 i)∧aq st.heap nx=some (.cells [bM P])∧fdF 0 P n=fdF i (P.drop i) n∧st.dm=[]) (n:=P.length) aI
  ⟨0,rfl,by omega,by simp [ah],by simp [ah],by simp [ah],by (simp only;repeat (first|rw [af,if_pos rfl]|rw [af,if_neg (by omega)])),rfl,rfl⟩ ?_
 rintro q ⟨env,heap,nx',dm⟩ ⟨i,rfl,hi,g1,g2,g6,gs,ha,hdm⟩
 simp only at g1 g2 g6 gs ha hdm
 subst hdm
 have f1:=wS (i:=i) (by omega)
 by_cases hc:(i:Int)<(P.length:Int)
 case neg =>
  rw [show P.drop i=[] from List.drop_eq_nil_of_le (by omega)] at ha
  rw [ha]
  simp -implicitDefEqProofs only [RA,ae,zp,↓reduceIte,reduceCtorEq,zq,zr,zs,zt,↓aA,↓az,↓au,↓ar,↓ay,↓aw,↓ak,↓aj,↓aC,↓aB,↓aE,↓aD,unA,ne_eq,not_true_eq_false,not_false_eq_true,aG,aN,sk,nw,g1,g2,g6,gs,hc,lv,fdF,R68]
 have hr:=Fo (show i<P.length by omega)
 generalize P[i]=f at hr
 have ix:=cL hr
 rw [bN] at ix
 rw [bA hr,fdF] at ha
 rcases ai (f.name=n) with ⟨c1,d1⟩|⟨c1,d1⟩
 ·rw [if_pos c1] at ha
  rw [ha]
  simp -implicitDefEqProofs only [RA,ae,zp,↓reduceIte,reduceCtorEq,zq,zr,zs,zt,↓aA,↓az,↓au,↓ar,↓ay,↓aw,↓ak,↓aj,↓aC,↓aB,↓aE,↓aD,unA,ne_eq,not_true_eq_false,not_false_eq_true,aG,aN,sk,nw,g1,g2,g6,gs,hc,lv,ix,im,d1,R68]
 ·rw [if_neg c1] at ha
  simp -implicitDefEqProofs only [RA,ae,zp,↓reduceIte,reduceCtorEq,zq,zr,zs,zt,↓aA,↓az,↓au,↓ar,↓ay,↓aw,↓ak,↓aj,↓aC,↓aB,↓aE,↓aD,unA,ne_eq,not_true_eq_false,not_false_eq_true,aG,aN,sk,nw,g1,g2,g6,gs,hc,lv,ix,im,d1,f1]
  exact ⟨P.length-(i+1),by omega,i+1,rfl,by omega,rfl,by rw [ha];congr 1⟩
def rsR (P:Pi) (n:Nm):Int:=match fnO P n with|some g=>g.result|none=>-1
theorem w89 (P:Pi) (n:Nm) (hP:P.length≤4000000):Pure Tryz.prog 89 [.agg (piE P),.str n] (.int .i64 (rsR P n)):=by
 refine Pure.of fun nx=>AC.go aI is89 (by simp) ?_
 have w:=w68 P n hP
 unfold piE at w ⊢
 simp -implicitDefEqProofs only [RA,ae,zp,↓reduceIte,reduceCtorEq,zq,zr,zs,zt,↓aA,↓az,↓au,↓ar,↓ay,↓aw,↓ak,↓aj,↓aC,↓aB,↓aE,↓aD,unA,ne_eq,not_true_eq_false,not_false_eq_true,aG,aN,A89,El]
 refine w.use fun k1 hk1=>?_
 unfold rsR
 rcases jg n P 0 with ⟨h1,h2⟩|⟨j,g,h1,h2,h3,_⟩
 ·rw [h1,h2]
  simp -implicitDefEqProofs only [RA,ae,zp,↓reduceIte,reduceCtorEq,zq,zr,zs,zt,↓aA,↓az,↓au,↓ar,↓ay,↓aw,↓ak,↓aj,↓aC,↓aB,↓aE,↓aD,unA,ne_eq,not_true_eq_false,not_false_eq_true,aG,aN,Gy,R89]
 ·rw [h2,h3]
  have e:(0:Int)+(j:Int)=(j:Int):=by omega
  have ix:=cL h1
  rw [bN] at ix
  simp -implicitDefEqProofs only [RA,ae,zp,↓reduceIte,reduceCtorEq,zq,zr,zs,zt,↓aA,↓az,↓au,↓ar,↓ay,↓aw,↓ak,↓aj,↓aC,↓aB,↓aE,↓aD,unA,ne_eq,not_true_eq_false,not_false_eq_true,aG,aN,Gy,e,ix,R89]
theorem w88 (P:Pi) (f:Fn) (n:Nm) (args:List Tm) (hP:okP P) (h1:f.params.length≤4000000) (h2:f.locals.length≤4000000) (ha:jC args):Pure Tryz.prog 88 [.agg (piE P),.agg (fnE f),.str n,bg args] (.bool (clB (ftR f.vars) P n args)):=by
 refine Pure.of fun nx=>AC.go aI is88 (by simp) ?_
 have w:=w68 P n hP.1
 have n1:(nx+1=nx)=False:=eq_false (by omega)
 have la:=bw args
 have ff:=bN f
 unfold piE at w ⊢
 rw [ff]
 simp -implicitDefEqProofs only [RA,ae,zp,↓reduceIte,reduceCtorEq,zq,zr,zs,zt,↓aA,↓az,↓au,↓ar,↓ay,↓aw,↓ak,↓aj,↓aC,↓aB,↓aE,↓aD,unA,ne_eq,not_true_eq_false,not_false_eq_true,aG,aN,A88,Em,n1]
 refine w.use fun k1 hk1=>?_
 rcases jg n P 0 with ⟨e1,e2⟩|⟨j,g,e1,e2,e3,_⟩
 ·have hc:clB (ftR f.vars) P n args=false:=by rw [clB,e1]
  rw [hc,e2]
  simp -implicitDefEqProofs only [RA,ae,zp,↓reduceIte,reduceCtorEq,zq,zr,zs,zt,↓aA,↓az,↓au,↓ar,↓ay,↓aw,↓ak,↓aj,↓aC,↓aB,↓aE,↓aD,unA,ne_eq,not_true_eq_false,not_false_eq_true,aG,aN,Gy,R88]
 rw [e3]
 have e:(0:Int)+(j:Int)=(j:Int):=by omega
 have hgp:=(hP.2 g (Fp e1)).1
 have ix:=cL e1
 rw [bN] at ix
 have lp:=bW g.params
 rcases ai ((args.length:Int)=(g.params.length:Int)) with ⟨c1,d1⟩|⟨c1,d1⟩
 case inr =>
  have hc:clB (ftR f.vars) P n args=false:=by rw [clB,e2];simp only;rw [decide_eq_false (by omega),Gf]
  rw [hc]
  simp -implicitDefEqProofs only [RA,ae,zp,↓reduceIte,reduceCtorEq,zq,zr,zs,zt,↓aA,↓az,↓au,↓ar,↓ay,↓aw,↓ak,↓aj,↓aC,↓aB,↓aE,↓aD,unA,ne_eq,not_true_eq_false,not_false_eq_true,aG,aN,Gy,e,ix,la,lp,d1,n1,R88]
 have c1':args.length=g.params.length:=by omega
 have hc:clB (ftR f.vars) P n args=zpB (ftR f.vars) args g.params:=by rw [clB,e2];simp only;rw [decide_eq_true c1',Ge]
 rw [hc]
 simp -implicitDefEqProofs only [RA,ae,zp,↓reduceIte,reduceCtorEq,zq,zr,zs,zt,↓aA,↓az,↓au,↓ar,↓ay,↓aw,↓ak,↓aj,↓aC,↓aB,↓aE,↓aD,unA,ne_eq,not_true_eq_false,not_false_eq_true,aG,aN,Gy,e,ix,la,lp,d1,n1]
 refine aJ (fun q st=>∃ i:Nat,q=args.length-i∧i≤args.length∧ah st.env 3=some (bg args)∧ah st.env 4=some (.op nx 0)∧ah st.env 5=some (.op (nx+1) 0)∧ah st.env 9=some (.int .i64 j)∧ah st.env 11=some (.int .i64 i)∧aq st.heap nx=some (.cells [bM P])∧aq st.heap (nx+1)=some (.cells [.str f.name,bp f.params,.int .i64 f.result,bp f.locals,cp f.blocks])∧zpB (ftR f.vars) args g.params=zpB (ftR f.vars) (args.drop i) (g.params.drop i)∧st.dm=[]) (n:=args.length) aI
  ⟨0,rfl,by omega,by simp [ah],by simp [ah],by simp [ah],by simp [ah],by simp [ah],by (simp only;repeat (first|rw [af,if_pos rfl]|rw [af,if_neg (by omega)])),by (simp only;repeat (first|rw [af,if_pos rfl]|rw [af,if_neg (by omega)])),rfl,rfl⟩ ?_
 rintro q ⟨env,heap,nx',dm⟩ ⟨i,rfl,hi,g3,g4,g5,g9,g11,gs,gf,hz,hdm⟩
 simp only at g3 g4 g5 g9 g11 gs gf hz hdm
 subst hdm
 have hal:=ha.1
 have f1:=wS (i:=i) (by omega)
 by_cases hcc:(i:Int)<(args.length:Int)
 case neg =>
  rw [show args.drop i=[] from List.drop_eq_nil_of_le (by omega)] at hz
  rw [hz]
  simp -implicitDefEqProofs only [RA,ae,zp,↓reduceIte,reduceCtorEq,zq,zr,zs,zt,↓aA,↓az,↓au,↓ar,↓ay,↓aw,↓ak,↓aj,↓aC,↓aB,↓aE,↓aD,unA,ne_eq,not_true_eq_false,not_false_eq_true,aG,aN,wG,qm,g3,g4,g5,g9,g11,gs,gf,hcc,la,zpB,R88]
 have hr:=Fo (show i<g.params.length by omega)
 generalize g.params[i]=r at hr
 have hx:=Fo (show i<args.length by omega)
 generalize args[i]=x at hx
 have ixp:=dG hr
 have ixx:=bh hx
 rw [jA] at ixp
 have xl:=aY x
 have xt:=aU x
 obtain ⟨ha1,ha2⟩:=ha.2 x (Fp hx)
 rw [bA hr,bA hx] at hz
 have hzp':zpB (ftR f.vars) args g.params=(ftR f.vars x r.2&&zpB (ftR f.vars) (args.drop (i+1)) (g.params.drop (i+1))):=hz
 have w86':=w86 f x r.2 h1 h2 ha1 ha2
 rw [ff] at w86'
 simp -implicitDefEqProofs only [RA,ae,zp,↓reduceIte,reduceCtorEq,zq,zr,zs,zt,↓aA,↓az,↓au,↓ar,↓ay,↓aw,↓ak,↓aj,↓aC,↓aB,↓aE,↓aD,unA,ne_eq,not_true_eq_false,not_false_eq_true,aG,aN,wG,qm,g3,g4,g5,g9,g11,gs,gf,hcc,la,ix,ixp,ixx,xl,xt]
 refine w86'.use fun k2 hk2=>?_
 cases hb:ftR f.vars x r.2
 ·rw [hzp',hb,Gf]
  simp -implicitDefEqProofs only [RA,ae,zp,↓reduceIte,reduceCtorEq,zq,zr,zs,zt,↓aA,↓az,↓au,↓ar,↓ay,↓aw,↓ak,↓aj,↓aC,↓aB,↓aE,↓aD,unA,ne_eq,not_true_eq_false,not_false_eq_true,aG,aN,R88]
 ·rw [hb,Ge] at hzp'
  simp -implicitDefEqProofs only [RA,ae,zp,↓reduceIte,reduceCtorEq,zq,zr,zs,zt,↓aA,↓az,↓au,↓ar,↓ay,↓aw,↓ak,↓aj,↓aC,↓aB,↓aE,↓aD,unA,ne_eq,not_true_eq_false,not_false_eq_true,aG,aN,g3,g4,g5,g9,g11,gs,gf,f1]
  exact ⟨args.length-(i+1),by omega,i+1,rfl,by omega,rfl,hzp'⟩
theorem sP {V:List Pm} {r:Pm} (h:clV V=true) (h3:∀ p∈V,p.1≠r.1):r.1∉V.map (·.1):=fun hm=>by
 obtain ⟨p,hp,e⟩:=Fy.1 hm
 exact h3 p hp e
theorem w79 (f:Fn) (h1:f.params.length≤4000000) (h2:f.locals.length≤4000000) (hN:∀ p∈f.vars,p.1.length≤100000):Pure Tryz.prog 79 [.agg (fnE f)] (.bool (clV f.vars)):=by
 refine Pure.of fun nx=>AC.go aI is79 (by simp) ?_
 have w:=w19 f h1 h2
 rw [bN] at w ⊢
 rw [show f.params++f.locals=f.vars from rfl] at w
 simp -implicitDefEqProofs only [RA,ae,zp,↓reduceIte,reduceCtorEq,zq,zr,zs,zt,↓aA,↓az,↓au,↓ar,↓ay,↓aw,↓ak,↓aj,↓aC,↓aB,↓aE,↓aD,unA,ne_eq,not_true_eq_false,not_false_eq_true,aG,aN,A79,Et]
 refine w.use fun k1 hk1=>?_
 have hVl:f.vars.length≤8000000:=by rw [Fn.vars,List.length_append];omega
 generalize f.vars=V at *
 have lv:=bW V
 simp -implicitDefEqProofs only [RA,ae,zp,↓reduceIte,reduceCtorEq,zq,zr,zs,zt,↓aA,↓az,↓au,↓ar,↓ay,↓aw,↓ak,↓aj,↓aC,↓aB,↓aE,↓aD,unA,ne_eq,not_true_eq_false,not_false_eq_true,aG,aN,lv]
 refine aJ (fun q st=>∃ i:Nat,q=V.length-i∧i≤V.length∧ah st.env 3=some (bp V)∧ah st.env 4=some (.int .i64 i)∧clV (V.take i)=true∧st.dm=[]) (n:=V.length) aI
  ⟨0,rfl,by omega,by simp [ah],by simp [ah],by simp [clV],rfl⟩ ?_
 rintro q ⟨env,heap,nx',dm⟩ ⟨i,rfl,hi,g3,g4,hcl,hdm⟩
 simp only at g3 g4 hcl hdm
 subst hdm
 have f1:=wS (i:=i) (by omega)
 by_cases hc:(i:Int)<(V.length:Int)
 case neg =>
  rw [show V.take i=V from Fs (by omega)] at hcl
  rw [hcl]
  simp -implicitDefEqProofs only [RA,ae,zp,↓reduceIte,reduceCtorEq,zq,zr,zs,zt,↓aA,↓az,↓au,↓ar,↓ay,↓aw,↓ak,↓aj,↓aC,↓aB,↓aE,↓aD,unA,ne_eq,not_true_eq_false,not_false_eq_true,aG,aN,wM,qp,g3,g4,lv,hc,R79]
 have hr:=Fo (show i<V.length by omega)
 generalize V[i]=r at hr
 have hmem:=Fp hr
 have ixr:=dG hr
 rw [jA] at ixr
 simp -implicitDefEqProofs only [RA,ae,zp,↓reduceIte,reduceCtorEq,zq,zr,zs,zt,↓aA,↓az,↓au,↓ar,↓ay,↓aw,↓ak,↓aj,↓aC,↓aB,↓aE,↓aD,unA,ne_eq,not_true_eq_false,not_false_eq_true,aG,aN,wM,qp,g3,g4,lv,hc,ixr]
 refine (tW r.1 (hN r hmem)).use fun k2 hk2=>?_
 cases hn:dI r.1
 ·rw [jl hmem (by rw [hn,Gf])]
  simp -implicitDefEqProofs only [RA,ae,zp,↓reduceIte,reduceCtorEq,zq,zr,zs,zt,↓aA,↓az,↓au,↓ar,↓ay,↓aw,↓ak,↓aj,↓aC,↓aB,↓aE,↓aD,unA,ne_eq,not_true_eq_false,not_false_eq_true,aG,aN,g3,g4,R79]
 simp -implicitDefEqProofs only [RA,ae,zp,↓reduceIte,reduceCtorEq,zq,zr,zs,zt,↓aA,↓az,↓au,↓ar,↓ay,↓aw,↓ak,↓aj,↓aC,↓aB,↓aE,↓aD,unA,ne_eq,not_true_eq_false,not_false_eq_true,aG,aN,g3,g4,ixr]
 refine (w84 r.2).use fun k3 hk3=>?_
 cases hw:wide r.2
 ·rw [jl hmem (by rw [hw,Gj])]
  simp -implicitDefEqProofs only [RA,ae,zp,↓reduceIte,reduceCtorEq,zq,zr,zs,zt,↓aA,↓az,↓au,↓ar,↓ay,↓aw,↓ak,↓aj,↓aC,↓aB,↓aE,↓aD,unA,ne_eq,not_true_eq_false,not_false_eq_true,aG,aN,g3,g4,R79]
 simp -implicitDefEqProofs only [RA,ae,zp,↓reduceIte,reduceCtorEq,zq,zr,zs,zt,↓aA,↓az,↓au,↓ar,↓ay,↓aw,↓ak,↓aj,↓aC,↓aB,↓aE,↓aD,unA,ne_eq,not_true_eq_false,not_false_eq_true,aG,aN,g3,g4,ixr]
 refine aJ (fun q st=>∃ j:Nat,q=i-j∧j≤i∧ah st.env 3=some (bp V)∧ah st.env 4=some (.int .i64 i)∧ah st.env 5=some (.int .i64 j)∧(∀ p∈V.take j,p.1≠r.1)∧st.dm=[]) (n:=i) aI
  ⟨0,rfl,by omega,by simp [ah,g3],by simp [ah,g4],by simp [ah],by simp,rfl⟩ ?_
 clear g3 g4
 rintro q ⟨env,heap,nx2,dm⟩ ⟨j,rfl,hj,g3,g4,g5,hb,hdm⟩
 simp only at g3 g4 g5 hb hdm
 subst hdm
 have f3:=wS (i:=j) (by omega)
 by_cases hcj:(j:Int)<(i:Int)
 case neg =>
  obtain rfl:j=i:=by omega
  simp -implicitDefEqProofs only [RA,ae,zp,↓reduceIte,reduceCtorEq,zq,zr,zs,zt,↓aA,↓az,↓au,↓ar,↓ay,↓aw,↓ak,↓aj,↓aC,↓aB,↓aE,↓aD,unA,ne_eq,not_true_eq_false,not_false_eq_true,aG,aN,sg,nq,g3,g4,g5,hcj,f1]
  refine ⟨V.length-(j+1),by omega,j+1,rfl,by omega,rfl,?_⟩
  rw [aQ hr]
  exact rX hcl hn hw (sP hcl hb)
 have hrj:=Fo (show j<V.length by omega)
 generalize V[j]=s at hrj
 have ixs:=dG hrj
 rw [jA] at ixs
 rcases ai (s.1=r.1) with ⟨c1,d1⟩|⟨c1,d1⟩
 ·rw [rW hr (Fy.2 ⟨s,Fp (show (V.take i)[j]?=some s by rw [List.getElem?_take_of_lt (by omega)];exact hrj),c1⟩)]
  simp -implicitDefEqProofs only [RA,ae,zp,↓reduceIte,reduceCtorEq,zq,zr,zs,zt,↓aA,↓az,↓au,↓ar,↓ay,↓aw,↓ak,↓aj,↓aC,↓aB,↓aE,↓aD,unA,ne_eq,not_true_eq_false,not_false_eq_true,aG,aN,sg,nq,g3,g4,g5,hcj,ixr,ixs,im,d1,R79]
 ·simp -implicitDefEqProofs only [RA,ae,zp,↓reduceIte,reduceCtorEq,zq,zr,zs,zt,↓aA,↓az,↓au,↓ar,↓ay,↓aw,↓ak,↓aj,↓aC,↓aB,↓aE,↓aD,unA,ne_eq,not_true_eq_false,not_false_eq_true,aG,aN,sg,nq,g3,g4,g5,hcj,ixr,ixs,im,d1,f3]
  refine ⟨i-(j+1),by omega,j+1,rfl,by omega,rfl,?_⟩
  intro p hp e
  rw [aQ hrj] at hp
  rcases List.mem_append.1 hp with hp|hp
  ·exact hb p hp e
  ·exact c1 (by rw [← List.mem_singleton.1 hp];exact e)
theorem w80 (P:Pi) (f:Fn) (s:St) (hP:okP P) (h1:f.params.length≤4000000) (h2:f.locals.length≤4000000) (ha:jC s.terms) (hV:∀ p∈f.vars,1≤p.2) :
  Pure Tryz.prog 80 [.agg (piE P),.agg (fnE f),.agg (stE s)] (.bool (stB (ftR f.vars) (ftZ f.vars) P f.vars s)):=by
 refine Pure.of fun nx=>AC.go aI is80 (by simp) ?_
 obtain ⟨k,var,fnc,ts⟩:=s
 simp only at ha
 have n1:(nx+1=nx)=False:=eq_false (by omega)
 have n2:(nx+1+1=nx)=False:=eq_false (by omega)
 have z0:((0:Nat):Int)=0:=rfl
 have z1:((1:Nat):Int)=1:=rfl
 have z2:((2:Nat):Int)=2:=rfl
 have lt:=bw ts
 have w85':=w85 f var h1 h2
 have hkn:=rM (n:=var) hV
 have w86':=fun (x:Tm) (w:Int) (hx:x∈ts)=>w86 f x w h1 h2 (ha.2 x hx).1 (ha.2 x hx).2
 have w87':=fun (x:Tm) (hx:x∈ts)=>w87 f x h1 h2 (ha.2 x hx).1 (ha.2 x hx).2
 have w88':=w88 P f fnc ts hP h1 h2 ha
 have w89':=w89 P fnc hP.1
 have ff:=bN f
 rw [ff] at w85' w86' w87' w88' ⊢
 rw [hkn] at w85'
 unfold piE at w88' w89' ⊢
 simp only [gq]
 unfold stB
 simp only
 simp -implicitDefEqProofs only [RA,ae,zp,↓reduceIte,reduceCtorEq,zq,zr,zs,zt,↓aA,↓az,↓au,↓ar,↓ay,↓aw,↓ak,↓aj,↓aC,↓aB,↓aE,↓aD,unA,ne_eq,not_true_eq_false,not_false_eq_true,aG,aN,am,Gy,n1,n2,z1,z2,z0,A80,Es,lt]
 refine w85'.use fun k1 hk1=>?_
 generalize f.vars=V at *
 rcases ai (k=1) with ⟨k1,j1⟩|⟨k1,j1⟩
 ·rw [if_pos k1]
  rcases ai (vw V var=0) with ⟨c1,d1⟩|⟨c1,d1⟩
  ·rw [decide_eq_false (p:=vw V var≠0) (by simp [c1]),Gf]
   simp -implicitDefEqProofs only [RA,ae,zp,↓reduceIte,reduceCtorEq,zq,zr,zs,zt,↓aA,↓az,↓au,↓ar,↓ay,↓aw,↓ak,↓aj,↓aC,↓aB,↓aE,↓aD,unA,ne_eq,not_true_eq_false,not_false_eq_true,aG,aN,am,Gy,n1,n2,z1,z2,z0,j1,lt,R80]
  rw [decide_eq_true (p:=vw V var≠0) c1,Ge]
  rcases ai (fnc=[]) with ⟨c2,d2⟩|⟨c2,d2⟩
  case inr =>
   rw [decide_eq_false c2,Gf]
   simp -implicitDefEqProofs only [RA,ae,zp,↓reduceIte,reduceCtorEq,zq,zr,zs,zt,↓aA,↓az,↓au,↓ar,↓ay,↓aw,↓ak,↓aj,↓aC,↓aB,↓aE,↓aD,unA,ne_eq,not_true_eq_false,not_false_eq_true,aG,aN,am,Gy,n1,n2,z1,z2,z0,j1,d2,lt,R80]
  rw [decide_eq_true c2,Ge]
  rcases ai ((ts.length:Int)=1) with ⟨c3,d3⟩|⟨c3,d3⟩
  case inr =>
   rw [gU (by omega)]
   simp -implicitDefEqProofs only [RA,ae,zp,↓reduceIte,reduceCtorEq,zq,zr,zs,zt,↓aA,↓az,↓au,↓ar,↓ay,↓aw,↓ak,↓aj,↓aC,↓aB,↓aE,↓aD,unA,ne_eq,not_true_eq_false,not_false_eq_true,aG,aN,am,Gy,n1,n2,z1,z2,z0,j1,d2,d3,lt,R80]
  obtain ⟨x,rfl⟩:=l1 (l:=ts) (by omega)
  have xl:=aY x
  have xt:=aU x
  have w:=w86' x (vw V var) (by simp)
  rw [gV]
  simp -implicitDefEqProofs only [RA,ae,zp,↓reduceIte,reduceCtorEq,zq,zr,zs,zt,↓aA,↓az,↓au,↓ar,↓ay,↓aw,↓ak,↓aj,↓aC,↓aB,↓aE,↓aD,unA,ne_eq,not_true_eq_false,not_false_eq_true,aG,aN,am,Gy,n1,n2,z1,z2,z0,j1,d2,d3,lt,ix1,xl,xt]
  refine w.use fun k2 hk2=>?_
  simp -implicitDefEqProofs only [RA,ae,zp,↓reduceIte,reduceCtorEq,zq,zr,zs,zt,↓aA,↓az,↓au,↓ar,↓ay,↓aw,↓ak,↓aj,↓aC,↓aB,↓aE,↓aD,unA,ne_eq,not_true_eq_false,not_false_eq_true,aG,aN,am,Gy,n1,n2,z1,z2,z0,R80]
 rw [if_neg k1]
 rcases ai (k=2) with ⟨k2,j2⟩|⟨k2,j2⟩
 ·rw [if_pos k2]
  rcases ai (var=[]) with ⟨c1,d1⟩|⟨c1,d1⟩
  case inr =>
   rw [decide_eq_false c1,Gf]
   simp -implicitDefEqProofs only [RA,ae,zp,↓reduceIte,reduceCtorEq,zq,zr,zs,zt,↓aA,↓az,↓au,↓ar,↓ay,↓aw,↓ak,↓aj,↓aC,↓aB,↓aE,↓aD,unA,ne_eq,not_true_eq_false,not_false_eq_true,aG,aN,am,Gy,n1,n2,z1,z2,z0,j1,j2,d1,lt,R80]
  rw [decide_eq_true c1,Ge]
  rcases ai (fnc=[]) with ⟨c2,d2⟩|⟨c2,d2⟩
  case inr =>
   rw [decide_eq_false c2,Gf]
   simp -implicitDefEqProofs only [RA,ae,zp,↓reduceIte,reduceCtorEq,zq,zr,zs,zt,↓aA,↓az,↓au,↓ar,↓ay,↓aw,↓ak,↓aj,↓aC,↓aB,↓aE,↓aD,unA,ne_eq,not_true_eq_false,not_false_eq_true,aG,aN,am,Gy,n1,n2,z1,z2,z0,j1,j2,d1,d2,lt,R80]
  rw [decide_eq_true c2,Ge]
  rcases ai ((ts.length:Int)=2) with ⟨c3,d3⟩|⟨c3,d3⟩
  case inr =>
   rw [uN (by omega)]
   simp -implicitDefEqProofs only [RA,ae,zp,↓reduceIte,reduceCtorEq,zq,zr,zs,zt,↓aA,↓az,↓au,↓ar,↓ay,↓aw,↓ak,↓aj,↓aC,↓aB,↓aE,↓aD,unA,ne_eq,not_true_eq_false,not_false_eq_true,aG,aN,am,Gy,n1,n2,z1,z2,z0,j1,j2,d1,d2,d3,lt,R80]
  obtain ⟨x,z,rfl⟩:=l2 (l:=ts) (by omega)
  have xl:=aY x
  have xt:=aU x
  have zl:=aY z
  have zt:=aU z
  have wx:=w87' x (by simp)
  have wz:=w86' z 32 (by simp)
  have e0:=aZ x
  have ez:=aZ z
  rw [uO]
  have ixx:idxA 6 (bg [x,z]) 0=some (.fp (tmE x)):=ix1 x [z]
  have ixz:=ix2 x z []
  rw [e0] at ixx xl xt wx
  rw [ez] at ixz zl zt wz
  rcases ai (x.width=8) with ⟨b1',b1⟩|⟨b1',b1⟩
  ·have hl:ldb x.width=true:=by unfold ldb;rw [decide_eq_true b1',Gl]
   rw [hl,Ge]
   simp -implicitDefEqProofs only [RA,ae,zp,↓reduceIte,reduceCtorEq,zq,zr,zs,zt,↓aA,↓az,↓au,↓ar,↓ay,↓aw,↓ak,↓aj,↓aC,↓aB,↓aE,↓aD,unA,ne_eq,not_true_eq_false,not_false_eq_true,aG,aN,am,Gy,n1,n2,z1,z2,z0,j1,j2,d1,d2,d3,lt,ixx,ixz,xl,xt,b1]
   refine wx.use fun k3 hk3=>?_
   cases hz:ftZ V x
   ·simp -implicitDefEqProofs only [RA,ae,zp,↓reduceIte,reduceCtorEq,zq,zr,zs,zt,↓aA,↓az,↓au,↓ar,↓ay,↓aw,↓ak,↓aj,↓aC,↓aB,↓aE,↓aD,unA,ne_eq,not_true_eq_false,not_false_eq_true,aG,aN,am,Gy,n1,n2,z1,z2,z0,Gf,R80]
   simp -implicitDefEqProofs only [RA,ae,zp,↓reduceIte,reduceCtorEq,zq,zr,zs,zt,↓aA,↓az,↓au,↓ar,↓ay,↓aw,↓ak,↓aj,↓aC,↓aB,↓aE,↓aD,unA,ne_eq,not_true_eq_false,not_false_eq_true,aG,aN,am,Gy,n1,n2,z1,z2,z0,lt,ixz,zl,zt,Ge]
   refine wz.use fun k4 hk4=>?_
   simp -implicitDefEqProofs only [RA,ae,zp,↓reduceIte,reduceCtorEq,zq,zr,zs,zt,↓aA,↓az,↓au,↓ar,↓ay,↓aw,↓ak,↓aj,↓aC,↓aB,↓aE,↓aD,unA,ne_eq,not_true_eq_false,not_false_eq_true,aG,aN,am,Gy,n1,n2,z1,z2,z0,R80]
  rcases ai (x.width=16) with ⟨b2',b2⟩|⟨b2',b2⟩
  ·have hl:ldb x.width=true:=by unfold ldb;rw [decide_eq_true b2',Gl,Gn]
   rw [hl,Ge]
   simp -implicitDefEqProofs only [RA,ae,zp,↓reduceIte,reduceCtorEq,zq,zr,zs,zt,↓aA,↓az,↓au,↓ar,↓ay,↓aw,↓ak,↓aj,↓aC,↓aB,↓aE,↓aD,unA,ne_eq,not_true_eq_false,not_false_eq_true,aG,aN,am,Gy,n1,n2,z1,z2,z0,j1,j2,d1,d2,d3,lt,ixx,ixz,xl,xt,b1,b2]
   refine wx.use fun k3 hk3=>?_
   cases hz:ftZ V x
   ·simp -implicitDefEqProofs only [RA,ae,zp,↓reduceIte,reduceCtorEq,zq,zr,zs,zt,↓aA,↓az,↓au,↓ar,↓ay,↓aw,↓ak,↓aj,↓aC,↓aB,↓aE,↓aD,unA,ne_eq,not_true_eq_false,not_false_eq_true,aG,aN,am,Gy,n1,n2,z1,z2,z0,Gf,R80]
   simp -implicitDefEqProofs only [RA,ae,zp,↓reduceIte,reduceCtorEq,zq,zr,zs,zt,↓aA,↓az,↓au,↓ar,↓ay,↓aw,↓ak,↓aj,↓aC,↓aB,↓aE,↓aD,unA,ne_eq,not_true_eq_false,not_false_eq_true,aG,aN,am,Gy,n1,n2,z1,z2,z0,lt,ixz,zl,zt,Ge]
   refine wz.use fun k4 hk4=>?_
   simp -implicitDefEqProofs only [RA,ae,zp,↓reduceIte,reduceCtorEq,zq,zr,zs,zt,↓aA,↓az,↓au,↓ar,↓ay,↓aw,↓ak,↓aj,↓aC,↓aB,↓aE,↓aD,unA,ne_eq,not_true_eq_false,not_false_eq_true,aG,aN,am,Gy,n1,n2,z1,z2,z0,R80]
  rcases ai (x.width=32) with ⟨b3',b3⟩|⟨b3',b3⟩
  ·have hl:ldb x.width=true:=by unfold ldb;rw [decide_eq_true b3',Gl,Gn,Gn]
   rw [hl,Ge]
   simp -implicitDefEqProofs only [RA,ae,zp,↓reduceIte,reduceCtorEq,zq,zr,zs,zt,↓aA,↓az,↓au,↓ar,↓ay,↓aw,↓ak,↓aj,↓aC,↓aB,↓aE,↓aD,unA,ne_eq,not_true_eq_false,not_false_eq_true,aG,aN,am,Gy,n1,n2,z1,z2,z0,j1,j2,d1,d2,d3,lt,ixx,ixz,xl,xt,b1,b2,b3]
   refine wx.use fun k3 hk3=>?_
   cases hz:ftZ V x
   ·simp -implicitDefEqProofs only [RA,ae,zp,↓reduceIte,reduceCtorEq,zq,zr,zs,zt,↓aA,↓az,↓au,↓ar,↓ay,↓aw,↓ak,↓aj,↓aC,↓aB,↓aE,↓aD,unA,ne_eq,not_true_eq_false,not_false_eq_true,aG,aN,am,Gy,n1,n2,z1,z2,z0,Gf,R80]
   simp -implicitDefEqProofs only [RA,ae,zp,↓reduceIte,reduceCtorEq,zq,zr,zs,zt,↓aA,↓az,↓au,↓ar,↓ay,↓aw,↓ak,↓aj,↓aC,↓aB,↓aE,↓aD,unA,ne_eq,not_true_eq_false,not_false_eq_true,aG,aN,am,Gy,n1,n2,z1,z2,z0,lt,ixz,zl,zt,Ge]
   refine wz.use fun k4 hk4=>?_
   simp -implicitDefEqProofs only [RA,ae,zp,↓reduceIte,reduceCtorEq,zq,zr,zs,zt,↓aA,↓az,↓au,↓ar,↓ay,↓aw,↓ak,↓aj,↓aC,↓aB,↓aE,↓aD,unA,ne_eq,not_true_eq_false,not_false_eq_true,aG,aN,am,Gy,n1,n2,z1,z2,z0,R80]
  rcases ai (x.width=64) with ⟨b4',b4⟩|⟨b4',b4⟩
  ·have hl:ldb x.width=true:=by unfold ldb;rw [decide_eq_true b4',Gn,Gn,Gn]
   rw [hl,Ge]
   simp -implicitDefEqProofs only [RA,ae,zp,↓reduceIte,reduceCtorEq,zq,zr,zs,zt,↓aA,↓az,↓au,↓ar,↓ay,↓aw,↓ak,↓aj,↓aC,↓aB,↓aE,↓aD,unA,ne_eq,not_true_eq_false,not_false_eq_true,aG,aN,am,Gy,n1,n2,z1,z2,z0,j1,j2,d1,d2,d3,lt,ixx,ixz,xl,xt,b1,b2,b3,b4]
   refine wx.use fun k3 hk3=>?_
   cases hz:ftZ V x
   ·simp -implicitDefEqProofs only [RA,ae,zp,↓reduceIte,reduceCtorEq,zq,zr,zs,zt,↓aA,↓az,↓au,↓ar,↓ay,↓aw,↓ak,↓aj,↓aC,↓aB,↓aE,↓aD,unA,ne_eq,not_true_eq_false,not_false_eq_true,aG,aN,am,Gy,n1,n2,z1,z2,z0,Gf,R80]
   simp -implicitDefEqProofs only [RA,ae,zp,↓reduceIte,reduceCtorEq,zq,zr,zs,zt,↓aA,↓az,↓au,↓ar,↓ay,↓aw,↓ak,↓aj,↓aC,↓aB,↓aE,↓aD,unA,ne_eq,not_true_eq_false,not_false_eq_true,aG,aN,am,Gy,n1,n2,z1,z2,z0,lt,ixz,zl,zt,Ge]
   refine wz.use fun k4 hk4=>?_
   simp -implicitDefEqProofs only [RA,ae,zp,↓reduceIte,reduceCtorEq,zq,zr,zs,zt,↓aA,↓az,↓au,↓ar,↓ay,↓aw,↓ak,↓aj,↓aC,↓aB,↓aE,↓aD,unA,ne_eq,not_true_eq_false,not_false_eq_true,aG,aN,am,Gy,n1,n2,z1,z2,z0,R80]
  ·have hl:ldb x.width=false:=by unfold ldb;rw [decide_eq_false b1',decide_eq_false b2',decide_eq_false b3',decide_eq_false b4'];rfl
   rw [hl,Gf]
   simp -implicitDefEqProofs only [RA,ae,zp,↓reduceIte,reduceCtorEq,zq,zr,zs,zt,↓aA,↓az,↓au,↓ar,↓ay,↓aw,↓ak,↓aj,↓aC,↓aB,↓aE,↓aD,unA,ne_eq,not_true_eq_false,not_false_eq_true,aG,aN,am,Gy,n1,n2,z1,z2,z0,j1,j2,d1,d2,d3,lt,ixx,ixz,xl,xt,b1,b2,b3,b4,R80]
 rw [if_neg k2]
 rcases ai (k=3) with ⟨k3,j3⟩|⟨k3,j3⟩
 ·rw [if_pos k3]
  simp -implicitDefEqProofs only [RA,ae,zp,↓reduceIte,reduceCtorEq,zq,zr,zs,zt,↓aA,↓az,↓au,↓ar,↓ay,↓aw,↓ak,↓aj,↓aC,↓aB,↓aE,↓aD,unA,ne_eq,not_true_eq_false,not_false_eq_true,aG,aN,am,Gy,n1,n2,z1,z2,z0,j1,j2,j3,lt]
  refine w88'.use fun k4 hk4=>?_
  cases hcl:clB (ftR V) P fnc ts
  ·rw [Gf]
   simp -implicitDefEqProofs only [RA,ae,zp,↓reduceIte,reduceCtorEq,zq,zr,zs,zt,↓aA,↓az,↓au,↓ar,↓ay,↓aw,↓ak,↓aj,↓aC,↓aB,↓aE,↓aD,unA,ne_eq,not_true_eq_false,not_false_eq_true,aG,aN,am,Gy,n1,n2,z1,z2,z0,R80]
  rw [Ge]
  rcases ai (var=[]) with ⟨c1,d1⟩|⟨c1,d1⟩
  ·rw [decide_eq_true c1,Gl]
   simp -implicitDefEqProofs only [RA,ae,zp,↓reduceIte,reduceCtorEq,zq,zr,zs,zt,↓aA,↓az,↓au,↓ar,↓ay,↓aw,↓ak,↓aj,↓aC,↓aB,↓aE,↓aD,unA,ne_eq,not_true_eq_false,not_false_eq_true,aG,aN,am,Gy,n1,n2,z1,z2,z0,d1,R80]
  rw [decide_eq_false c1,Bool.false_or]
  obtain ⟨g,hg'⟩:∃ g,fnO P fnc=some g:=by
   unfold clB at hcl
   split at hcl
   ·cases hcl
   ·rename_i g hg;exact ⟨g,hg⟩
  have r1:rsO P fnc=g.result:=by rw [rsO,hg']
  have r2:rsR P fnc=g.result:=by rw [rsR,hg']
  rw [r2] at w89'
  rw [r1]
  rcases ai (vw V var=0) with ⟨c2,d2⟩|⟨c2,d2⟩
  ·have:(decide (g.result≠0)&&decide (vw V var=g.result))=false:=by rw [c2];by_cases h:g.result=0 <;> simp [h];exact fun e=>h e.symm
   rw [this]
   simp -implicitDefEqProofs only [RA,ae,zp,↓reduceIte,reduceCtorEq,zq,zr,zs,zt,↓aA,↓az,↓au,↓ar,↓ay,↓aw,↓ak,↓aj,↓aC,↓aB,↓aE,↓aD,unA,ne_eq,not_true_eq_false,not_false_eq_true,aG,aN,am,Gy,n1,n2,z1,z2,z0,d1,d2,R80]
  simp -implicitDefEqProofs only [RA,ae,zp,↓reduceIte,reduceCtorEq,zq,zr,zs,zt,↓aA,↓az,↓au,↓ar,↓ay,↓aw,↓ak,↓aj,↓aC,↓aB,↓aE,↓aD,unA,ne_eq,not_true_eq_false,not_false_eq_true,aG,aN,am,Gy,n1,n2,z1,z2,z0,d1,d2]
  refine w89'.use fun k5 hk5=>?_
  have:(decide (g.result≠0)&&decide (vw V var=g.result))=decide (g.result=vw V var):=by
   by_cases h:g.result=vw V var
   ·rw [h];simp [c2]
   ·rw [decide_eq_false h,decide_eq_false (p:=vw V var=g.result) (fun e=>h e.symm),Gj]
  rw [this]
  simp -implicitDefEqProofs only [RA,ae,zp,↓reduceIte,reduceCtorEq,zq,zr,zs,zt,↓aA,↓az,↓au,↓ar,↓ay,↓aw,↓ak,↓aj,↓aC,↓aB,↓aE,↓aD,unA,ne_eq,not_true_eq_false,not_false_eq_true,aG,aN,am,Gy,n1,n2,z1,z2,z0,d1,d2,R80]
 rw [if_neg k3]
 rcases ai (k=4) with ⟨k4,j4⟩|⟨k4,j4⟩
 ·rw [if_pos k4]
  rcases ai (var=[]) with ⟨c1,d1⟩|⟨c1,d1⟩
  case inr =>
   rw [decide_eq_false c1,Gf]
   simp -implicitDefEqProofs only [RA,ae,zp,↓reduceIte,reduceCtorEq,zq,zr,zs,zt,↓aA,↓az,↓au,↓ar,↓ay,↓aw,↓ak,↓aj,↓aC,↓aB,↓aE,↓aD,unA,ne_eq,not_true_eq_false,not_false_eq_true,aG,aN,am,Gy,n1,n2,z1,z2,z0,j1,j2,j3,j4,d1,lt,R80]
  rw [decide_eq_true c1,Ge]
  rcases ai (fnc=[]) with ⟨c2,d2⟩|⟨c2,d2⟩
  case inr =>
   rw [decide_eq_false c2,Gf]
   simp -implicitDefEqProofs only [RA,ae,zp,↓reduceIte,reduceCtorEq,zq,zr,zs,zt,↓aA,↓az,↓au,↓ar,↓ay,↓aw,↓ak,↓aj,↓aC,↓aB,↓aE,↓aD,unA,ne_eq,not_true_eq_false,not_false_eq_true,aG,aN,am,Gy,n1,n2,z1,z2,z0,j1,j2,j3,j4,d1,d2,lt,R80]
  rw [decide_eq_true c2,Ge]
  rcases ai ((ts.length:Int)=1) with ⟨c3,d3⟩|⟨c3,d3⟩
  case inr =>
   rw [gU (by omega)]
   simp -implicitDefEqProofs only [RA,ae,zp,↓reduceIte,reduceCtorEq,zq,zr,zs,zt,↓aA,↓az,↓au,↓ar,↓ay,↓aw,↓ak,↓aj,↓aC,↓aB,↓aE,↓aD,unA,ne_eq,not_true_eq_false,not_false_eq_true,aG,aN,am,Gy,n1,n2,z1,z2,z0,j1,j2,j3,j4,d1,d2,d3,lt,R80]
  obtain ⟨x,rfl⟩:=l1 (l:=ts) (by omega)
  have xl:=aY x
  have xt:=aU x
  have w:=w87' x (by simp)
  rw [gV]
  simp -implicitDefEqProofs only [RA,ae,zp,↓reduceIte,reduceCtorEq,zq,zr,zs,zt,↓aA,↓az,↓au,↓ar,↓ay,↓aw,↓ak,↓aj,↓aC,↓aB,↓aE,↓aD,unA,ne_eq,not_true_eq_false,not_false_eq_true,aG,aN,am,Gy,n1,n2,z1,z2,z0,j1,j2,j3,j4,d1,d2,d3,lt,ix1,xl,xt]
  refine w.use fun k2 hk2=>?_
  simp -implicitDefEqProofs only [RA,ae,zp,↓reduceIte,reduceCtorEq,zq,zr,zs,zt,↓aA,↓az,↓au,↓ar,↓ay,↓aw,↓ak,↓aj,↓aC,↓aB,↓aE,↓aD,unA,ne_eq,not_true_eq_false,not_false_eq_true,aG,aN,am,Gy,n1,n2,z1,z2,z0,R80]
 rw [if_neg k4]
 simp -implicitDefEqProofs only [RA,ae,zp,↓reduceIte,reduceCtorEq,zq,zr,zs,zt,↓aA,↓az,↓au,↓ar,↓ay,↓aw,↓ak,↓aj,↓aC,↓aB,↓aE,↓aD,unA,ne_eq,not_true_eq_false,not_false_eq_true,aG,aN,am,Gy,n1,n2,z1,z2,z0,j1,j2,j3,j4,lt,R80]
theorem w81 (P:Pi) (f:Fn) (b:Bk) (hP:okP P) (h1:f.params.length≤4000000) (h2:f.locals.length≤4000000) (ha:jC b.terms) (hto:b.to.length≤4000000) (hr0:0≤f.result) :
  Pure Tryz.prog 81 [.agg (piE P),.agg (fnE f),.agg (enE b)] (.bool (enB (ftR f.vars) P f b)):=by
 refine Pure.of fun nx=>AC.go aI is81 (by simp) ?_
 obtain ⟨ss,k,fnc,ts,tos⟩:=b
 simp only at ha hto
 have n1:(nx+1=nx)=False:=eq_false (by omega)
 have n2:(nx+1+1=nx)=False:=eq_false (by omega)
 have z0:((0:Nat):Int)=0:=rfl
 have z1:((1:Nat):Int)=1:=rfl
 have z2:((2:Nat):Int)=2:=rfl
 have lt:=bw ts
 have lo:=eO tos
 have lb:=dv f.blocks
 have w86':=fun (x:Tm) (w:Int) (hx:x∈ts)=>w86 f x w h1 h2 (ha.2 x hx).1 (ha.2 x hx).2
 have w88':=w88 P f fnc ts hP h1 h2 ha
 have w89':=w89 P fnc hP.1
 have ff:=bN f
 rw [ff] at w86' w88' ⊢
 unfold piE at w88' w89' ⊢
 unfold enE enB
 simp only
 generalize f.vars=V at *
 simp -implicitDefEqProofs only [RA,ae,zp,↓reduceIte,reduceCtorEq,zq,zr,zs,zt,↓aA,↓az,↓au,↓ar,↓ay,↓aw,↓ak,↓aj,↓aC,↓aB,↓aE,↓aD,unA,ne_eq,not_true_eq_false,not_false_eq_true,aG,aN,am,Gy,n1,n2,z1,z2,z0,A81,Er,lt,lo]
 refine aJ (fun q st=>∃ i:Nat,q=tos.length-i∧i≤tos.length∧ah st.env 3=some (.op nx 0)∧ah st.env 4=some (.op (nx+1) 0)∧ah st.env 5=some (.op (nx+1+1) 0)∧ah st.env 7=some (.int .i64 ts.length)∧ah st.env 8=some (.int .i64 tos.length)∧ah st.env 9=some (.int .i64 i)∧aq st.heap nx=some (.cells [bM P])∧aq st.heap (nx+1)=some (.cells [.str f.name,bp f.params,.int .i64 f.result,bp f.locals,cp f.blocks])∧aq st.heap (nx+1+1)=some (.cells [.int .u8 k,.str fnc,bg ts,cD tos])∧toB f.blocks.length (tos.take i)=true∧st.dm=[]) (n:=tos.length) aI
  ⟨0,rfl,by omega,by simp [ah],by simp [ah],by simp [ah],by simp [ah],by simp [ah],by simp [ah],by (simp only;repeat (first|rw [af,if_pos rfl]|rw [af,if_neg (by omega)])),by (simp only;repeat (first|rw [af,if_pos rfl]|rw [af,if_neg (by omega)])),by (simp only;repeat (first|rw [af,if_pos rfl]|rw [af,if_neg (by omega)])),rfl,rfl⟩ ?_
 rintro q ⟨env,heap,nx',dm⟩ ⟨i,rfl,hi,g3,g4,g5,g7,g8,g9,gp,gf,ge,hb,hdm⟩
 simp only at g3 g4 g5 g7 g8 g9 gp gf ge hb hdm
 subst hdm
 have f1:=wS (i:=i) (by omega)
 rw [iS hb]
 by_cases hc:(i:Int)<(tos.length:Int)
 case pos =>
  have hr:=Fo (show i<tos.length by omega)
  generalize tos[i]=r at hr
  have ix:=eu hr
  rw [inE] at ix
  rcases ai (r<0) with ⟨c1,d1⟩|⟨c1,d1⟩
  ·have:toB f.blocks.length (tos.drop i)=false:=by rw [bA hr,toB,List.all_cons,decide_eq_false (p:=0≤r) (by omega),Gf,Gf]
   rw [this,Gf]
   simp -implicitDefEqProofs only [RA,ae,zp,↓reduceIte,reduceCtorEq,zq,zr,zs,zt,↓aA,↓az,↓au,↓ar,↓ay,↓aw,↓ak,↓aj,↓aC,↓aB,↓aE,↓aD,unA,ne_eq,not_true_eq_false,not_false_eq_true,aG,aN,am,Gy,n1,n2,z1,z2,z0,dh,cm,g3,g4,g5,g7,g8,g9,gp,gf,ge,hc,ix,lb,d1,R81]
  rcases ai ((f.blocks.length:Int)≤r) with ⟨c2,d2⟩|⟨c2,d2⟩
  ·have:toB f.blocks.length (tos.drop i)=false:=by rw [bA hr,toB,List.all_cons,decide_eq_false (p:=r<(f.blocks.length:Int)) (by omega),Gj,Gf]
   rw [this,Gf]
   simp -implicitDefEqProofs only [RA,ae,zp,↓reduceIte,reduceCtorEq,zq,zr,zs,zt,↓aA,↓az,↓au,↓ar,↓ay,↓aw,↓ak,↓aj,↓aC,↓aB,↓aE,↓aD,unA,ne_eq,not_true_eq_false,not_false_eq_true,aG,aN,am,Gy,n1,n2,z1,z2,z0,dh,cm,g3,g4,g5,g7,g8,g9,gp,gf,ge,hc,ix,lb,d1,d2,R81]
  rw [← iS hb]
  simp -implicitDefEqProofs only [RA,ae,zp,↓reduceIte,reduceCtorEq,zq,zr,zs,zt,↓aA,↓az,↓au,↓ar,↓ay,↓aw,↓ak,↓aj,↓aC,↓aB,↓aE,↓aD,unA,ne_eq,not_true_eq_false,not_false_eq_true,aG,aN,am,Gy,n1,n2,z1,z2,z0,dh,cm,g3,g4,g5,g7,g8,g9,gp,gf,ge,hc,ix,lb,d1,d2,f1]
  refine ⟨tos.length-(i+1),by omega,i+1,rfl,by omega,rfl,?_⟩
  rw [aQ hr,toB,List.all_append,show (tos.take i).all _=true from hb]
  simp [show 0≤r by omega,show r<(f.blocks.length:Int) by omega]
 have hT:toB f.blocks.length (tos.drop i)=true:=by rw [show tos.drop i=[] from List.drop_eq_nil_of_le (by omega)];rfl
 rw [hT,Ge]
 rcases ai (k=5) with ⟨k5,j5⟩|⟨k5,j5⟩
 ·rw [if_pos k5]
  rcases ai (fnc=[]) with ⟨c1,d1⟩|⟨c1,d1⟩
  case inr =>
   rw [decide_eq_false c1,Gf]
   simp -implicitDefEqProofs only [RA,ae,zp,↓reduceIte,reduceCtorEq,zq,zr,zs,zt,↓aA,↓az,↓au,↓ar,↓ay,↓aw,↓ak,↓aj,↓aC,↓aB,↓aE,↓aD,unA,ne_eq,not_true_eq_false,not_false_eq_true,aG,aN,am,Gy,n1,n2,z1,z2,z0,dh,cm,g3,g4,g5,g7,g8,g9,gp,gf,ge,hc,lt,lo,j5,d1,R81]
  rcases ai ((ts.length:Int)=0) with ⟨c2,d2⟩|⟨c2,d2⟩
  case inr =>
   rw [decide_eq_false (p:=ts.length=0) (by omega),Gf,Gj]
   simp -implicitDefEqProofs only [RA,ae,zp,↓reduceIte,reduceCtorEq,zq,zr,zs,zt,↓aA,↓az,↓au,↓ar,↓ay,↓aw,↓ak,↓aj,↓aC,↓aB,↓aE,↓aD,unA,ne_eq,not_true_eq_false,not_false_eq_true,aG,aN,am,Gy,n1,n2,z1,z2,z0,dh,cm,g3,g4,g5,g7,g8,g9,gp,gf,ge,hc,lt,lo,j5,d1,d2,R81]
  rw [decide_eq_true c1,decide_eq_true (p:=ts.length=0) (by omega),Ge,Ge]
  rcases ai ((tos.length:Int)=1) with ⟨c3,d3⟩|⟨c3,d3⟩
  ·rw [decide_eq_true (p:=tos.length=1) (by omega)]
   simp -implicitDefEqProofs only [RA,ae,zp,↓reduceIte,reduceCtorEq,zq,zr,zs,zt,↓aA,↓az,↓au,↓ar,↓ay,↓aw,↓ak,↓aj,↓aC,↓aB,↓aE,↓aD,unA,ne_eq,not_true_eq_false,not_false_eq_true,aG,aN,am,Gy,n1,n2,z1,z2,z0,dh,cm,g3,g4,g5,g7,g8,g9,gp,gf,ge,hc,lt,lo,j5,d1,d2,d3,R81]
  ·rw [decide_eq_false (p:=tos.length=1) (by omega)]
   simp -implicitDefEqProofs only [RA,ae,zp,↓reduceIte,reduceCtorEq,zq,zr,zs,zt,↓aA,↓az,↓au,↓ar,↓ay,↓aw,↓ak,↓aj,↓aC,↓aB,↓aE,↓aD,unA,ne_eq,not_true_eq_false,not_false_eq_true,aG,aN,am,Gy,n1,n2,z1,z2,z0,dh,cm,g3,g4,g5,g7,g8,g9,gp,gf,ge,hc,lt,lo,j5,d1,d2,d3,R81]
 rw [if_neg k5]
 rcases ai (k=6) with ⟨k6,j6⟩|⟨k6,j6⟩
 ·rw [if_pos k6]
  rcases ai (fnc=[]) with ⟨c1,d1⟩|⟨c1,d1⟩
  case inr =>
   rw [decide_eq_false c1,Gf]
   simp -implicitDefEqProofs only [RA,ae,zp,↓reduceIte,reduceCtorEq,zq,zr,zs,zt,↓aA,↓az,↓au,↓ar,↓ay,↓aw,↓ak,↓aj,↓aC,↓aB,↓aE,↓aD,unA,ne_eq,not_true_eq_false,not_false_eq_true,aG,aN,am,Gy,n1,n2,z1,z2,z0,dh,cm,g3,g4,g5,g7,g8,g9,gp,gf,ge,hc,lt,lo,j5,j6,d1,R81]
  rw [decide_eq_true c1,Ge]
  rcases ai ((ts.length:Int)=1) with ⟨c2,d2⟩|⟨c2,d2⟩
  case inr =>
   rw [gU (by omega)]
   simp -implicitDefEqProofs only [RA,ae,zp,↓reduceIte,reduceCtorEq,zq,zr,zs,zt,↓aA,↓az,↓au,↓ar,↓ay,↓aw,↓ak,↓aj,↓aC,↓aB,↓aE,↓aD,unA,ne_eq,not_true_eq_false,not_false_eq_true,aG,aN,am,Gy,n1,n2,z1,z2,z0,dh,cm,g3,g4,g5,g7,g8,g9,gp,gf,ge,hc,lt,lo,j5,j6,d1,d2,R81]
  obtain ⟨x,rfl⟩:=l1 (l:=ts) (by omega)
  have xl:=aY x
  have xt:=aU x
  rw [gV]
  rcases ai ((tos.length:Int)=2) with ⟨c3,d3⟩|⟨c3,d3⟩
  case inr =>
   rw [decide_eq_false (p:=tos.length=2) (by omega),Gf]
   simp -implicitDefEqProofs only [RA,ae,zp,↓reduceIte,reduceCtorEq,zq,zr,zs,zt,↓aA,↓az,↓au,↓ar,↓ay,↓aw,↓ak,↓aj,↓aC,↓aB,↓aE,↓aD,unA,ne_eq,not_true_eq_false,not_false_eq_true,aG,aN,am,Gy,n1,n2,z1,z2,z0,dh,cm,g3,g4,g5,g7,g8,g9,gp,gf,ge,hc,lt,lo,j5,j6,d1,d2,d3,R81]
  rw [decide_eq_true (p:=tos.length=2) (by omega),Ge]
  have w:=w86' x 1 (by simp)
  simp -implicitDefEqProofs only [RA,ae,zp,↓reduceIte,reduceCtorEq,zq,zr,zs,zt,↓aA,↓az,↓au,↓ar,↓ay,↓aw,↓ak,↓aj,↓aC,↓aB,↓aE,↓aD,unA,ne_eq,not_true_eq_false,not_false_eq_true,aG,aN,am,Gy,n1,n2,z1,z2,z0,dh,cm,g3,g4,g5,g7,g8,g9,gp,gf,ge,hc,lt,lo,j5,j6,d1,d2,d3,ix1,xl,xt]
  refine w.use fun k2 hk2=>?_
  simp -implicitDefEqProofs only [RA,ae,zp,↓reduceIte,reduceCtorEq,zq,zr,zs,zt,↓aA,↓az,↓au,↓ar,↓ay,↓aw,↓ak,↓aj,↓aC,↓aB,↓aE,↓aD,unA,ne_eq,not_true_eq_false,not_false_eq_true,aG,aN,am,Gy,n1,n2,z1,z2,z0,R81]
 rw [if_neg k6]
 rcases ai (k=7) with ⟨k7,j7⟩|⟨k7,j7⟩
 ·rw [if_pos k7]
  rcases ai (f.result=0) with ⟨c3,d3⟩|⟨c3,d3⟩
  ·rw [if_pos c3]
   rcases ai (fnc=[]) with ⟨c1,d1⟩|⟨c1,d1⟩
   case inr =>
    rw [decide_eq_false c1,Gf]
    simp -implicitDefEqProofs only [RA,ae,zp,↓reduceIte,reduceCtorEq,zq,zr,zs,zt,↓aA,↓az,↓au,↓ar,↓ay,↓aw,↓ak,↓aj,↓aC,↓aB,↓aE,↓aD,unA,ne_eq,not_true_eq_false,not_false_eq_true,aG,aN,am,Gy,n1,n2,z1,z2,z0,dh,cm,g3,g4,g5,g7,g8,g9,gp,gf,ge,hc,lt,lo,j5,j6,j7,d3,d1,R81]
   rw [decide_eq_true c1,Ge]
   rcases ai ((ts.length:Int)=0) with ⟨c2,d2⟩|⟨c2,d2⟩
   case inr =>
    rw [decide_eq_false (p:=ts.length=0) (by omega),Gj]
    simp -implicitDefEqProofs only [RA,ae,zp,↓reduceIte,reduceCtorEq,zq,zr,zs,zt,↓aA,↓az,↓au,↓ar,↓ay,↓aw,↓ak,↓aj,↓aC,↓aB,↓aE,↓aD,unA,ne_eq,not_true_eq_false,not_false_eq_true,aG,aN,am,Gy,n1,n2,z1,z2,z0,dh,cm,g3,g4,g5,g7,g8,g9,gp,gf,ge,hc,lt,lo,j5,j6,j7,d1,d2,d3,R81]
   rw [decide_eq_true (p:=ts.length=0) (by omega),Bool.and_true]
   rcases ai ((tos.length:Int)=0) with ⟨c4,d4⟩|⟨c4,d4⟩
   ·rw [decide_eq_true (p:=tos.length=0) (by omega)]
    simp -implicitDefEqProofs only [RA,ae,zp,↓reduceIte,reduceCtorEq,zq,zr,zs,zt,↓aA,↓az,↓au,↓ar,↓ay,↓aw,↓ak,↓aj,↓aC,↓aB,↓aE,↓aD,unA,ne_eq,not_true_eq_false,not_false_eq_true,aG,aN,am,Gy,n1,n2,z1,z2,z0,dh,cm,g3,g4,g5,g7,g8,g9,gp,gf,ge,hc,lt,lo,j5,j6,j7,d1,d2,d3,d4,R81]
   ·rw [decide_eq_false (p:=tos.length=0) (by omega)]
    simp -implicitDefEqProofs only [RA,ae,zp,↓reduceIte,reduceCtorEq,zq,zr,zs,zt,↓aA,↓az,↓au,↓ar,↓ay,↓aw,↓ak,↓aj,↓aC,↓aB,↓aE,↓aD,unA,ne_eq,not_true_eq_false,not_false_eq_true,aG,aN,am,Gy,n1,n2,z1,z2,z0,dh,cm,g3,g4,g5,g7,g8,g9,gp,gf,ge,hc,lt,lo,j5,j6,j7,d1,d2,d3,d4,R81]
  rw [if_neg c3]
  rcases ai (fnc=[]) with ⟨c1,d1⟩|⟨c1,d1⟩
  case inr =>
   rw [decide_eq_false c1,Gf]
   simp -implicitDefEqProofs only [RA,ae,zp,↓reduceIte,reduceCtorEq,zq,zr,zs,zt,↓aA,↓az,↓au,↓ar,↓ay,↓aw,↓ak,↓aj,↓aC,↓aB,↓aE,↓aD,unA,ne_eq,not_true_eq_false,not_false_eq_true,aG,aN,am,Gy,n1,n2,z1,z2,z0,dh,cm,g3,g4,g5,g7,g8,g9,gp,gf,ge,hc,lt,lo,j5,j6,j7,d3,d1,R81]
  rw [decide_eq_true c1,Ge]
  rcases ai ((ts.length:Int)=1) with ⟨c2,d2⟩|⟨c2,d2⟩
  case inr =>
   rw [gU (by omega),Gj]
   simp -implicitDefEqProofs only [RA,ae,zp,↓reduceIte,reduceCtorEq,zq,zr,zs,zt,↓aA,↓az,↓au,↓ar,↓ay,↓aw,↓ak,↓aj,↓aC,↓aB,↓aE,↓aD,unA,ne_eq,not_true_eq_false,not_false_eq_true,aG,aN,am,Gy,n1,n2,z1,z2,z0,dh,cm,g3,g4,g5,g7,g8,g9,gp,gf,ge,hc,lt,lo,j5,j6,j7,d1,d2,d3,R81]
  obtain ⟨x,rfl⟩:=l1 (l:=ts) (by omega)
  have xl:=aY x
  have xt:=aU x
  rw [gV]
  rcases ai ((tos.length:Int)=0) with ⟨c4,d4⟩|⟨c4,d4⟩
  case inr =>
   rw [decide_eq_false (p:=tos.length=0) (by omega),Gf]
   simp -implicitDefEqProofs only [RA,ae,zp,↓reduceIte,reduceCtorEq,zq,zr,zs,zt,↓aA,↓az,↓au,↓ar,↓ay,↓aw,↓ak,↓aj,↓aC,↓aB,↓aE,↓aD,unA,ne_eq,not_true_eq_false,not_false_eq_true,aG,aN,am,Gy,n1,n2,z1,z2,z0,dh,cm,g3,g4,g5,g7,g8,g9,gp,gf,ge,hc,lt,lo,j5,j6,j7,d1,d2,d3,d4,R81]
  rw [decide_eq_true (p:=tos.length=0) (by omega),Ge]
  have w:=w86' x f.result (by simp)
  simp -implicitDefEqProofs only [RA,ae,zp,↓reduceIte,reduceCtorEq,zq,zr,zs,zt,↓aA,↓az,↓au,↓ar,↓ay,↓aw,↓ak,↓aj,↓aC,↓aB,↓aE,↓aD,unA,ne_eq,not_true_eq_false,not_false_eq_true,aG,aN,am,Gy,n1,n2,z1,z2,z0,dh,cm,g3,g4,g5,g7,g8,g9,gp,gf,ge,hc,lt,lo,j5,j6,j7,d1,d2,d3,d4,ix1,xl,xt]
  refine w.use fun k2 hk2=>?_
  simp -implicitDefEqProofs only [RA,ae,zp,↓reduceIte,reduceCtorEq,zq,zr,zs,zt,↓aA,↓az,↓au,↓ar,↓ay,↓aw,↓ak,↓aj,↓aC,↓aB,↓aE,↓aD,unA,ne_eq,not_true_eq_false,not_false_eq_true,aG,aN,am,Gy,n1,n2,z1,z2,z0,R81]
 rw [if_neg k7]
 rcases ai (k=8) with ⟨k8,j8⟩|⟨k8,j8⟩
 case inr =>
  rw [if_neg k8]
  simp -implicitDefEqProofs only [RA,ae,zp,↓reduceIte,reduceCtorEq,zq,zr,zs,zt,↓aA,↓az,↓au,↓ar,↓ay,↓aw,↓ak,↓aj,↓aC,↓aB,↓aE,↓aD,unA,ne_eq,not_true_eq_false,not_false_eq_true,aG,aN,am,Gy,n1,n2,z1,z2,z0,dh,cm,g3,g4,g5,g7,g8,g9,gp,gf,ge,hc,lt,lo,j5,j6,j7,j8,R81]
 rw [if_pos k8]
 rcases ai ((tos.length:Int)=0) with ⟨c4,d4⟩|⟨c4,d4⟩
 case inr =>
  rw [decide_eq_false (p:=tos.length=0) (by omega),Gf,Gj]
  simp -implicitDefEqProofs only [RA,ae,zp,↓reduceIte,reduceCtorEq,zq,zr,zs,zt,↓aA,↓az,↓au,↓ar,↓ay,↓aw,↓ak,↓aj,↓aC,↓aB,↓aE,↓aD,unA,ne_eq,not_true_eq_false,not_false_eq_true,aG,aN,am,Gy,n1,n2,z1,z2,z0,dh,cm,g3,g4,g5,g7,g8,g9,gp,gf,ge,hc,lt,lo,j5,j6,j7,j8,d4,R81]
 rw [decide_eq_true (p:=tos.length=0) (by omega),Ge]
 simp -implicitDefEqProofs only [RA,ae,zp,↓reduceIte,reduceCtorEq,zq,zr,zs,zt,↓aA,↓az,↓au,↓ar,↓ay,↓aw,↓ak,↓aj,↓aC,↓aB,↓aE,↓aD,unA,ne_eq,not_true_eq_false,not_false_eq_true,aG,aN,am,Gy,n1,n2,z1,z2,z0,dh,cm,g3,g4,g5,g7,g8,g9,gp,gf,ge,hc,lt,lo,j5,j6,j7,j8,d4]
 refine w88'.use fun k2 hk2=>?_
 cases hcl:clB (ftR V) P fnc ts
 ·rw [Gf]
  simp -implicitDefEqProofs only [RA,ae,zp,↓reduceIte,reduceCtorEq,zq,zr,zs,zt,↓aA,↓az,↓au,↓ar,↓ay,↓aw,↓ak,↓aj,↓aC,↓aB,↓aE,↓aD,unA,ne_eq,not_true_eq_false,not_false_eq_true,aG,aN,am,Gy,n1,n2,z1,z2,z0,R81]
 rw [Ge]
 obtain ⟨g,hg'⟩:∃ g,fnO P fnc=some g:=by
  unfold clB at hcl
  split at hcl
  ·cases hcl
  ·rename_i g hg;exact ⟨g,hg⟩
 have r1:rsO P fnc=g.result:=by rw [rsO,hg']
 have r2:rsR P fnc=g.result:=by rw [rsR,hg']
 rw [r2] at w89'
 rw [r1]
 simp -implicitDefEqProofs only [RA,ae,zp,↓reduceIte,reduceCtorEq,zq,zr,zs,zt,↓aA,↓az,↓au,↓ar,↓ay,↓aw,↓ak,↓aj,↓aC,↓aB,↓aE,↓aD,unA,ne_eq,not_true_eq_false,not_false_eq_true,aG,aN,am,Gy,n1,n2,z1,z2,z0,g3,g4,g5,gp,gf,ge]
 refine w89'.use fun k5 hk5=>?_
 simp -implicitDefEqProofs only [RA,ae,zp,↓reduceIte,reduceCtorEq,zq,zr,zs,zt,↓aA,↓az,↓au,↓ar,↓ay,↓aw,↓ak,↓aj,↓aC,↓aB,↓aE,↓aD,unA,ne_eq,not_true_eq_false,not_false_eq_true,aG,aN,am,Gy,n1,n2,z1,z2,z0,R81,gp,gf,ge,g3,g4,g5]
def vaR (P:Pi) (f:Fn):Bool:=clV f.vars&&vaB (ftR f.vars) (ftZ f.vars) P f
theorem w69 (P:Pi) (f:Fn) (hP:okP P) (ho:okF f):Pure Tryz.prog 69 [.agg (piE P),.agg (fnE f)] (.bool (vaR P f)):=by
 refine Pure.of fun nx=>AC.go aI is69 (by simp) ?_
 have w79':=w79 f ho.2.1 ho.2.2.1 ho.2.2.2.1
 obtain ⟨o1,o2,o3,o4,o5,o6⟩:=ho
 have lb:=dv f.blocks
 have w78r:=tW f.name o1
 have n1:(nx+1=nx)=False:=eq_false (by omega)
 have z0:((0:Nat):Int)=0:=rfl
 have ff:=bN f
 rw [ff] at w79'
 unfold piE vaR vaB
 rw [ff]
 simp -implicitDefEqProofs only [RA,ae,zp,↓reduceIte,reduceCtorEq,zq,zr,zs,zt,↓aA,↓az,↓au,↓ar,↓ay,↓aw,↓ak,↓aj,↓aC,↓aB,↓aE,↓aD,unA,ne_eq,not_true_eq_false,not_false_eq_true,A69,Ex,n1]
 refine w78r.use fun k1 hk1=>?_
 cases hn:dI f.name
 ·simp -implicitDefEqProofs only [RA,ae,zp,↓reduceIte,reduceCtorEq,zq,zr,zs,zt,↓aA,↓az,↓au,↓ar,↓ay,↓aw,↓ak,↓aj,↓aC,↓aB,↓aE,↓aD,unA,ne_eq,not_true_eq_false,not_false_eq_true,Gf,Gj,R69,n1]
 simp -implicitDefEqProofs only [RA,ae,zp,↓reduceIte,reduceCtorEq,zq,zr,zs,zt,↓aA,↓az,↓au,↓ar,↓ay,↓aw,↓ak,↓aj,↓aC,↓aB,↓aE,↓aD,unA,ne_eq,not_true_eq_false,not_false_eq_true,n1]
 refine w79'.use fun k2 hk2=>?_
 cases hcl:clV f.vars
 ·simp -implicitDefEqProofs only [RA,ae,zp,↓reduceIte,reduceCtorEq,zq,zr,zs,zt,↓aA,↓az,↓au,↓ar,↓ay,↓aw,↓ak,↓aj,↓aC,↓aB,↓aE,↓aD,unA,ne_eq,not_true_eq_false,not_false_eq_true,Gf,Gj,R69,n1]
 rcases ai (f.result<0) with ⟨c1,d1⟩|⟨c1,d1⟩
 ·rw [decide_eq_false (p:=0≤f.result) (by omega)]
  simp -implicitDefEqProofs only [RA,ae,zp,↓reduceIte,reduceCtorEq,zq,zr,zs,zt,↓aA,↓az,↓au,↓ar,↓ay,↓aw,↓ak,↓aj,↓aC,↓aB,↓aE,↓aD,unA,ne_eq,not_true_eq_false,not_false_eq_true,d1,n1,Gf,Gj,R69]
 rcases ai ((64:Int)<f.result) with ⟨c2,d2⟩|⟨c2,d2⟩
 ·rw [decide_eq_false (p:=f.result≤64) (by omega)]
  simp -implicitDefEqProofs only [RA,ae,zp,↓reduceIte,reduceCtorEq,zq,zr,zs,zt,↓aA,↓az,↓au,↓ar,↓ay,↓aw,↓ak,↓aj,↓aC,↓aB,↓aE,↓aD,unA,ne_eq,not_true_eq_false,not_false_eq_true,d1,d2,n1,Gf,Gj,R69]
 rcases ai ((f.blocks.length:Int)=0) with ⟨c3,d3⟩|⟨c3,d3⟩
 ·rw [decide_eq_false (p:=f.blocks.length≠0) (by omega)]
  simp -implicitDefEqProofs only [RA,ae,zp,↓reduceIte,reduceCtorEq,zq,zr,zs,zt,↓aA,↓az,↓au,↓ar,↓ay,↓aw,↓ak,↓aj,↓aC,↓aB,↓aE,↓aD,unA,ne_eq,not_true_eq_false,not_false_eq_true,d1,d2,lb,d3,n1,Gf,Gj,R69]
 rw [decide_eq_true (p:=0≤f.result) (by omega),decide_eq_true (p:=f.result≤64) (by omega),decide_eq_true (p:=f.blocks.length≠0) (by omega)]
 have hV:=jk hcl
 simp -implicitDefEqProofs only [RA,ae,zp,↓reduceIte,reduceCtorEq,zq,zr,zs,zt,↓aA,↓az,↓au,↓ar,↓ay,↓aw,↓ak,↓aj,↓aC,↓aB,↓aE,↓aD,unA,ne_eq,not_true_eq_false,not_false_eq_true,d1,d2,lb,d3,n1,Ge]
 refine aJ (fun q st=>∃ i:Nat,q=f.blocks.length-i∧i≤f.blocks.length∧ah st.env 2=some (.op nx 0)∧ah st.env 3=some (.op (nx+1) 0)∧ah st.env 5=some (.int .i64 i)∧aq st.heap nx=some (.cells [bM P])∧aq st.heap (nx+1)=some (.cells [.str f.name,bp f.params,.int .i64 f.result,bp f.locals,cp f.blocks])∧(f.blocks.take i).all (bkB (ftR f.vars) (ftZ f.vars) P f)=true∧st.dm=[]) (n:=f.blocks.length) aI
  ⟨0,rfl,by omega,by simp [ah],by simp [ah],by simp [ah],by (simp only;repeat (first|rw [af,if_pos rfl]|rw [af,if_neg (by omega)])),by (simp only;repeat (first|rw [af,if_pos rfl]|rw [af,if_neg (by omega)])),rfl,rfl⟩ ?_
 rintro q ⟨env,heap,nx',dm⟩ ⟨i,rfl,hi,g2,g3,g5,gp,gf,ha,hdm⟩
 simp only at g2 g3 g5 gp gf ha hdm
 subst hdm
 have f1:=wS (i:=i) (by omega)
 by_cases hc:(i:Int)<(f.blocks.length:Int)
 case neg =>
  rw [show f.blocks.take i=f.blocks from Fs (by omega)] at ha
  rw [ha]
  simp -implicitDefEqProofs only [RA,ae,zp,↓reduceIte,reduceCtorEq,zq,zr,zs,zt,↓aA,↓az,↓au,↓ar,↓ay,↓aw,↓ak,↓aj,↓aC,↓aB,↓aE,↓aD,unA,ne_eq,not_true_eq_false,not_false_eq_true,wR,qu,g2,g3,g5,gp,gf,lb,hc,R69]
 have hr:=Fo (show i<f.blocks.length by omega)
 generalize f.blocks[i]=b at hr
 have hmem:=Fp hr
 obtain ⟨p1,p2,p3,p4⟩:=o6 b hmem
 have ix:=dH hr
 rw [eD] at ix
 have ls:=eh b.steps
 have hbad:bkB (ftR f.vars) (ftZ f.vars) P f b=false→f.blocks.all (bkB (ftR f.vars) (ftZ f.vars) P f)=false:=kq hmem
 have w81':=w81 P f b hP o2 o3 p3 p4 (by omega)
 have w80':=fun (s:St) (hs:s∈b.steps)=>w80 P f s hP o2 o3 (p2 s hs) hV
 unfold piE at w81' w80'
 rw [ff] at w81' w80'
 unfold enE at w81'
 simp -implicitDefEqProofs only [RA,ae,zp,↓reduceIte,reduceCtorEq,zq,zr,zs,zt,↓aA,↓az,↓au,↓ar,↓ay,↓aw,↓ak,↓aj,↓aC,↓aB,↓aE,↓aD,unA,ne_eq,not_true_eq_false,not_false_eq_true,wR,qu,g2,g3,g5,gp,gf,lb,hc]
 refine aJ (fun q st=>∃ j:Nat,q=b.steps.length-j∧j≤b.steps.length∧ah st.env 2=some (.op nx 0)∧ah st.env 3=some (.op (nx+1) 0)∧ah st.env 5=some (.int .i64 i)∧ah st.env 6=some (.int .i64 j)∧aq st.heap nx=some (.cells [bM P])∧aq st.heap (nx+1)=some (.cells [.str f.name,bp f.params,.int .i64 f.result,bp f.locals,cp f.blocks])∧(b.steps.take j).all (stB (ftR f.vars) (ftZ f.vars) P f.vars)=true∧st.dm=[]) (n:=b.steps.length) aI
  ⟨0,rfl,by omega,by simp [ah,g2],by simp [ah,g3],by simp [ah,g5],by simp [ah],gp,gf,rfl,rfl⟩ ?_
 clear g2 g3 g5 gp gf
 rintro q ⟨env,heap,nx2,dm⟩ ⟨j,rfl,hj,g2,g3,g5,g6,gp,gf,hb,hdm⟩
 simp only at g2 g3 g5 g6 gp gf hb hdm
 subst hdm
 have f3:=wS (i:=j) (by omega)
 by_cases hcj:(j:Int)<(b.steps.length:Int)
 case neg =>
  rw [show b.steps.take j=b.steps from Fs (by omega)] at hb
  simp -implicitDefEqProofs only [RA,ae,zp,↓reduceIte,reduceCtorEq,zq,zr,zs,zt,↓aA,↓az,↓au,↓ar,↓ay,↓aw,↓ak,↓aj,↓aC,↓aB,↓aE,↓aD,unA,ne_eq,not_true_eq_false,not_false_eq_true,wT,qv,g2,g3,g5,g6,gp,gf,lb,hcj,ix,ls]
  refine w81'.use fun k3 hk3=>?_
  have hbk:bkB (ftR f.vars) (ftZ f.vars) P f b=enB (ftR f.vars) P f b:=by unfold bkB;rw [hb,Ge]
  rw [← hbk]
  cases hbb:bkB (ftR f.vars) (ftZ f.vars) P f b
  ·rw [hbad hbb]
   simp -implicitDefEqProofs only [RA,ae,zp,↓reduceIte,reduceCtorEq,zq,zr,zs,zt,↓aA,↓az,↓au,↓ar,↓ay,↓aw,↓ak,↓aj,↓aC,↓aB,↓aE,↓aD,unA,ne_eq,not_true_eq_false,not_false_eq_true,R69]
  ·simp -implicitDefEqProofs only [RA,ae,zp,↓reduceIte,reduceCtorEq,zq,zr,zs,zt,↓aA,↓az,↓au,↓ar,↓ay,↓aw,↓ak,↓aj,↓aC,↓aB,↓aE,↓aD,unA,ne_eq,not_true_eq_false,not_false_eq_true,g2,g3,g5,g6,f1]
   refine ⟨f.blocks.length-(i+1),by omega,i+1,rfl,by omega,rfl,gp,gf,?_⟩
   rw [aQ hr,List.all_append,ha,Ge]
   simp [hbb]
 have hrj:=Fo (show j<b.steps.length by omega)
 generalize b.steps[j]=s at hrj
 have hms:=Fp hrj
 have ixs:=fv hrj
 have w:=w80' s hms
 rw [gq] at ixs w
 simp -implicitDefEqProofs only [RA,ae,zp,↓reduceIte,reduceCtorEq,zq,zr,zs,zt,↓aA,↓az,↓au,↓ar,↓ay,↓aw,↓ak,↓aj,↓aC,↓aB,↓aE,↓aD,unA,ne_eq,not_true_eq_false,not_false_eq_true,wT,qv,g2,g3,g5,g6,gp,gf,lb,hcj,ix,ls,ixs]
 refine w.use fun k3 hk3=>?_
 cases hbb:stB (ftR f.vars) (ftZ f.vars) P f.vars s
 ·rw [hbad (by unfold bkB;rw [kq hms hbb,Gf])]
  simp -implicitDefEqProofs only [RA,ae,zp,↓reduceIte,reduceCtorEq,zq,zr,zs,zt,↓aA,↓az,↓au,↓ar,↓ay,↓aw,↓ak,↓aj,↓aC,↓aB,↓aE,↓aD,unA,ne_eq,not_true_eq_false,not_false_eq_true,R69]
 ·simp -implicitDefEqProofs only [RA,ae,zp,↓reduceIte,reduceCtorEq,zq,zr,zs,zt,↓aA,↓az,↓au,↓ar,↓ay,↓aw,↓ak,↓aj,↓aC,↓aB,↓aE,↓aD,unA,ne_eq,not_true_eq_false,not_false_eq_true,g2,g3,g5,g6,f3]
  refine ⟨b.steps.length-(j+1),by omega,j+1,rfl,by omega,rfl,gp,gf,?_⟩
  rw [aQ hrj,List.all_append,hb,Ge]
  simp [hbb]
def ckR (P:Pi):Int:=if mnP P=true then 4 else if P≠[]∧(P.map (·.name)).Nodup∧P.all (vaR P)=true then 0 else 8
theorem vG {P:Pi} {r:Fn} {i:Nat} (hr:P[i]?=some r):∃ j:Nat,fdF 0 P r.name=((j:Int),0)∧(j=i↔r.name∉(P.take i).map (·.name)):=by
 rcases jg r.name P 0 with ⟨h1,h2⟩|⟨j,g,h1,h2,h3,h4⟩
 ·exfalso
  unfold fnO at h1
  rw [List.find?_eq_none] at h1
  exact h1 r (Fp hr) (by simp)
 ·refine ⟨j,by rw [h3];simp,fun e=>e ▸ h4,fun hn=>?_⟩
  have hg:g.name=r.name:=by
   have:=List.find?_some h2
   simpa using this
  rcases Nat.lt_trichotomy j i with hlt|he|hgt
  ·exfalso
   refine hn (Fy.2 ⟨g,?_,hg⟩)
   exact Fp (i:=j) (by rw [List.getElem?_take,if_pos hlt];exact h1)
  ·exact he
  ·exfalso
   refine h4 (Fy.2 ⟨r,?_,rfl⟩)
   exact Fp (i:=i) (by rw [List.getElem?_take,if_pos hgt];exact hr)
theorem pE {P:Pi} {r:Fn} {i:Nat} (hr:P[i]?=some r) (h:((P.take i).map (·.name)).Nodup) (hn:r.name∉(P.take i).map (·.name)):((P.take (i+1)).map (·.name)).Nodup:=by
 rw [aQ hr,List.map_append]
 refine List.nodup_append.2 ⟨h,by simp,fun a ha b hb e=>?_⟩
 simp at hb
 subst e;subst hb;exact hn ha
theorem w50 (P:Pi) (ho:jZ P):Pure Tryz.prog 50 [.agg (piE P)] (.int .i64 (ckR P)):=by
 refine Pure.of fun nx=>AC.go aI is50 (by simp) ?_
 have w67':=w67 P ho.l
 have hP:=ho.p
 obtain ⟨o1,o2⟩:=ho
 have lv:=cX P
 have w68':=fun n=>w68 P n o1
 have w69':=fun (f:Fn) (hf:f∈P)=>w69 P f hP (o2 f hf)
 unfold ckR
 unfold piE at w67' w68' w69' ⊢
 simp -implicitDefEqProofs only [RA,ae,zp,↓reduceIte,reduceCtorEq,zq,zr,zs,zt,↓aA,↓az,↓au,↓ar,↓ay,↓aw,↓ak,↓aj,↓aC,↓aB,↓aE,↓aD,unA,ne_eq,not_true_eq_false,not_false_eq_true,A50,EH]
 refine w67'.use fun k1 hk1=>?_
 cases hm:mnP P
 case true =>
  rw [if_pos rfl]
  simp -implicitDefEqProofs only [RA,ae,zp,↓reduceIte,reduceCtorEq,zq,zr,zs,zt,↓aA,↓az,↓au,↓ar,↓ay,↓aw,↓ak,↓aj,↓aC,↓aB,↓aE,↓aD,unA,ne_eq,not_true_eq_false,not_false_eq_true,R50]
 rw [if_neg (by simp)]
 rcases ai ((P.length:Int)=0) with ⟨c1,d1⟩|⟨c1,d1⟩
 ·rw [if_neg (fun h=>h.1 (List.length_eq_zero_iff.1 (by omega)))]
  simp -implicitDefEqProofs only [RA,ae,zp,↓reduceIte,reduceCtorEq,zq,zr,zs,zt,↓aA,↓az,↓au,↓ar,↓ay,↓aw,↓ak,↓aj,↓aC,↓aB,↓aE,↓aD,unA,ne_eq,not_true_eq_false,not_false_eq_true,lv,d1,R50]
 simp -implicitDefEqProofs only [RA,ae,zp,↓reduceIte,reduceCtorEq,zq,zr,zs,zt,↓aA,↓az,↓au,↓ar,↓ay,↓aw,↓ak,↓aj,↓aC,↓aB,↓aE,↓aD,unA,ne_eq,not_true_eq_false,not_false_eq_true,lv,d1]
 refine aJ (fun q st=>∃ (i:Nat),q=P.length-i∧i≤P.length∧ah st.env 1=some (.op nx 0)∧ah st.env 3=some (.int .i64 i)∧aq st.heap nx=some (.cells [bM P])∧((P.take i).map (·.name)).Nodup∧(P.take i).all (vaR P)=true∧st.dm=[]) (n:=P.length) aI
  ⟨0,rfl,by omega,by simp [ah],by simp [ah],by (simp only;repeat (first|rw [af,if_pos rfl]|rw [af,if_neg (by omega)])),by simp,rfl,rfl⟩ ?_
 rintro q ⟨env,heap,nx',dm⟩ ⟨i,rfl,hi,g1,g3,gs,hnd,ha,hdm⟩
 simp only at g1 g3 gs hnd ha hdm
 subst hdm
 have f1:=wS (i:=i) (by omega)
 by_cases hc:(i:Int)<(P.length:Int)
 case neg =>
  rw [show P.take i=P from Fs (by omega)] at ha hnd
  rw [if_pos ⟨fun h=>c1 (by rw [h];rfl),hnd,ha⟩]
  simp -implicitDefEqProofs only [RA,ae,zp,↓reduceIte,reduceCtorEq,zq,zr,zs,zt,↓aA,↓az,↓au,↓ar,↓ay,↓aw,↓ak,↓aj,↓aC,↓aB,↓aE,↓aD,unA,ne_eq,not_true_eq_false,not_false_eq_true,xd,qE,g1,g3,gs,hc,lv,R50]
 have hr:=Fo (show i<P.length by omega)
 generalize P[i]=f at hr
 have hmem:=Fp hr
 have ix:=cL hr
 have ff:=bN f
 have wa:=w68' f.name
 have wb:=w69' f hmem
 rw [ff] at ix wb
 obtain ⟨j,hj,hji⟩:=vG hr
 rw [hj] at wa
 simp -implicitDefEqProofs only [RA,ae,zp,↓reduceIte,reduceCtorEq,zq,zr,zs,zt,↓aA,↓az,↓au,↓ar,↓ay,↓aw,↓ak,↓aj,↓aC,↓aB,↓aE,↓aD,unA,ne_eq,not_true_eq_false,not_false_eq_true,xd,qE,g1,g3,gs,hc,lv,ix]
 refine wa.use fun k2 hk2=>?_
 rcases ai ((j:Int)=(i:Int)) with ⟨c2,d2⟩|⟨c2,d2⟩
 case inr =>
  rw [if_neg (fun h=>vL hr (Classical.byContradiction fun hh=>c2 (by have:=hji.2 hh;omega)) h.2.1)]
  simp -implicitDefEqProofs only [RA,ae,zp,↓reduceIte,reduceCtorEq,zq,zr,zs,zt,↓aA,↓az,↓au,↓ar,↓ay,↓aw,↓ak,↓aj,↓aC,↓aB,↓aE,↓aD,unA,ne_eq,not_true_eq_false,not_false_eq_true,g1,g3,gs,d2,R50]
 have hnin:=hji.1 (by omega)
 simp -implicitDefEqProofs only [RA,ae,zp,↓reduceIte,reduceCtorEq,zq,zr,zs,zt,↓aA,↓az,↓au,↓ar,↓ay,↓aw,↓ak,↓aj,↓aC,↓aB,↓aE,↓aD,unA,ne_eq,not_true_eq_false,not_false_eq_true,g1,g3,gs,d2,ix]
 refine wb.use fun k3 hk3=>?_
 cases hv:vaR P f
 ·rw [if_neg (fun h=>by have:=List.all_eq_true.1 h.2.2 f hmem;rw [hv] at this;cases this)]
  simp -implicitDefEqProofs only [RA,ae,zp,↓reduceIte,reduceCtorEq,zq,zr,zs,zt,↓aA,↓az,↓au,↓ar,↓ay,↓aw,↓ak,↓aj,↓aC,↓aB,↓aE,↓aD,unA,ne_eq,not_true_eq_false,not_false_eq_true,g1,g3,gs,R50]
 ·simp -implicitDefEqProofs only [RA,ae,zp,↓reduceIte,reduceCtorEq,zq,zr,zs,zt,↓aA,↓az,↓au,↓ar,↓ay,↓aw,↓ak,↓aj,↓aC,↓aB,↓aE,↓aD,unA,ne_eq,not_true_eq_false,not_false_eq_true,g1,g3,gs,f1]
  refine ⟨P.length-(i+1),by omega,i+1,rfl,by omega,rfl,pE hr hnd hnin,?_⟩
  rw [aQ hr,List.all_append,ha,Ge]
  simp [hv]
end Go.Proofs.YtkhjclmfbmfahaaGreatDoor
