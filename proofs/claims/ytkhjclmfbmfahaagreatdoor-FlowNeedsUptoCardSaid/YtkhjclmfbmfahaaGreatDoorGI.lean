/- The end of a block. -/
import Derived.Test.YtkhjclmfbmfahaaGreatDoorGH
namespace Go.Proofs.YtkhjclmfbmfahaaGreatDoor
open List renaming getElem?_eq_getElem → Fo, mem_of_getElem? → Fp, take_of_length_le → Fs, length_map → Fw, mem_map → Fy, all_eq_true → Fz, map_append → FC, any_eq_true → F1
open Bool renaming and_eq_true → Gd, true_and → Ge, false_and → Gf, and_false → Gj, or_false → Gk, true_or → Gl, false_or → Gm, or_true → Gn
open Int renaming reduceEq → Gy
set_option maxHeartbeats 64000000
open Go Go.Ab Go.Proofs
open Nat renaming reduceEqDiff → zp, reduceAdd → zq, reduceLeDiff → zr, reduceLT → zs, reduceBEq → zt
set_option linter.unusedVariables false
set_option linter.unusedSimpArgs false
set_option maxRecDepth 20000
def enE (b:Bk):List AV:=[.int .u8 b.kind,.str b.func,bg b.terms,cD b.to]
def toB (n:Nat) (l:List Int):Bool:=l.all fun t=>decide (0≤t)&&decide (t<(n:Int))
def enB (ft : Tm → Int → Bool) (P : Pi) (f : Fn) (b : Bk) : Bool :=
  toB f.blocks.length b.to &&
  (if b.kind = 5 then decide (b.func = []) && (decide (b.terms.length = 0) && decide (b.to.length = 1))
   else if b.kind = 6 then decide (b.func = []) && on1 b.terms fun x => decide (b.to.length = 2) && ft x 1
   else if b.kind = 7 then decide (b.func = []) && (decide (b.to.length = 0) && (if f.result = 0 then decide (b.terms.length = 0) else on1 b.terms fun x => ft x f.result))
   else if b.kind = 8 then clB ft P b.func b.terms && (decide (b.to.length = 0) && decide (rsO P b.func = f.result))
   else false)
theorem iS {n:Nat} {l:List Int} {i:Nat} (h:toB n (l.take i)=true):toB n l=toB n (l.drop i):=by
 conv=>lhs;rw [← List.take_append_drop i l]
 unfold toB at h ⊢
 rw [List.all_append,h,Ge]
theorem w77 (P:Pi) (f:Fn) (mv mf:Nat) (V:List Pm) (b:Bk) (h:Heap) (nx:Nat) (st st2:List Nat) (ck ck2:Nat) (hP:okP P) (ha:jC b.terms) (hto:b.to.length≤4000000) (hr0:0≤f.result) (hm:aq h mv=some (.map (V.map cW) st ck)) (hmn:mv<nx) (hf:aq h mf=some (.map ((FI P).map cW) st2 ck2)) (hfn:mf<nx) :
  AC Tryz.prog 77 [.agg (scE P f mv mf),.agg (enE b)] h nx (KP h nx (.bool (enB (ftB V) P f b))):=by
 unfold KP
 refine AC.go aI is77 (by simp) ?_
 obtain ⟨ss,k,fnc,ts,tos⟩:=b
 simp only at ha hto
 have n1:(nx+1=nx)=False:=eq_false (by omega)
 have n2:(nx+1+1=nx)=False:=eq_false (by omega)
 have z0:((0:Nat):Int)=0:=rfl
 have z1:((1:Nat):Int)=1:=rfl
 have z2:((2:Nat):Int)=2:=rfl
 have hkeep:∀ (X Y:AO) q o,q<nx→aq h q=some o→aq ((nx+1,X)::(nx,Y)::h) q=some o:=fun X Y q o hq ho=>by rw [af,if_neg (by omega),af,if_neg (by omega)];exact ho
 have lt:=bw ts
 have lo:=eO tos
 have lb:=dv f.blocks
 unfold scE enE enB
 simp only
 simp -implicitDefEqProofs only [RA,ae,zp,↓reduceIte,reduceCtorEq,zq,zr,zs,zt,↓aA,↓az,↓au,↓ar,↓ay,↓aw,↓ak,↓aj,↓aC,↓aB,n1,n2,unA,ne_eq,not_true_eq_false,not_false_eq_true,aG,aN,am,Gy,z0,z1,z2,A77,Eu,lt,lo]
 refine aJ (fun q st=>∃ i:Nat,q=tos.length-i∧i≤tos.length∧ah st.env 2=some (.op nx 0)∧ah st.env 3=some (.op (nx+1) 0)∧ah st.env 12=some (cD tos)∧ah st.env 13=some (.int .i64 tos.length)∧ah st.env 14=some (.int .i64 i)∧aq st.heap nx=some (.cells [bM P,.str f.name,bp f.params,.int .i64 f.result,bp f.locals,cp f.blocks,.mp mv,.mp mf])∧aq st.heap (nx+1)=some (.cells [.int .u8 k,.str fnc,bg ts,cD tos])∧nx+1<st.nx∧(∀ q o,q<nx→aq h q=some o→aq st.heap q=some o)∧toB f.blocks.length (tos.take i)=true∧st.dm=[]) (n:=tos.length) aI
  ⟨0,rfl,by omega,by simp [ah],by simp [ah],by simp [ah],by simp [ah],by simp [ah],by (simp only;repeat (first|rw [af,if_pos rfl]|rw [af,if_neg (by omega)])),by (simp only;repeat (first|rw [af,if_pos rfl]|rw [af,if_neg (by omega)])),by simp only;omega,hkeep _ _,rfl,rfl⟩ ?_
 rintro q ⟨env,heap,nx',dm⟩ ⟨i,rfl,hi,g2,g3,g12,g13,g14,gs,gt,hlt,hk,hb,hdm⟩
 simp only at g2 g3 g12 g13 g14 gs gt hlt hk hdm
 subst hdm
 have f1:=wS (i:=i) (by omega)
 rw [iS hb]
 by_cases hc:(i:Int)<(tos.length:Int)
 case pos =>
  have hr:=Fo (show i<tos.length by omega)
  generalize tos[i]=r at hr
  have ix:=eu hr
  rw [inE] at ix
  rcases ai (r<0) with ⟨c1,d1⟩|⟨c1,d1⟩
  ·have:toB f.blocks.length (tos.drop i)=false:=by rw [bA hr,toB,List.all_cons,decide_eq_false (p:=0≤r) (by omega),Gf,Gf]
   rw [this,Gf]
   simp -implicitDefEqProofs only [RA,ae,zp,↓reduceIte,reduceCtorEq,zq,zr,zs,zt,↓aA,↓az,↓au,↓ar,↓ay,↓aw,↓ak,↓aj,↓aC,↓aB,n1,n2,unA,ne_eq,not_true_eq_false,not_false_eq_true,aG,aN,am,Gy,z0,z1,z2,dy,cq,g2,g3,gs,gt,g12,g13,g14,hc,ix,lb,d1,R77]
   exact ⟨by omega,hk⟩
  rcases ai ((f.blocks.length:Int)≤r) with ⟨c2,d2⟩|⟨c2,d2⟩
  ·have:toB f.blocks.length (tos.drop i)=false:=by rw [bA hr,toB,List.all_cons,decide_eq_false (p:=r<(f.blocks.length:Int)) (by omega),Gj,Gf]
   rw [this,Gf]
   simp -implicitDefEqProofs only [RA,ae,zp,↓reduceIte,reduceCtorEq,zq,zr,zs,zt,↓aA,↓az,↓au,↓ar,↓ay,↓aw,↓ak,↓aj,↓aC,↓aB,n1,n2,unA,ne_eq,not_true_eq_false,not_false_eq_true,aG,aN,am,Gy,z0,z1,z2,dy,cq,g2,g3,gs,gt,g12,g13,g14,hc,ix,lb,d1,d2,R77]
   exact ⟨by omega,hk⟩
  rw [← iS hb]
  simp -implicitDefEqProofs only [RA,ae,zp,↓reduceIte,reduceCtorEq,zq,zr,zs,zt,↓aA,↓az,↓au,↓ar,↓ay,↓aw,↓ak,↓aj,↓aC,↓aB,n1,n2,unA,ne_eq,not_true_eq_false,not_false_eq_true,aG,aN,am,Gy,z0,z1,z2,dy,cq,g2,g3,gs,gt,g12,g13,g14,hc,ix,lb,d1,d2,f1]
  refine ⟨tos.length-(i+1),by omega,i+1,rfl,by omega,rfl,hlt,hk,?_⟩
  rw [aQ hr,toB,List.all_append,show (tos.take i).all _=true from hb]
  simp [show 0≤r by omega,show r<(f.blocks.length:Int) by omega]
 have hT:toB f.blocks.length (tos.drop i)=true:=by rw [show tos.drop i=[] from List.drop_eq_nil_of_le (by omega)];rfl
 rw [hT,Ge]
 have w82':=fun (x:Tm) (w:Int) (hx:x∈ts)=>w82 P f mv mf V x w heap nx' st ck (ha.2 x hx).1 (ha.2 x hx).2 (hk _ _ hmn hm) (by omega)
 unfold scE at w82'
 rcases ai (k=5) with ⟨k5,j5⟩|⟨k5,j5⟩
 ·rw [if_pos k5]
  rcases ai (fnc=[]) with ⟨c1,d1⟩|⟨c1,d1⟩
  case inr =>
   rw [decide_eq_false c1,Gf]
   simp -implicitDefEqProofs only [RA,ae,zp,↓reduceIte,reduceCtorEq,zq,zr,zs,zt,↓aA,↓az,↓au,↓ar,↓ay,↓aw,↓ak,↓aj,↓aC,↓aB,n1,n2,unA,ne_eq,not_true_eq_false,not_false_eq_true,aG,aN,am,Gy,z0,z1,z2,dy,cq,g2,g3,gs,gt,g12,g13,g14,hc,lt,lo,j5,d1,R77]
   exact ⟨by omega,hk⟩
  rcases ai ((ts.length:Int)=0) with ⟨c2,d2⟩|⟨c2,d2⟩
  case inr =>
   rw [decide_eq_false (p:=ts.length=0) (by omega),Gf,Gj]
   simp -implicitDefEqProofs only [RA,ae,zp,↓reduceIte,reduceCtorEq,zq,zr,zs,zt,↓aA,↓az,↓au,↓ar,↓ay,↓aw,↓ak,↓aj,↓aC,↓aB,n1,n2,unA,ne_eq,not_true_eq_false,not_false_eq_true,aG,aN,am,Gy,z0,z1,z2,dy,cq,g2,g3,gs,gt,g12,g13,g14,hc,lt,lo,j5,d1,d2,R77]
   exact ⟨by omega,hk⟩
  rw [decide_eq_true c1,decide_eq_true (p:=ts.length=0) (by omega),Ge,Ge]
  rcases ai ((tos.length:Int)=1) with ⟨c3,d3⟩|⟨c3,d3⟩
  ·rw [decide_eq_true (p:=tos.length=1) (by omega)]
   simp -implicitDefEqProofs only [RA,ae,zp,↓reduceIte,reduceCtorEq,zq,zr,zs,zt,↓aA,↓az,↓au,↓ar,↓ay,↓aw,↓ak,↓aj,↓aC,↓aB,n1,n2,unA,ne_eq,not_true_eq_false,not_false_eq_true,aG,aN,am,Gy,z0,z1,z2,dy,cq,g2,g3,gs,gt,g12,g13,g14,hc,lt,lo,j5,d1,d2,d3,R77]
   exact ⟨by omega,hk⟩
  ·rw [decide_eq_false (p:=tos.length=1) (by omega)]
   simp -implicitDefEqProofs only [RA,ae,zp,↓reduceIte,reduceCtorEq,zq,zr,zs,zt,↓aA,↓az,↓au,↓ar,↓ay,↓aw,↓ak,↓aj,↓aC,↓aB,n1,n2,unA,ne_eq,not_true_eq_false,not_false_eq_true,aG,aN,am,Gy,z0,z1,z2,dy,cq,g2,g3,gs,gt,g12,g13,g14,hc,lt,lo,j5,d1,d2,d3,R77]
   exact ⟨by omega,hk⟩
 rw [if_neg k5]
 rcases ai (k=6) with ⟨k6,j6⟩|⟨k6,j6⟩
 ·rw [if_pos k6]
  rcases ai (fnc=[]) with ⟨c1,d1⟩|⟨c1,d1⟩
  case inr =>
   rw [decide_eq_false c1,Gf]
   simp -implicitDefEqProofs only [RA,ae,zp,↓reduceIte,reduceCtorEq,zq,zr,zs,zt,↓aA,↓az,↓au,↓ar,↓ay,↓aw,↓ak,↓aj,↓aC,↓aB,n1,n2,unA,ne_eq,not_true_eq_false,not_false_eq_true,aG,aN,am,Gy,z0,z1,z2,dy,cq,g2,g3,gs,gt,g12,g13,g14,hc,lt,lo,j5,j6,d1,R77]
   exact ⟨by omega,hk⟩
  rw [decide_eq_true c1,Ge]
  rcases ai ((ts.length:Int)=1) with ⟨c2,d2⟩|⟨c2,d2⟩
  case inr =>
   rw [gU (by omega)]
   simp -implicitDefEqProofs only [RA,ae,zp,↓reduceIte,reduceCtorEq,zq,zr,zs,zt,↓aA,↓az,↓au,↓ar,↓ay,↓aw,↓ak,↓aj,↓aC,↓aB,n1,n2,unA,ne_eq,not_true_eq_false,not_false_eq_true,aG,aN,am,Gy,z0,z1,z2,dy,cq,g2,g3,gs,gt,g12,g13,g14,hc,lt,lo,j5,j6,d1,d2,R77]
   exact ⟨by omega,hk⟩
  obtain ⟨x,rfl⟩:=l1 (l:=ts) (by omega)
  have xl:=aY x
  have xt:=aU x
  rw [gV]
  rcases ai ((tos.length:Int)=2) with ⟨c3,d3⟩|⟨c3,d3⟩
  case inr =>
   rw [decide_eq_false (p:=tos.length=2) (by omega),Gf]
   simp -implicitDefEqProofs only [RA,ae,zp,↓reduceIte,reduceCtorEq,zq,zr,zs,zt,↓aA,↓az,↓au,↓ar,↓ay,↓aw,↓ak,↓aj,↓aC,↓aB,n1,n2,unA,ne_eq,not_true_eq_false,not_false_eq_true,aG,aN,am,Gy,z0,z1,z2,dy,cq,g2,g3,gs,gt,g12,g13,g14,hc,lt,lo,j5,j6,d1,d2,d3,R77]
   exact ⟨by omega,hk⟩
  rw [decide_eq_true (p:=tos.length=2) (by omega),Ge]
  have w:=w82' x 1 (by simp)
  simp -implicitDefEqProofs only [RA,ae,zp,↓reduceIte,reduceCtorEq,zq,zr,zs,zt,↓aA,↓az,↓au,↓ar,↓ay,↓aw,↓ak,↓aj,↓aC,↓aB,n1,n2,unA,ne_eq,not_true_eq_false,not_false_eq_true,aG,aN,am,Gy,z0,z1,z2,dy,cq,g2,g3,gs,gt,g12,g13,g14,hc,lt,lo,j5,j6,d1,d2,d3,ix1,xl,xt]
  refine w.mono ?_
  rintro y h2 n4 ⟨rfl,hn2,hk2⟩
  simp -implicitDefEqProofs only [RA,ae,zp,↓reduceIte,reduceCtorEq,zq,zr,zs,zt,↓aA,↓az,↓au,↓ar,↓ay,↓aw,↓ak,↓aj,↓aC,↓aB,n1,n2,unA,ne_eq,not_true_eq_false,not_false_eq_true,aG,aN,am,Gy,z0,z1,z2,R77]
  exact ⟨by omega,fun q o hq ho=>hk2 q o (by omega) (hk q o hq ho)⟩
 rw [if_neg k6]
 rcases ai (k=7) with ⟨k7,j7⟩|⟨k7,j7⟩
 ·rw [if_pos k7]
  rcases ai (fnc=[]) with ⟨c1,d1⟩|⟨c1,d1⟩
  case inr =>
   rw [decide_eq_false c1,Gf]
   simp -implicitDefEqProofs only [RA,ae,zp,↓reduceIte,reduceCtorEq,zq,zr,zs,zt,↓aA,↓az,↓au,↓ar,↓ay,↓aw,↓ak,↓aj,↓aC,↓aB,n1,n2,unA,ne_eq,not_true_eq_false,not_false_eq_true,aG,aN,am,Gy,z0,z1,z2,dy,cq,g2,g3,gs,gt,g12,g13,g14,hc,lt,lo,j5,j6,j7,d1,R77]
   exact ⟨by omega,hk⟩
  rw [decide_eq_true c1,Ge]
  rcases ai ((tos.length:Int)=0) with ⟨c2,d2⟩|⟨c2,d2⟩
  case inr =>
   rw [decide_eq_false (p:=tos.length=0) (by omega),Gf]
   simp -implicitDefEqProofs only [RA,ae,zp,↓reduceIte,reduceCtorEq,zq,zr,zs,zt,↓aA,↓az,↓au,↓ar,↓ay,↓aw,↓ak,↓aj,↓aC,↓aB,n1,n2,unA,ne_eq,not_true_eq_false,not_false_eq_true,aG,aN,am,Gy,z0,z1,z2,dy,cq,g2,g3,gs,gt,g12,g13,g14,hc,lt,lo,j5,j6,j7,d1,d2,R77]
   exact ⟨by omega,hk⟩
  rw [decide_eq_true (p:=tos.length=0) (by omega),Ge]
  rcases ai (f.result=0) with ⟨c3,d3⟩|⟨c3,d3⟩
  ·rw [if_pos c3]
   rcases ai ((ts.length:Int)=0) with ⟨c4,d4⟩|⟨c4,d4⟩
   ·rw [decide_eq_true (p:=ts.length=0) (by omega)]
    have hz:(1<f.result)=False:=eq_false (by omega)
    simp -implicitDefEqProofs only [RA,ae,zp,↓reduceIte,reduceCtorEq,zq,zr,zs,zt,↓aA,↓az,↓au,↓ar,↓ay,↓aw,↓ak,↓aj,↓aC,↓aB,n1,n2,unA,ne_eq,not_true_eq_false,not_false_eq_true,aG,aN,am,Gy,z0,z1,z2,dy,cq,g2,g3,gs,gt,g12,g13,g14,hc,lt,lo,j5,j6,j7,d1,d2,d3,d4,hz,show ((ts.length:Int)=f.result)=True from eq_true (by omega),R77]
    exact ⟨by omega,hk⟩
   ·rw [decide_eq_false (p:=ts.length=0) (by omega)]
    have hz:(1<f.result)=False:=eq_false (by omega)
    simp -implicitDefEqProofs only [RA,ae,zp,↓reduceIte,reduceCtorEq,zq,zr,zs,zt,↓aA,↓az,↓au,↓ar,↓ay,↓aw,↓ak,↓aj,↓aC,↓aB,n1,n2,unA,ne_eq,not_true_eq_false,not_false_eq_true,aG,aN,am,Gy,z0,z1,z2,dy,cq,g2,g3,gs,gt,g12,g13,g14,hc,lt,lo,j5,j6,j7,d1,d2,d3,d4,hz,show ((ts.length:Int)=f.result)=False from eq_false (by omega),R77]
    exact ⟨by omega,hk⟩
  rw [if_neg c3]
  rcases ai ((ts.length:Int)=1) with ⟨c4,d4⟩|⟨c4,d4⟩
  case inr =>
   rw [gU (by omega)]
   rcases ai ((1:Int)<f.result) with ⟨c5,d5⟩|⟨c5,d5⟩
   ·simp -implicitDefEqProofs only [RA,ae,zp,↓reduceIte,reduceCtorEq,zq,zr,zs,zt,↓aA,↓az,↓au,↓ar,↓ay,↓aw,↓ak,↓aj,↓aC,↓aB,n1,n2,unA,ne_eq,not_true_eq_false,not_false_eq_true,aG,aN,am,Gy,z0,z1,z2,dy,cq,g2,g3,gs,gt,g12,g13,g14,hc,lt,lo,j5,j6,j7,d1,d2,d4,d5,R77]
    exact ⟨by omega,hk⟩
   ·simp -implicitDefEqProofs only [RA,ae,zp,↓reduceIte,reduceCtorEq,zq,zr,zs,zt,↓aA,↓az,↓au,↓ar,↓ay,↓aw,↓ak,↓aj,↓aC,↓aB,n1,n2,unA,ne_eq,not_true_eq_false,not_false_eq_true,aG,aN,am,Gy,z0,z1,z2,dy,cq,g2,g3,gs,gt,g12,g13,g14,hc,lt,lo,j5,j6,j7,d1,d2,d5,show ((ts.length:Int)=f.result)=False from eq_false (by omega),R77]
    exact ⟨by omega,hk⟩
  obtain ⟨x,rfl⟩:=l1 (l:=ts) (by omega)
  have xl:=aY x
  have xt:=aU x
  rw [gV]
  have w:=w82' x f.result (by simp)
  rcases ai ((1:Int)<f.result) with ⟨c5,d5⟩|⟨c5,d5⟩
  ·simp -implicitDefEqProofs only [RA,ae,zp,↓reduceIte,reduceCtorEq,zq,zr,zs,zt,↓aA,↓az,↓au,↓ar,↓ay,↓aw,↓ak,↓aj,↓aC,↓aB,n1,n2,unA,ne_eq,not_true_eq_false,not_false_eq_true,aG,aN,am,Gy,z0,z1,z2,dy,cq,g2,g3,gs,gt,g12,g13,g14,hc,lt,lo,j5,j6,j7,d1,d2,d5,ix1,xl,xt]
   refine w.mono ?_
   rintro y h2 n4 ⟨rfl,hn2,hk2⟩
   simp -implicitDefEqProofs only [RA,ae,zp,↓reduceIte,reduceCtorEq,zq,zr,zs,zt,↓aA,↓az,↓au,↓ar,↓ay,↓aw,↓ak,↓aj,↓aC,↓aB,n1,n2,unA,ne_eq,not_true_eq_false,not_false_eq_true,aG,aN,am,Gy,z0,z1,z2,R77]
   exact ⟨by omega,fun q o hq ho=>hk2 q o (by omega) (hk q o hq ho)⟩
  ·have c6:((1:Int)=f.result)=True:=eq_true (by omega)
   simp -implicitDefEqProofs only [RA,ae,zp,↓reduceIte,reduceCtorEq,zq,zr,zs,zt,↓aA,↓az,↓au,↓ar,↓ay,↓aw,↓ak,↓aj,↓aC,↓aB,n1,n2,unA,ne_eq,not_true_eq_false,not_false_eq_true,aG,aN,am,Gy,z0,z1,z2,dy,cq,g2,g3,gs,gt,g12,g13,g14,hc,lt,lo,j5,j6,j7,d1,d2,d5,c6,ix1,xl,xt]
   refine w.mono ?_
   rintro y h2 n4 ⟨rfl,hn2,hk2⟩
   simp -implicitDefEqProofs only [RA,ae,zp,↓reduceIte,reduceCtorEq,zq,zr,zs,zt,↓aA,↓az,↓au,↓ar,↓ay,↓aw,↓ak,↓aj,↓aC,↓aB,n1,n2,unA,ne_eq,not_true_eq_false,not_false_eq_true,aG,aN,am,Gy,z0,z1,z2,R77]
   exact ⟨by omega,fun q o hq ho=>hk2 q o (by omega) (hk q o hq ho)⟩
 rw [if_neg k7]
 rcases ai (k=8) with ⟨k8,j8⟩|⟨k8,j8⟩
 case inr =>
  rw [if_neg k8]
  simp -implicitDefEqProofs only [RA,ae,zp,↓reduceIte,reduceCtorEq,zq,zr,zs,zt,↓aA,↓az,↓au,↓ar,↓ay,↓aw,↓ak,↓aj,↓aC,↓aB,n1,n2,unA,ne_eq,not_true_eq_false,not_false_eq_true,aG,aN,am,Gy,z0,z1,z2,dy,cq,g2,g3,gs,gt,g12,g13,g14,hc,lt,lo,j5,j6,j7,j8,R77]
  exact ⟨by omega,hk⟩
 rw [if_pos k8]
 have w83':=w83 P f mv mf V fnc ts heap nx' st st2 ck ck2 hP ha (hk _ _ hmn hm) (by omega) (hk _ _ hfn hf) (by omega)
 unfold scE at w83'
 simp -implicitDefEqProofs only [RA,ae,zp,↓reduceIte,reduceCtorEq,zq,zr,zs,zt,↓aA,↓az,↓au,↓ar,↓ay,↓aw,↓ak,↓aj,↓aC,↓aB,n1,n2,unA,ne_eq,not_true_eq_false,not_false_eq_true,aG,aN,am,Gy,z0,z1,z2,dy,cq,g2,g3,gs,gt,g12,g13,g14,hc,lt,lo,j5,j6,j7,j8]
 refine w83'.mono ?_
 rintro y h2 n4 ⟨hres,hn2,hk2⟩
 have hk3:∀ q o,q<nx→aq h q=some o→aq h2 q=some o:=fun q o hq ho=>hk2 q o (by omega) (hk q o hq ho)
 have gs2:=hk2 nx _ (by omega) gs
 have gt2:=hk2 (nx+1) _ (by omega) gt
 have y1:(n4=nx)=False:=eq_false (by omega)
 have y2:(n4=nx+1)=False:=eq_false (by omega)
 rcases hres with ⟨hcl,rfl⟩|⟨g,hg',rfl⟩
 ·rw [hcl,Gf]
  simp -implicitDefEqProofs only [RA,ae,zp,↓reduceIte,reduceCtorEq,zq,zr,zs,zt,↓aA,↓az,↓au,↓ar,↓ay,↓aw,↓ak,↓aj,↓aC,↓aB,n1,n2,unA,ne_eq,not_true_eq_false,not_false_eq_true,aG,aN,am,Gy,z0,z1,z2,g2,g3,gs2,gt2,y1,y2,R77]
  refine ⟨by omega,fun q o hq ho=>?_⟩
  rw [if_neg (by omega)];(try rw [if_neg (by omega)])
  exact hk3 q o hq ho
 have hrs:rsO P fnc=g.result:=by rw [rsO,hg']
 rw [bN,hrs]
 cases hcl:clB (ftB V) P fnc ts
 ·rw [Gf]
  simp -implicitDefEqProofs only [RA,ae,zp,↓reduceIte,reduceCtorEq,zq,zr,zs,zt,↓aA,↓az,↓au,↓ar,↓ay,↓aw,↓ak,↓aj,↓aC,↓aB,n1,n2,unA,ne_eq,not_true_eq_false,not_false_eq_true,aG,aN,am,Gy,z0,z1,z2,g2,g3,gs2,gt2,y1,y2,R77]
  refine ⟨by omega,fun q o hq ho=>?_⟩
  repeat rw [if_neg (by omega)]
  exact hk3 q o hq ho
 rw [Ge]
 rcases ai ((tos.length:Int)=0) with ⟨c2,d2⟩|⟨c2,d2⟩
 case inr =>
  rw [decide_eq_false (p:=tos.length=0) (by omega),Gf]
  simp -implicitDefEqProofs only [RA,ae,zp,↓reduceIte,reduceCtorEq,zq,zr,zs,zt,↓aA,↓az,↓au,↓ar,↓ay,↓aw,↓ak,↓aj,↓aC,↓aB,n1,n2,unA,ne_eq,not_true_eq_false,not_false_eq_true,aG,aN,am,Gy,z0,z1,z2,g2,g3,gs2,gt2,y1,y2,d2,R77]
  refine ⟨by omega,fun q o hq ho=>?_⟩
  repeat rw [if_neg (by omega)]
  exact hk3 q o hq ho
 rw [decide_eq_true (p:=tos.length=0) (by omega),Ge]
 simp -implicitDefEqProofs only [RA,ae,zp,↓reduceIte,reduceCtorEq,zq,zr,zs,zt,↓aA,↓az,↓au,↓ar,↓ay,↓aw,↓ak,↓aj,↓aC,↓aB,n1,n2,unA,ne_eq,not_true_eq_false,not_false_eq_true,aG,aN,am,Gy,z0,z1,z2,g2,g3,gs2,gt2,y1,y2,d2,R77]
 refine ⟨by omega,fun q o hq ho=>?_⟩
 repeat rw [if_neg (by omega)]
 exact hk3 q o hq ho
def mnF (f:Fn):Bool:=decide ((8:Int)<f.params.length)||(decide ((40:Int)<f.locals.length)||(decide ((40:Int)<f.params.length+f.locals.length)||(decide ((60:Int)<f.blocks.length)||f.blocks.any fun b=>decide ((60:Int)<b.steps.length))))
def mnP (P:Pi):Bool:=decide ((16:Int)<P.length)||P.any mnF
def okL (P:Pi):Prop:=P.length≤4000000∧∀ f∈P,f.params.length≤4000000∧f.locals.length≤4000000∧f.blocks.length≤4000000∧∀ b∈f.blocks,b.steps.length≤4000000
theorem w63 (P:Pi) (ho:okL P):Pure Tryz.prog 63 [.agg (piE P)] (.bool (mnP P)):=by
 refine Pure.of fun nx=>AC.go aI is63 (by simp) ?_
 obtain ⟨o1,o2⟩:=ho
 have lv:=cX P
 unfold mnP piE
 rcases ai ((16:Int)<P.length) with ⟨c1,d1⟩|⟨c1,d1⟩
 ·rw [decide_eq_true c1,Gl]
  simp -implicitDefEqProofs only [RA,ae,zp,↓reduceIte,reduceCtorEq,zq,zr,zs,zt,↓aA,↓az,↓au,↓ar,↓ay,↓aw,↓ak,↓aj,↓aE,↓aD,unA,ne_eq,not_true_eq_false,not_false_eq_true,A63,Cs,lv,d1,R63]
 rw [decide_eq_false c1,Gm]
 simp -implicitDefEqProofs only [RA,ae,zp,↓reduceIte,reduceCtorEq,zq,zr,zs,zt,↓aA,↓az,↓au,↓ar,↓ay,↓aw,↓ak,↓aj,↓aE,↓aD,unA,ne_eq,not_true_eq_false,not_false_eq_true,A63,Cs,lv,d1]
 refine aJ (fun q st=>∃ i:Nat,q=P.length-i∧i≤P.length∧ah st.env 12=some (bM P)∧ah st.env 13=some (.int .i64 P.length)∧ah st.env 14=some (.int .i64 i)∧(P.take i).any mnF=false∧st.dm=[]) (n:=P.length) aI
  ⟨0,rfl,by omega,by simp [ah],by simp [ah],by simp [ah],rfl,rfl⟩ ?_
 rintro q ⟨env,heap,nx',dm⟩ ⟨i,rfl,hi,g12,g13,gi,ha,hdm⟩
 simp only at g12 g13 gi ha hdm
 subst hdm
 have f1:=wS (i:=i) (by omega)
 by_cases hc:(i:Int)<(P.length:Int)
 case neg =>
  rw [show P.take i=P from Fs (by omega)] at ha
  rw [ha]
  simp -implicitDefEqProofs only [RA,ae,zp,↓reduceIte,reduceCtorEq,zq,zr,zs,zt,↓aA,↓az,↓au,↓ar,↓ay,↓aw,↓ak,↓aj,↓aE,↓aD,unA,ne_eq,not_true_eq_false,not_false_eq_true,lg,iP,g12,g13,gi,lv,hc,R63]
 have hr:=Fo (show i<P.length by omega)
 generalize P[i]=f at hr
 have hmem:=Fp hr
 obtain ⟨p1,p2,p3,p4⟩:=o2 f hmem
 have ix:=cL hr
 have ff:=bN f
 rw [ff] at ix
 have lp:=bW f.params
 have ll:=bW f.locals
 have lb:=dv f.blocks
 have hyes:mnF f=true→P.any mnF=true:=fun h=>F1.2 ⟨f,hmem,h⟩
 rcases ai ((8:Int)<f.params.length) with ⟨c2,d2⟩|⟨c2,d2⟩
 ·rw [hyes (by unfold mnF;rw [decide_eq_true c2,Gl])]
  simp -implicitDefEqProofs only [RA,ae,zp,↓reduceIte,reduceCtorEq,zq,zr,zs,zt,↓aA,↓az,↓au,↓ar,↓ay,↓aw,↓ak,↓aj,↓aE,↓aD,unA,ne_eq,not_true_eq_false,not_false_eq_true,lg,iP,g12,g13,gi,lv,hc,ix,lp,ll,lb,d2,R63]
 rcases ai ((40:Int)<f.locals.length) with ⟨c3,d3⟩|⟨c3,d3⟩
 ·rw [hyes (by unfold mnF;rw [decide_eq_true c3,Gl,Gn])]
  simp -implicitDefEqProofs only [RA,ae,zp,↓reduceIte,reduceCtorEq,zq,zr,zs,zt,↓aA,↓az,↓au,↓ar,↓ay,↓aw,↓ak,↓aj,↓aE,↓aD,unA,ne_eq,not_true_eq_false,not_false_eq_true,lg,iP,g12,g13,gi,lv,hc,ix,lp,ll,lb,d2,d3,R63]
 have f2:IntKind.i64.wrap ((f.params.length:Int)+(f.locals.length:Int))=(f.params.length:Int)+(f.locals.length:Int):=w64 (by omega) (by omega)
 rcases ai ((40:Int)<f.params.length+f.locals.length) with ⟨c4,d4⟩|⟨c4,d4⟩
 ·rw [hyes (by unfold mnF;rw [decide_eq_true c4,Gl,Gn,Gn])]
  simp -implicitDefEqProofs only [RA,ae,zp,↓reduceIte,reduceCtorEq,zq,zr,zs,zt,↓aA,↓az,↓au,↓ar,↓ay,↓aw,↓ak,↓aj,↓aE,↓aD,unA,ne_eq,not_true_eq_false,not_false_eq_true,lg,iP,g12,g13,gi,lv,hc,ix,lp,ll,lb,d2,d3,f2,d4,R63]
 rcases ai ((60:Int)<f.blocks.length) with ⟨c5,d5⟩|⟨c5,d5⟩
 ·rw [hyes (by unfold mnF;rw [decide_eq_true c5,Gl,Gn,Gn,Gn])]
  simp -implicitDefEqProofs only [RA,ae,zp,↓reduceIte,reduceCtorEq,zq,zr,zs,zt,↓aA,↓az,↓au,↓ar,↓ay,↓aw,↓ak,↓aj,↓aE,↓aD,unA,ne_eq,not_true_eq_false,not_false_eq_true,lg,iP,g12,g13,gi,lv,hc,ix,lp,ll,lb,d2,d3,f2,d4,d5,R63]
 have hmn:mnF f=f.blocks.any fun b=>decide ((60:Int)<b.steps.length):=by
  unfold mnF;rw [decide_eq_false c2,decide_eq_false c3,decide_eq_false c4,decide_eq_false c5];simp only [Gm]
 rw [hmn] at hyes
 simp -implicitDefEqProofs only [RA,ae,zp,↓reduceIte,reduceCtorEq,zq,zr,zs,zt,↓aA,↓az,↓au,↓ar,↓ay,↓aw,↓ak,↓aj,↓aE,↓aD,unA,ne_eq,not_true_eq_false,not_false_eq_true,lg,iP,g12,g13,gi,lv,hc,ix,lp,ll,lb,d2,d3,f2,d4,d5]
 refine aJ (fun q st=>∃ j:Nat,q=f.blocks.length-j∧j≤f.blocks.length∧ah st.env 12=some (bM P)∧ah st.env 13=some (.int .i64 P.length)∧ah st.env 14=some (.int .i64 i)∧ah st.env 45=some (cp f.blocks)∧ah st.env 46=some (.int .i64 f.blocks.length)∧ah st.env 47=some (.int .i64 j)∧((f.blocks.take j).any fun b=>decide ((60:Int)<b.steps.length))=false∧st.dm=[]) (n:=f.blocks.length) aI
  ⟨0,rfl,by omega,by simp [ah,g12,g13],by simp [ah,g12,g13],by simp [ah,gi],by simp [ah],by simp [ah],by simp [ah],rfl,rfl⟩ ?_
 clear g12 g13 gi
 rintro q ⟨env,heap,nx2,dm⟩ ⟨j,rfl,hj,g12,g13,gi,g45,g46,gj,hb,hdm⟩
 simp only at g12 g13 gi g45 g46 gj hb hdm
 subst hdm
 have f3:=wS (i:=j) (by omega)
 by_cases hcj:(j:Int)<(f.blocks.length:Int)
 case neg =>
  rw [show f.blocks.take j=f.blocks from Fs (by omega)] at hb
  simp -implicitDefEqProofs only [RA,ae,zp,↓reduceIte,reduceCtorEq,zq,zr,zs,zt,↓aA,↓az,↓au,↓ar,↓ay,↓aw,↓ak,↓aj,↓aE,↓aD,unA,ne_eq,not_true_eq_false,not_false_eq_true,sq,nA,g12,g13,gi,g45,g46,gj,lb,hcj,f1]
  refine ⟨P.length-(i+1),by omega,i+1,rfl,by omega,rfl,?_⟩
  rw [aQ hr,List.any_append,ha,Gm,List.any_cons,List.any_nil,Gk,hmn,hb]
 have hrj:=Fo (show j<f.blocks.length by omega)
 generalize f.blocks[j]=b at hrj
 have hmb:=Fp hrj
 have ixb:=dH hrj
 rw [eD] at ixb
 have ls:=eh b.steps
 have p5:=p4 b hmb
 rcases ai ((60:Int)<b.steps.length) with ⟨c6,d6⟩|⟨c6,d6⟩
 ·rw [hyes (F1.2 ⟨b,hmb,decide_eq_true c6⟩)]
  simp -implicitDefEqProofs only [RA,ae,zp,↓reduceIte,reduceCtorEq,zq,zr,zs,zt,↓aA,↓az,↓au,↓ar,↓ay,↓aw,↓ak,↓aj,↓aE,↓aD,unA,ne_eq,not_true_eq_false,not_false_eq_true,↓aC,↓aB,sq,nA,g12,g13,gi,g45,g46,gj,lb,hcj,ixb,ls,d6,R63]
 ·simp -implicitDefEqProofs only [RA,ae,zp,↓reduceIte,reduceCtorEq,zq,zr,zs,zt,↓aA,↓az,↓au,↓ar,↓ay,↓aw,↓ak,↓aj,↓aE,↓aD,unA,ne_eq,not_true_eq_false,not_false_eq_true,↓aC,↓aB,sq,nA,g12,g13,gi,g45,g46,gj,lb,hcj,ixb,ls,d6,f3]
  refine ⟨f.blocks.length-(j+1),by omega,j+1,rfl,by omega,rfl,?_⟩
  rw [aQ hrj,List.any_append,hb,Gm,List.any_cons,List.any_nil,Gk]
  exact decide_eq_false c6
theorem w67 (P:Pi) (ho:okL P):Pure Tryz.prog 67 [.agg (piE P)] (.bool (mnP P)):=by
 refine Pure.of fun nx=>AC.go aI is67 (by simp) ?_
 obtain ⟨o1,o2⟩:=ho
 have lv:=cX P
 unfold mnP piE
 rcases ai ((16:Int)<P.length) with ⟨c1,d1⟩|⟨c1,d1⟩
 ·rw [decide_eq_true c1,Gl]
  simp -implicitDefEqProofs only [RA,ae,zp,↓reduceIte,reduceCtorEq,zq,zr,zs,zt,↓aA,↓az,↓au,↓ar,↓ay,↓aw,↓ak,↓aj,↓aE,↓aD,unA,ne_eq,not_true_eq_false,not_false_eq_true,A67,Cr,lv,d1,R67]
 rw [decide_eq_false c1,Gm]
 simp -implicitDefEqProofs only [RA,ae,zp,↓reduceIte,reduceCtorEq,zq,zr,zs,zt,↓aA,↓az,↓au,↓ar,↓ay,↓aw,↓ak,↓aj,↓aE,↓aD,unA,ne_eq,not_true_eq_false,not_false_eq_true,A67,Cr,lv,d1]
 refine aJ (fun q st=>∃ i:Nat,q=P.length-i∧i≤P.length∧ah st.env 1=some (.op nx 0)∧ah st.env 3=some (.int .i64 i)∧aq st.heap nx=some (.cells [bM P])∧nx<st.nx∧(P.take i).any mnF=false∧st.dm=[]) (n:=P.length) aI
  ⟨0,rfl,by omega,by simp [ah],by simp [ah],by (simp only;repeat (first|rw [af,if_pos rfl]|rw [af,if_neg (by omega)])),by simp only;omega,rfl,rfl⟩ ?_
 rintro q ⟨env,heap,nx',dm⟩ ⟨i,rfl,hi,g1,gi,hx,hnx,ha,hdm⟩
 simp only at g1 gi hx hnx ha hdm
 subst hdm
 have f1:=wS (i:=i) (by omega)
 by_cases hc:(i:Int)<(P.length:Int)
 case neg =>
  rw [show P.take i=P from Fs (by omega)] at ha
  rw [ha]
  simp -implicitDefEqProofs only [RA,ae,zp,↓reduceIte,reduceCtorEq,zq,zr,zs,zt,↓aA,↓az,↓au,↓ar,↓ay,↓aw,↓ak,↓aj,↓aE,↓aD,unA,ne_eq,not_true_eq_false,not_false_eq_true,lf,iO,g1,gi,hx,lv,hc,R67]
 have hr:=Fo (show i<P.length by omega)
 generalize P[i]=f at hr
 have hmem:=Fp hr
 obtain ⟨p1,p2,p3,p4⟩:=o2 f hmem
 have ix:=cL hr
 have ff:=bN f
 rw [ff] at ix
 have lp:=bW f.params
 have ll:=bW f.locals
 have lb:=dv f.blocks
 have hyes:mnF f=true→P.any mnF=true:=fun h=>F1.2 ⟨f,hmem,h⟩
 have q1:(nx=nx)=True:=eq_true rfl
 have q2:(nx'=nx)=False:=eq_false (by omega)
 rcases ai ((8:Int)<f.params.length) with ⟨c2,d2⟩|⟨c2,d2⟩
 ·rw [hyes (by unfold mnF;rw [decide_eq_true c2,Gl])]
  simp -implicitDefEqProofs only [RA,ae,zp,↓reduceIte,reduceCtorEq,zq,zr,zs,zt,↓aA,↓az,↓au,↓ar,↓ay,↓aw,↓ak,↓aj,↓aE,↓aD,unA,ne_eq,not_true_eq_false,not_false_eq_true,lf,iO,g1,gi,hx,lv,hc,ix,lp,ll,lb,d2,q2,R67]
 rcases ai ((40:Int)<f.locals.length) with ⟨c3,d3⟩|⟨c3,d3⟩
 ·rw [hyes (by unfold mnF;rw [decide_eq_true c3,Gl,Gn])]
  simp -implicitDefEqProofs only [RA,ae,zp,↓reduceIte,reduceCtorEq,zq,zr,zs,zt,↓aA,↓az,↓au,↓ar,↓ay,↓aw,↓ak,↓aj,↓aE,↓aD,unA,ne_eq,not_true_eq_false,not_false_eq_true,lf,iO,g1,gi,hx,lv,hc,ix,lp,ll,lb,d2,d3,q2,R67]
 have f2:IntKind.i64.wrap ((f.params.length:Int)+(f.locals.length:Int))=(f.params.length:Int)+(f.locals.length:Int):=w64 (by omega) (by omega)
 rcases ai ((40:Int)<f.params.length+f.locals.length) with ⟨c4,d4⟩|⟨c4,d4⟩
 ·rw [hyes (by unfold mnF;rw [decide_eq_true c4,Gl,Gn,Gn])]
  simp -implicitDefEqProofs only [RA,ae,zp,↓reduceIte,reduceCtorEq,zq,zr,zs,zt,↓aA,↓az,↓au,↓ar,↓ay,↓aw,↓ak,↓aj,↓aE,↓aD,unA,ne_eq,not_true_eq_false,not_false_eq_true,lf,iO,g1,gi,hx,lv,hc,ix,lp,ll,lb,d2,d3,f2,d4,q2,R67]
 rcases ai ((60:Int)<f.blocks.length) with ⟨c5,d5⟩|⟨c5,d5⟩
 ·rw [hyes (by unfold mnF;rw [decide_eq_true c5,Gl,Gn,Gn,Gn])]
  simp -implicitDefEqProofs only [RA,ae,zp,↓reduceIte,reduceCtorEq,zq,zr,zs,zt,↓aA,↓az,↓au,↓ar,↓ay,↓aw,↓ak,↓aj,↓aE,↓aD,unA,ne_eq,not_true_eq_false,not_false_eq_true,lf,iO,g1,gi,hx,lv,hc,ix,lp,ll,lb,d2,d3,f2,d4,d5,q2,R67]
 have hmn:mnF f=f.blocks.any fun b=>decide ((60:Int)<b.steps.length):=by
  unfold mnF;rw [decide_eq_false c2,decide_eq_false c3,decide_eq_false c4,decide_eq_false c5];simp only [Gm]
 rw [hmn] at hyes
 simp -implicitDefEqProofs only [RA,ae,zp,↓reduceIte,reduceCtorEq,zq,zr,zs,zt,↓aA,↓az,↓au,↓ar,↓ay,↓aw,↓ak,↓aj,↓aE,↓aD,unA,ne_eq,not_true_eq_false,not_false_eq_true,lf,iO,g1,gi,hx,lv,hc,ix,lp,ll,lb,d2,d3,f2,d4,d5,q2]
 refine aJ (fun q st=>∃ j:Nat,q=f.blocks.length-j∧j≤f.blocks.length∧ah st.env 1=some (.op nx 0)∧ah st.env 4=some (.op nx' 0)∧ah st.env 3=some (.int .i64 i)∧ah st.env 5=some (.int .i64 j)∧aq st.heap nx=some (.cells [bM P])∧nx<st.nx∧aq st.heap nx'=some (.cells [.str f.name,bp f.params,.int .i64 f.result,bp f.locals,cp f.blocks])∧((f.blocks.take j).any fun b=>decide ((60:Int)<b.steps.length))=false∧st.dm=[]) (n:=f.blocks.length) aI
  ⟨0,rfl,by omega,by simp [ah,g1],by simp [ah],by simp [ah,gi],by simp [ah],by simp only;rw [af,if_neg (by omega),af,if_neg (by omega)];exact hx,by simp only;omega,by (simp only;repeat (first|rw [af,if_pos rfl]|rw [af,if_neg (by omega)])),rfl,rfl⟩ ?_
 clear g1 gi hx hnx q2
 rintro q ⟨env,heap,nx2,dm⟩ ⟨j,rfl,hj,g1,g4,gi,gj,hx,hnx,hf,hb,hdm⟩
 simp only at g1 g4 gi gj hx hnx hf hb hdm
 subst hdm
 have f3:=wS (i:=j) (by omega)
 by_cases hcj:(j:Int)<(f.blocks.length:Int)
 case neg =>
  rw [show f.blocks.take j=f.blocks from Fs (by omega)] at hb
  simp -implicitDefEqProofs only [RA,ae,zp,↓reduceIte,reduceCtorEq,zq,zr,zs,zt,↓aA,↓az,↓au,↓ar,↓ay,↓aw,↓ak,↓aj,↓aE,↓aD,unA,ne_eq,not_true_eq_false,not_false_eq_true,so,ny,g1,g4,gi,gj,hx,hf,lb,hcj,f1]
  refine ⟨P.length-(i+1),by omega,i+1,rfl,by omega,rfl,hnx,?_⟩
  rw [aQ hr,List.any_append,ha,Gm,List.any_cons,List.any_nil,Gk,hmn,hb]
 have hrj:=Fo (show j<f.blocks.length by omega)
 generalize f.blocks[j]=b at hrj
 have hmb:=Fp hrj
 have ixb:=dH hrj
 rw [eD] at ixb
 have ls:=eh b.steps
 have p5:=p4 b hmb
 rcases ai ((60:Int)<b.steps.length) with ⟨c6,d6⟩|⟨c6,d6⟩
 ·rw [hyes (F1.2 ⟨b,hmb,decide_eq_true c6⟩)]
  simp -implicitDefEqProofs only [RA,ae,zp,↓reduceIte,reduceCtorEq,zq,zr,zs,zt,↓aA,↓az,↓au,↓ar,↓ay,↓aw,↓ak,↓aj,↓aE,↓aD,unA,ne_eq,not_true_eq_false,not_false_eq_true,↓aC,↓aB,so,ny,g1,g4,gi,gj,hx,hf,lb,hcj,ixb,ls,d6,R67]
 ·simp -implicitDefEqProofs only [RA,ae,zp,↓reduceIte,reduceCtorEq,zq,zr,zs,zt,↓aA,↓az,↓au,↓ar,↓ay,↓aw,↓ak,↓aj,↓aE,↓aD,unA,ne_eq,not_true_eq_false,not_false_eq_true,↓aC,↓aB,so,ny,g1,g4,gi,gj,hx,hf,lb,hcj,ixb,ls,d6,f3]
  refine ⟨f.blocks.length-(j+1),by omega,j+1,rfl,by omega,rfl,hnx,?_⟩
  rw [aQ hrj,List.any_append,hb,Gm,List.any_cons,List.any_nil,Gk]
  exact decide_eq_false c6
theorem aR.two {e:Nat} {h:Heap} {nx:Nat} {x:AV} {l:List Pm} (ho:aR e 2 h nx x (l.map pmE)) {i:Nat} {p:Pm} (hr:l[i]?=some p) :
  ∃ b FL O rest,idxA 2 x (i:Int)=some (.op b O)∧aq h b=some (.cells FL)∧FL.drop O=.str p.1::.int .i64 p.2::rest∧b<nx:=by
 have hr2:(l.map pmE)[i]?=some (pmE p):=by rw [List.getElem?_map,hr];rfl
 obtain ⟨b,o,cs,h1,h2,h3⟩:=ho.row (dR l) hr2
 simp only [bK] at h2
 split at h2
 case h_2=>cases h2
 rename_i FL hFL
 simp only [Option.some.injEq] at h2
 rw [← h2] at h3
 have hb:b<nx:=by
  rcases ho with ⟨rfl,h0⟩|⟨b',rfl,g1,g2⟩
  ·rw [h0] at hr2;simp at hr2
  ·simp only [idxA] at h1
   split at h1
   ·injection h1 with h1;injection h1 with e1 e2;omega
   ·cases h1
 refine ⟨b,FL,o,(FL.drop o).drop 2,h1,hFL,?_,hb⟩
 rw [show (AV.str p.1::.int .i64 p.2::(FL.drop o).drop 2)=pmE p++(FL.drop o).drop 2 from rfl,← h3,List.take_append_drop]
def clV (V:List Pm):Bool:=V.all (fun v=>dI v.1&&wide v.2)&&decide ((V.map (·.1)).Nodup)
theorem jl {V:List Pm} {r:Pm} (hr:r∈V) (h:(dI r.1&&wide r.2)=false):clV V=false:=by
 unfold clV
 rw [Bool.and_eq_false_iff]
 left
 rw [Bool.eq_false_iff]
 intro hh
 rw [Fz.1 hh r hr] at h;cases h
theorem rW {V:List Pm} {r:Pm} {i:Nat} (hr:V[i]?=some r) (h:r.1∈(V.take i).map (·.1)):clV V=false:=by
 unfold clV
 rw [Bool.and_eq_false_iff]
 right
 rw [decide_eq_false_iff_not]
 intro hn
 have hV:V=V.take i++(r::V.drop (i+1)):=by rw [← bA hr,List.take_append_drop]
 rw [hV,FC] at hn
 have:=(List.nodup_append.1 hn).2.2 r.1 h r.1 (by simp)
 exact this rfl
theorem rX {V:List Pm} {r:Pm} (h:clV V=true) (h1:dI r.1=true) (h2:wide r.2=true) (h3:r.1∉V.map (·.1)):clV (V++[r])=true:=by
 unfold clV at h ⊢
 simp only [Gd,decide_eq_true_eq] at h ⊢
 refine ⟨by rw [List.all_append,h.1];simp [h1,h2],?_⟩
 rw [FC]
 refine List.nodup_append.2 ⟨h.2,by simp,fun a ha b hb e=>?_⟩
 simp at hb
 subst e;subst hb;exact h3 ha
theorem jk {V:List Pm} (h:clV V=true):∀ p∈V,1≤p.2:=fun p hp=>by
 unfold clV at h
 simp only [Gd] at h
 have:=Fz.1 h.1 p hp
 simp only [Gd] at this
 exact (dz this.2).1
theorem tX {V:List Pm} {n:Nm} (h:∀ p∈V,1≤p.2):vw V n=0↔n∉V.map (·.1):=by
 have e:=rM (n:=n) h
 have k:kn V n=true↔n∈V.map (·.1):=by
  unfold kn
  rw [F1]
  constructor
  ·rintro ⟨p,hp,e⟩;exact Fy.2 ⟨p,hp,by simpa using e⟩
  ·intro h;obtain ⟨p,hp,e⟩:=Fy.1 h;exact ⟨p,hp,by simpa using e⟩
 rw [← k,e];simp
theorem w64c (f:Fn) (h:Heap) (nx:Nat) (h1:f.params.length≤4000000) (h2:f.locals.length≤4000000) (hN:∀ p∈f.vars,p.1.length≤100000):AC Tryz.prog 64 [.agg (fnE f)] h nx fun y h' n'=>nx≤n'∧(∀ k o,k<nx→aq h k=some o→aq h' k=some o) ∧
   ((clV f.vars=false∧y=.ret (.tup [.nilM,.bool false]))∨(clV f.vars=true∧∃ m st ck,y=.ret (.tup [.mp m,.bool true])∧nx≤m∧m<n'∧aq h' m=some (.map (f.vars.map cW) st ck))):=by
 refine AC.go aI is64 (by simp) ?_
 have n1:(nx+1=nx)=False:=eq_false (by omega)
 rw [bN]
 simp -implicitDefEqProofs only [RA,ae,zp,↓reduceIte,reduceCtorEq,zq,zr,zs,zt,A64,EB,↓au,↓ar,↓ay,↓aw,n1]
 generalize hH:(_::_:Heap)=H
 refine (AC.own (fun nx=>Dz (sz:=2) (e:=57) (by_:=24) (z:=[.str [],.int .i64 0]) aI rfl is74 (f.params.map pmE) (dR _) (by simp only [Fw];omega) (by simp only [Fw,maxLen];omega) nx) H _).mono ?_
 have q0:aq H nx=some (.cells [.str f.name,bp f.params,.int .i64 f.result,bp f.locals,cp f.blocks]):=by subst hH;rw [af,if_neg (by omega),af,if_pos rfl]
 have q1:aq H (nx+1)=some (.map [] [] 0):=by subst hH;rw [af,if_pos rfl]
 have qk:∀ k o,k<nx→aq h k=some o→aq H k=some o:=fun k o hk ho=>by
  subst hH
  repeat rw [af,if_neg (by omega)]
  exact ho
 clear hH
 rintro y hh n2 ⟨v,h3,rfl,rfl,hn2,hd,ho⟩
 obtain ⟨v2,h4,n4,ea,ow,hn4,k9,b9⟩:=(ho.front (h:=H)).grw (bytes:=24) (ns:=f.locals.map pmE) (dR _) (dR _) (by simp only [Fw];omega) (by simp only [Fw,maxLen];omega)
 rw [← FC] at ow
 have keep4:∀ k o,k<nx+2→aq H k=some o→aq h4 k=some o:=fun k o hk hg=>by
  refine k9 k o (by omega) (by rw [bG,hd k o hg];exact hg) fun hb=>?_
  obtain ⟨_,e2,_⟩:=ho.blk hb
  rw [hd k o hg] at e2;cases e2
 have bv:∀ b,aP v2=some b→b≠nx+1∧(b<nx→aq h b=none):=fun b hb=>by
  rcases b9 b hb with hb|hb
  ·exact ⟨by omega,fun h=>by omega⟩
  ·obtain ⟨_,e2,_⟩:=ho.blk hb
   refine ⟨fun e=>?_,fun hlt=>?_⟩
   ·subst e;rw [hd _ _ q1] at e2;cases e2
   ·cases hx:aq h b with
    | none=>rfl
    | some o=>rw [hd _ _ (qk b o hlt hx)] at e2;cases e2
 have lo:eN v2=some f.vars.length:=by rw [ow.len,Fw];rfl
 have hVl:f.vars.length≤8000000:=by rw [Fn.vars,List.length_append];omega
 have g0:=keep4 (nx+1) _ (by omega) q1
 have kk:∀ k o,k<nx→aq h k=some o→aq h4 k=some o:=fun k o hk hg=>keep4 k o (by omega) (qk k o hk hg)
 rw [show f.params++f.locals=f.vars from rfl] at ow
 rw [show (AV.lst 2 (f.locals.map pmE))=bp f.locals from rfl] at ea
 generalize f.vars=V at *
 have qH:aq (h3++H) nx=some (.cells [.str f.name,bp f.params,.int .i64 f.result,bp f.locals,cp f.blocks]):=by rw [bG,hd _ _ q0];exact q0
 simp -implicitDefEqProofs only [RA,ae,zp,↓reduceIte,reduceCtorEq,zq,zr,zs,zt,ea,lo,unA,qH]
 clear lo ea k9 b9 keep4 ho hd q0 q1 qk
 refine aJ (fun q st=>∃ (i:Nat) (sm:List Nat) (ck:Nat),q=V.length-i∧i≤V.length∧ah st.env 4=some (.mp (nx+1))∧ah st.env 13=some v2∧ah st.env 14=some (.int .i64 V.length)∧ah st.env 15=some (.int .i64 i)∧aR 57 2 st.heap st.nx v2 (V.map pmE)∧aq st.heap (nx+1)=some (.map ((V.take i).map cW) sm ck)∧nx+1<st.nx∧(∀ k o,k<nx→aq h k=some o→aq st.heap k=some o)∧clV (V.take i)=true∧st.dm=[]) (n:=V.length) aI
  ⟨0,[],0,rfl,by omega,by simp [ah],by simp [ah],by simp [ah],by simp [ah],ow,g0,by simp only;omega,kk,by simp [clV],rfl⟩ ?_
 rintro q ⟨env,heap,nx',dm⟩ ⟨i,sm,ck,rfl,hi,g4,g13,g14,g15,ow',gm,hlt,hk,hcl,hdm⟩
 simp only at g4 g13 g14 g15 ow' gm hlt hk hdm
 subst hdm
 have f1:=wS (i:=i) (by omega)
 by_cases hc:(i:Int)<(V.length:Int)
 case neg =>
  rw [show V.take i=V from Fs (by omega)] at hcl gm
  simp -implicitDefEqProofs only [RA,ae,zp,↓reduceIte,reduceCtorEq,zq,zr,zs,zt,wX,qy,g4,g13,g14,g15,hc,R64]
  exact ⟨by omega,hk,.inr ⟨hcl,nx+1,sm,ck,rfl,by omega,hlt,gm⟩⟩
 have hr:=Fo (show i<V.length by omega)
 generalize V[i]=r at hr
 have hmem:=Fp hr
 obtain ⟨b,FL,O,rest,ix,hb,hdr,hbn⟩:=aR.two ow' hr
 have w75r:=AG r.1 (hN r hmem)
 have r1:(nx'=b)=False:=eq_false (by omega)
 have r2:(nx'=nx+1)=False:=eq_false (by omega)
 have kc:∀ (X Y:AO) k o,k<nx→aq h k=some o→aq ((nx',X)::(nx',Y)::heap) k=some o:=fun X Y k o h1 h2=>by rw [af,if_neg (by omega),af,if_neg (by omega)];exact hk k o h1 h2
 have kif:∀ (X Y:AO) k o,k<nx→aq h k=some o→(if nx'=k then some X else if nx'=k then some Y else aq heap k)=some o:=fun X Y k o h1 h2=>by rw [if_neg (by omega),if_neg (by omega)];exact hk k o h1 h2
 simp -implicitDefEqProofs only [RA,ae,zp,↓reduceIte,reduceCtorEq,zq,zr,zs,zt,wX,qy,g4,g13,g14,g15,hc,ix,hb,hdr,r1]
 refine w75r.use fun k1 hk1=>?_
 cases hn:dI r.1
 ·have hbad:=jl hmem (by rw [hn,Gf])
  simp -implicitDefEqProofs only [RA,ae,zp,↓reduceIte,reduceCtorEq,zq,zr,zs,zt,unA,R64]
  exact ⟨by omega,kif _ _,.inl hbad⟩
 rcases ai (r.2<1) with ⟨c2,d2⟩|⟨c2,d2⟩
 ·have hbad:=jl hmem (by rw [wide,decide_eq_false (p:=1≤r.2) (by omega),Gf,Gj])
  simp -implicitDefEqProofs only [RA,ae,zp,↓reduceIte,reduceCtorEq,zq,zr,zs,zt,unA,g4,g13,g14,g15,hb,hdr,r1,r2,ne_eq,not_true_eq_false,not_false_eq_true,d2,R64]
  exact ⟨by omega,kif _ _,.inl hbad⟩
 rcases ai ((64:Int)<r.2) with ⟨c3,d3⟩|⟨c3,d3⟩
 ·have hbad:=jl hmem (by rw [wide,decide_eq_false (p:=r.2≤64) (by omega),Gj,Gj])
  simp -implicitDefEqProofs only [RA,ae,zp,↓reduceIte,reduceCtorEq,zq,zr,zs,zt,unA,g4,g13,g14,g15,hb,hdr,r1,r2,ne_eq,not_true_eq_false,not_false_eq_true,d2,d3,R64]
  exact ⟨by omega,kif _ _,.inl hbad⟩
 have hwd:wide r.2=true:=by rw [wide,decide_eq_true (by omega),decide_eq_true (by omega)];rfl
 have lk:∀ X Y,eV ((nx',X)::(nx',Y)::heap) .str (.int .i64 0) false (.mp (nx+1)) (.str r.1)=some (.int .i64 (vw (V.take i) r.1)):=fun X Y=>fW (by rw [af,if_neg (by omega),af,if_neg (by omega)];exact gm) r.1
 rcases ai (vw (V.take i) r.1=0) with ⟨c4,d4⟩|⟨c4,d4⟩
 case inr =>
  have hbad:=rW hr (by
   rcases Classical.em (r.1∈(V.take i).map (·.1)) with h|h
   ·exact h
   ·exact absurd ((tX (jk hcl)).2 h) c4)
  simp -implicitDefEqProofs only [RA,ae,zp,↓reduceIte,reduceCtorEq,zq,zr,zs,zt,unA,g4,g13,g14,g15,hb,hdr,r1,r2,ne_eq,not_true_eq_false,not_false_eq_true,d2,d3,lk,d4,R64]
  exact ⟨by omega,kif _ _,.inl hbad⟩
 have hnm:=(tX (jk hcl)).1 c4
 have sa:∀ X Y,mI ((nx',X)::(nx',Y)::heap) .str (.mp (nx+1)) (.str r.1) (.int .i64 r.2)=some ((nx+1,.map ((V.take i++[r]).map cW) (sm++[ck]) (ck+1))::(nx',X)::(nx',Y)::heap):=fun X Y =>
  kC r (by rw [af,if_neg (by omega),af,if_neg (by omega)];exact gm) (iu r.1 _ 0 fun p hp e=>hnm (Fy.2 ⟨p,hp,e⟩))
 simp -implicitDefEqProofs only [RA,ae,zp,↓reduceIte,reduceCtorEq,zq,zr,zs,zt,unA,g4,g13,g14,g15,hb,hdr,r1,r2,ne_eq,not_true_eq_false,not_false_eq_true,d2,d3,lk,d4,sa,f1]
 refine ⟨V.length-(i+1),by omega,i+1,sm++[ck],ck+1,rfl,by omega,rfl,?_,?_,by omega,fun k o h1 h2=>?_,?_⟩
 ·refine ow'.keep (by omega) fun b o hb2 hg=>?_
  obtain ⟨_,_,hlt2⟩:=ow'.blk hb2
  have:=(bv b hb2).1
  rw [af,if_neg (by omega),af,if_neg (by omega),af,if_neg (by omega)];exact hg
 ·rw [aQ hr]
 ·rw [if_neg (by omega)];exact kif _ _ k o h1 h2
 ·rw [aQ hr];exact rX hcl hn hwd hnm
def okK (b:Bk):Prop:=b.steps.length≤4000000∧(∀ s∈b.steps,jC s.terms)∧jC b.terms∧b.to.length≤4000000
def okF (f:Fn):Prop:=f.name.length≤100000∧f.params.length≤4000000∧f.locals.length≤4000000∧(∀ p∈f.vars,p.1.length≤100000)∧f.blocks.length≤4000000∧∀ b∈f.blocks,okK b
def jZ (P:Pi):Prop:=P.length≤4000000∧∀ f∈P,okF f
theorem jZ.p {P:Pi} (h:jZ P):okP P:=⟨h.1,fun f hf=>⟨(h.2 f hf).2.1,(h.2 f hf).2.2.1⟩⟩
theorem jZ.l {P:Pi} (h:jZ P):okL P:=⟨h.1,fun f hf=>⟨(h.2 f hf).2.1,(h.2 f hf).2.2.1,(h.2 f hf).2.2.2.2.1,fun b hb=>((h.2 f hf).2.2.2.2.2 b hb).1⟩⟩
def bkB (ft:Tm→Int→Bool) (fz:Tm→Bool) (P:Pi) (f:Fn) (b:Bk):Bool:=b.steps.all (stB ft fz P f.vars)&&enB ft P f b
def vaB (ft:Tm→Int→Bool) (fz:Tm→Bool) (P:Pi) (f:Fn):Bool :=
 dI f.name&&(decide (0≤f.result)&&(decide (f.result≤64)&&(decide (f.blocks.length≠0)&&f.blocks.all (bkB ft fz P f))))
theorem kq {α:Type} {l:List α} {g:α→Bool} {x:α} (hx:x∈l) (h:g x=false):l.all g=false:=by
 rw [Bool.eq_false_iff]
 intro hh
 rw [Fz.1 hh x hx] at h;cases h
theorem w65 (P:Pi) (f:Fn) (mv mf:Nat) (h:Heap) (nx:Nat) (st st2:List Nat) (ck ck2:Nat) (hP:okP P) (ho:okF f) (hm:aq h mv=some (.map (f.vars.map cW) st ck)) (hmn:mv<nx) (hf:aq h mf=some (.map ((FI P).map cW) st2 ck2)) (hfn:mf<nx) :
  AC Tryz.prog 65 [.agg (scE P f mv mf)] h nx (KP h nx (.bool (vaB (ftB f.vars) (ftZ f.vars) P f))):=by
 unfold KP
 refine AC.go aI is65 (by simp) ?_
 obtain ⟨o1,o2,o3,o4,o5,o6⟩:=ho
 have lb:=dv f.blocks
 have w75r:=AG f.name o1
 have kif:∀ (X:AO) k o,k<nx→aq h k=some o→(if nx=k then some X else aq h k)=some o:=fun X k o h1 h2=>by rw [if_neg (by omega)];exact h2
 unfold scE vaB
 simp -implicitDefEqProofs only [RA,ae,zp,↓reduceIte,reduceCtorEq,zq,zr,zs,zt,↓aA,↓az,↓au,↓ar,↓ay,↓aw,↓ak,↓aj,↓aC,↓aB,↓aE,↓aD,unA,ne_eq,not_true_eq_false,not_false_eq_true,A65,EA]
 refine w75r.use fun k1 hk1=>?_
 cases hn:dI f.name
 ·simp -implicitDefEqProofs only [RA,ae,zp,↓reduceIte,reduceCtorEq,zq,zr,zs,zt,↓aA,↓az,↓au,↓ar,↓ay,↓aw,↓ak,↓aj,↓aC,↓aB,↓aE,↓aD,unA,ne_eq,not_true_eq_false,not_false_eq_true,Gf,R65]
  exact ⟨by omega,kif _⟩
 rcases ai (f.result<0) with ⟨c1,d1⟩|⟨c1,d1⟩
 ·rw [decide_eq_false (p:=0≤f.result) (by omega)]
  simp -implicitDefEqProofs only [RA,ae,zp,↓reduceIte,reduceCtorEq,zq,zr,zs,zt,↓aA,↓az,↓au,↓ar,↓ay,↓aw,↓ak,↓aj,↓aC,↓aB,↓aE,↓aD,unA,ne_eq,not_true_eq_false,not_false_eq_true,d1,Gf,Gj,R65]
  exact ⟨by omega,kif _⟩
 rcases ai ((64:Int)<f.result) with ⟨c2,d2⟩|⟨c2,d2⟩
 ·rw [decide_eq_false (p:=f.result≤64) (by omega)]
  simp -implicitDefEqProofs only [RA,ae,zp,↓reduceIte,reduceCtorEq,zq,zr,zs,zt,↓aA,↓az,↓au,↓ar,↓ay,↓aw,↓ak,↓aj,↓aC,↓aB,↓aE,↓aD,unA,ne_eq,not_true_eq_false,not_false_eq_true,d1,d2,Gf,Gj,R65]
  exact ⟨by omega,kif _⟩
 rcases ai ((f.blocks.length:Int)=0) with ⟨c3,d3⟩|⟨c3,d3⟩
 ·rw [decide_eq_false (p:=f.blocks.length≠0) (by omega)]
  simp -implicitDefEqProofs only [RA,ae,zp,↓reduceIte,reduceCtorEq,zq,zr,zs,zt,↓aA,↓az,↓au,↓ar,↓ay,↓aw,↓ak,↓aj,↓aC,↓aB,↓aE,↓aD,unA,ne_eq,not_true_eq_false,not_false_eq_true,d1,d2,lb,d3,Gf,Gj,R65]
  exact ⟨by omega,kif _⟩
 rw [decide_eq_true (p:=0≤f.result) (by omega),decide_eq_true (p:=f.result≤64) (by omega),decide_eq_true (p:=f.blocks.length≠0) (by omega)]
 simp -implicitDefEqProofs only [RA,ae,zp,↓reduceIte,reduceCtorEq,zq,zr,zs,zt,↓aA,↓az,↓au,↓ar,↓ay,↓aw,↓ak,↓aj,↓aC,↓aB,↓aE,↓aD,unA,ne_eq,not_true_eq_false,not_false_eq_true,d1,d2,lb,d3,Ge]
 refine aJ (fun q st=>∃ i:Nat,q=f.blocks.length-i∧i≤f.blocks.length∧ah st.env 1=some (.op nx 0)∧ah st.env 33=some (cp f.blocks)∧ah st.env 34=some (.int .i64 f.blocks.length)∧ah st.env 35=some (.int .i64 i)∧aq st.heap nx=some (.cells [bM P,.str f.name,bp f.params,.int .i64 f.result,bp f.locals,cp f.blocks,.mp mv,.mp mf])∧nx<st.nx∧(∀ q o,q<nx→aq h q=some o→aq st.heap q=some o)∧(f.blocks.take i).all (bkB (ftB f.vars) (ftZ f.vars) P f)=true∧st.dm=[]) (n:=f.blocks.length) aI
  ⟨0,rfl,by omega,by simp [ah],by simp [ah],by simp [ah],by simp [ah],by (simp only;repeat (first|rw [af,if_pos rfl]|rw [af,if_neg (by omega)])),by simp only;omega,fun q o h1 h2=>by rw [af,if_neg (by omega)];exact h2,rfl,rfl⟩ ?_
 rintro q ⟨env,heap,nx',dm⟩ ⟨i,rfl,hi,g1,g33,g34,g35,gs,hlt,hk,ha,hdm⟩
 simp only at g1 g33 g34 g35 gs hlt hk ha hdm
 subst hdm
 have f1:=wS (i:=i) (by omega)
 by_cases hc:(i:Int)<(f.blocks.length:Int)
 case neg =>
  rw [show f.blocks.take i=f.blocks from Fs (by omega)] at ha
  rw [ha]
  simp -implicitDefEqProofs only [RA,ae,zp,↓reduceIte,reduceCtorEq,zq,zr,zs,zt,↓aA,↓az,↓au,↓ar,↓ay,↓aw,↓ak,↓aj,↓aC,↓aB,↓aE,↓aD,unA,ne_eq,not_true_eq_false,not_false_eq_true,wV,qw,g1,g33,g34,g35,hc,R65]
  exact ⟨by omega,hk⟩
 have hr:=Fo (show i<f.blocks.length by omega)
 generalize f.blocks[i]=b at hr
 have hmem:=Fp hr
 obtain ⟨p1,p2,p3,p4⟩:=o6 b hmem
 have ix:=dH hr
 rw [eD] at ix
 have ls:=eh b.steps
 have q1:(nx'=nx)=False:=eq_false (by omega)
 have hbad:bkB (ftB f.vars) (ftZ f.vars) P f b=false→f.blocks.all (bkB (ftB f.vars) (ftZ f.vars) P f)=false:=kq hmem
 simp -implicitDefEqProofs only [RA,ae,zp,↓reduceIte,reduceCtorEq,zq,zr,zs,zt,↓aA,↓az,↓au,↓ar,↓ay,↓aw,↓ak,↓aj,↓aC,↓aB,↓aE,↓aD,unA,ne_eq,not_true_eq_false,not_false_eq_true,wV,qw,g1,g33,g34,g35,hc,ix,ls]
 refine aJ (fun q st=>∃ j:Nat,q=b.steps.length-j∧j≤b.steps.length∧ah st.env 1=some (.op nx 0)∧ah st.env 33=some (cp f.blocks)∧ah st.env 34=some (.int .i64 f.blocks.length)∧ah st.env 35=some (.int .i64 i)∧ah st.env 4=some (.op nx' 0)∧ah st.env 40=some (eH b.steps)∧ah st.env 41=some (.int .i64 b.steps.length)∧ah st.env 42=some (.int .i64 j)∧aq st.heap nx=some (.cells [bM P,.str f.name,bp f.params,.int .i64 f.result,bp f.locals,cp f.blocks,.mp mv,.mp mf])∧aq st.heap nx'=some (.cells [eH b.steps,.int .u8 b.kind,.str b.func,bg b.terms,cD b.to])∧nx'<st.nx∧(∀ q o,q<nx→aq h q=some o→aq st.heap q=some o)∧(b.steps.take j).all (stB (ftB f.vars) (ftZ f.vars) P f.vars)=true∧st.dm=[]) (n:=b.steps.length) aI
  ⟨0,rfl,by omega,by simp [ah,g1],by simp [ah,g33],by simp [ah,g34],by simp [ah,g35],by simp [ah],by simp [ah],by simp [ah],by simp [ah],by simp only;rw [af,if_neg (by omega),af,if_neg (by omega)];exact gs,by (simp only;repeat (first|rw [af,if_pos rfl]|rw [af,if_neg (by omega)])),by simp only;omega,fun q o h1 h2=>by rw [af,if_neg (by omega),af,if_neg (by omega)];exact hk q o h1 h2,rfl,rfl⟩ ?_
 clear g1 g33 g34 g35 gs hk
 rintro q ⟨env,heap,nx2,dm⟩ ⟨j,rfl,hj,g1,g33,g34,g35,g4,g40,g41,g42,gs,gb,hlt2,hk,hb,hdm⟩
 simp only at g1 g33 g34 g35 g4 g40 g41 g42 gs gb hlt2 hk hb hdm
 subst hdm
 have f3:=wS (i:=j) (by omega)
 by_cases hcj:(j:Int)<(b.steps.length:Int)
 case neg =>
  rw [show b.steps.take j=b.steps from Fs (by omega)] at hb
  have hbk:bkB (ftB f.vars) (ftZ f.vars) P f b=enB (ftB f.vars) P f b:=by unfold bkB;rw [hb,Ge]
  have w:=w77 P f mv mf f.vars b heap nx2 st st2 ck ck2 hP p3 p4 (by omega) (hk _ _ hmn hm) (by omega) (hk _ _ hfn hf) (by omega)
  unfold scE enE at w
  simp -implicitDefEqProofs only [RA,ae,zp,↓reduceIte,reduceCtorEq,zq,zr,zs,zt,↓aA,↓az,↓au,↓ar,↓ay,↓aw,↓ak,↓aj,↓aC,↓aB,↓aE,↓aD,unA,ne_eq,not_true_eq_false,not_false_eq_true,wW,qx,g1,g33,g34,g35,g4,g40,g41,g42,gs,gb,hcj]
  refine w.mono ?_
  rintro y h2 n4 ⟨rfl,hn2,hk2⟩
  have hk3:∀ q o,q<nx→aq h q=some o→aq h2 q=some o:=fun q o h1 h2=>hk2 q o (by omega) (hk q o h1 h2)
  have gs2:=hk2 nx _ (by omega) gs
  rw [← hbk]
  cases hbb:bkB (ftB f.vars) (ftZ f.vars) P f b
  ·rw [hbad hbb]
   simp -implicitDefEqProofs only [RA,ae,zp,↓reduceIte,reduceCtorEq,zq,zr,zs,zt,↓aA,↓az,↓au,↓ar,↓ay,↓aw,↓ak,↓aj,↓aC,↓aB,↓aE,↓aD,unA,ne_eq,not_true_eq_false,not_false_eq_true,R65]
   exact ⟨by omega,hk3⟩
  ·simp -implicitDefEqProofs only [RA,ae,zp,↓reduceIte,reduceCtorEq,zq,zr,zs,zt,↓aA,↓az,↓au,↓ar,↓ay,↓aw,↓ak,↓aj,↓aC,↓aB,↓aE,↓aD,unA,ne_eq,not_true_eq_false,not_false_eq_true,g1,g33,g34,g35,f1]
   refine ⟨f.blocks.length-(i+1),by omega,i+1,rfl,by omega,rfl,gs2,by omega,hk3,?_⟩
   rw [aQ hr,List.all_append,ha,Ge]
   simp [hbb]
 have hrj:=Fo (show j<b.steps.length by omega)
 generalize b.steps[j]=s at hrj
 have hms:=Fp hrj
 have ixs:=fv hrj
 have w:=fun X Y=>w76 P f mv mf f.vars s ((nx2,X)::(nx2,Y)::heap) (nx2+1) st st2 ck ck2 hP (p2 s hms) (by rw [af,if_neg (by omega),af,if_neg (by omega)];exact hk _ _ hmn hm) (by omega) (by rw [af,if_neg (by omega),af,if_neg (by omega)];exact hk _ _ hfn hf) (by omega)
 unfold scE at w
 rw [gq] at ixs
 simp only [gq] at w
 have q2:(nx2=nx)=False:=eq_false (by omega)
 have q3:(nx2=nx')=False:=eq_false (by omega)
 simp -implicitDefEqProofs only [RA,ae,zp,↓reduceIte,reduceCtorEq,zq,zr,zs,zt,↓aA,↓az,↓au,↓ar,↓ay,↓aw,↓ak,↓aj,↓aC,↓aB,↓aE,↓aD,unA,ne_eq,not_true_eq_false,not_false_eq_true,wW,qx,g1,g33,g34,g35,g4,g40,g41,g42,gs,gb,hcj,ixs,q2,q3]
 refine (w _ _).mono ?_
 rintro y h2 n4 ⟨rfl,hn2,hk2⟩
 have ek:∀ q o,q<nx2→aq heap q=some o→aq h2 q=some o:=fun q o h1 h2=>hk2 q o (by omega) (by rw [af,if_neg (by omega),af,if_neg (by omega)];exact h2)
 have hk3:∀ q o,q<nx→aq h q=some o→aq h2 q=some o:=fun q o h1 h2=>ek q o (by omega) (hk q o h1 h2)
 cases hbb:stB (ftB f.vars) (ftZ f.vars) P f.vars s
 ·rw [hbad (by unfold bkB;rw [kq hms hbb,Gf])]
  simp -implicitDefEqProofs only [RA,ae,zp,↓reduceIte,reduceCtorEq,zq,zr,zs,zt,↓aA,↓az,↓au,↓ar,↓ay,↓aw,↓ak,↓aj,↓aC,↓aB,↓aE,↓aD,unA,ne_eq,not_true_eq_false,not_false_eq_true,R65]
  exact ⟨by omega,hk3⟩
 ·simp -implicitDefEqProofs only [RA,ae,zp,↓reduceIte,reduceCtorEq,zq,zr,zs,zt,↓aA,↓az,↓au,↓ar,↓ay,↓aw,↓ak,↓aj,↓aC,↓aB,↓aE,↓aD,unA,ne_eq,not_true_eq_false,not_false_eq_true,g1,g33,g34,g35,g4,g40,g41,g42,f3]
  refine ⟨b.steps.length-(j+1),by omega,j+1,rfl,by omega,rfl,ek _ _ (by omega) gs,ek _ _ (by omega) gb,by omega,hk3,?_⟩
  rw [aQ hrj,List.all_append,hb,Ge]
  simp [hbb]
theorem rU (r:Fn):∀ (l:Pi) (k:Int),fiL k (l++[r])=fiL k l++[(r.name,k+l.length)]
 | [],k=>by simp [fiL]
 | a::l,k=>by simp only [List.cons_append,fiL,rU r l (k+1),List.length_cons];congr 4;omega
theorem zY {P:Pi} {n:Nm}:vw (FI P) n=0↔n∉P.map (·.name):=by
 have key:fnO P n=none↔n∉P.map (·.name):=by
  unfold fnO
  rw [List.find?_eq_none]
  constructor
  ·intro h hm
   obtain ⟨g,hg,e⟩:=Fy.1 hm
   exact h g hg (by simpa using e)
  ·intro h g hg e
   exact h (Fy.2 ⟨g,hg,by simpa using e⟩)
 rw [← key]
 rcases vE n P 1 with ⟨h1,h2⟩|⟨j,g,h1,h2,h3⟩
 ·exact ⟨fun _=>h1,fun _=>h2⟩
 ·rw [h2]
  constructor
  ·intro h;have:vw (fiL 1 P) n=0:=h;omega
  ·intro h;cases h
theorem vF (P:Pi) (k:Int):(fiL k P).map (·.1)=P.map (·.name):=by
 induction P generalizing k with
 | nil=>rfl
 | cons a l ih=>simp only [fiL,List.map_cons,ih]
def fnB (P:Pi) (f:Fn):Bool:=clV f.vars&&vaB (ftB f.vars) (ftZ f.vars) P f
def ckE (P:Pi):Int:=if mnP P=true then 4 else if (P.map (·.name)).Nodup∧P.all (fnB P)=true∧P≠[] then 0 else 8
theorem vL {P:Pi} {r:Fn} {i:Nat} (hr:P[i]?=some r) (h:r.name∈(P.take i).map (·.name)):¬ (P.map (·.name)).Nodup:=by
 intro hn
 have hV:P=P.take i++(r::P.drop (i+1)):=by rw [← bA hr,List.take_append_drop]
 rw [hV,FC] at hn
 exact (List.nodup_append.1 hn).2.2 r.name h r.name (by simp) rfl
theorem w45 (P:Pi) (ho:jZ P):Pure Tryz.prog 45 [.agg (piE P)] (.int .i64 (ckE P)):=by
 refine Pure.of fun nx=>AC.go aI is45 (by simp) ?_
 have w63':=w63 P ho.l
 have hP:=ho.p
 obtain ⟨o1,o2⟩:=ho
 have lv:=cX P
 unfold ckE
 unfold piE at w63' ⊢
 simp -implicitDefEqProofs only [RA,ae,zp,↓reduceIte,reduceCtorEq,zq,zr,zs,zt,↓aA,↓az,↓au,↓ar,↓ay,↓aw,↓ak,↓aj,↓aC,↓aB,↓aE,↓aD,unA,ne_eq,not_true_eq_false,not_false_eq_true,A45,EL]
 refine w63'.use fun k1 hk1=>?_
 cases hm:mnP P
 case true =>
  rw [if_pos rfl]
  simp -implicitDefEqProofs only [RA,ae,zp,↓reduceIte,reduceCtorEq,zq,zr,zs,zt,↓aA,↓az,↓au,↓ar,↓ay,↓aw,↓ak,↓aj,↓aC,↓aB,↓aE,↓aD,unA,ne_eq,not_true_eq_false,not_false_eq_true,R45]
 rw [if_neg (by simp)]
 have a1:(k1=nx)=False:=eq_false (by omega)
 simp -implicitDefEqProofs only [RA,ae,zp,↓reduceIte,reduceCtorEq,zq,zr,zs,zt,↓aA,↓az,↓au,↓ar,↓ay,↓aw,↓ak,↓aj,↓aC,↓aB,↓aE,↓aD,unA,ne_eq,not_true_eq_false,not_false_eq_true,a1,lv]
 refine aJ (fun q st=>∃ (i:Nat) (sm:List Nat) (ck:Nat),q=P.length-i∧i≤P.length∧ah st.env 1=some (.op nx 0)∧ah st.env 3=some (.mp k1)∧ah st.env 14=some (bM P)∧ah st.env 15=some (.int .i64 P.length)∧ah st.env 16=some (.int .i64 i)∧aq st.heap nx=some (.cells [bM P])∧aq st.heap k1=some (.map ((FI (P.take i)).map cW) sm ck)∧k1<st.nx∧((P.take i).map (·.name)).Nodup∧st.dm=[]) (n:=P.length) aI
  ⟨0,[],0,rfl,by omega,by simp [ah],by simp [ah],by simp [ah],by simp [ah],by simp [ah],by (simp only;repeat (first|rw [af,if_pos rfl]|rw [af,if_neg (by omega)])),by simp only;rw [af,if_pos rfl];simp [FI,fiL],by simp only;omega,by simp,rfl⟩ ?_
 rintro q ⟨env,heap,nx',dm⟩ ⟨i,sm,ck,rfl,hi,g1,g3,g14,g15,g16,gs,gm,hlt,hnd,hdm⟩
 simp only at g1 g3 g14 g15 g16 gs gm hlt hdm
 subst hdm
 have f1:=wS (i:=i) (by omega)
 by_cases hc:(i:Int)<(P.length:Int)
 case pos =>
  have hr:=Fo (show i<P.length by omega)
  generalize P[i]=f at hr
  have ix:=cL hr
  rw [bN] at ix
  have q1:(nx'=k1)=False:=eq_false (by omega)
  have q2:(nx'=nx)=False:=eq_false (by omega)
  have lk:∀ X Y,eV ((nx',X)::(nx',Y)::heap) .str (.int .i64 0) false (.mp k1) (.str f.name)=some (.int .i64 (vw (FI (P.take i)) f.name)):=fun X Y=>fW (by rw [af,if_neg (by omega),af,if_neg (by omega)];exact gm) _
  rcases ai (vw (FI (P.take i)) f.name=0) with ⟨c1,d1⟩|⟨c1,d1⟩
  case inr =>
   have hd:¬ (P.map (·.name)).Nodup:=vL hr (by
    rcases Classical.em (f.name∈(P.take i).map (·.name)) with h|h
    ·exact h
    ·exact absurd (zY.2 h) c1)
   rw [if_neg (fun h=>hd h.1)]
   simp -implicitDefEqProofs only [RA,ae,zp,↓reduceIte,reduceCtorEq,zq,zr,zs,zt,↓aA,↓az,↓au,↓ar,↓ay,↓aw,↓ak,↓aj,↓aC,↓aB,↓aE,↓aD,unA,ne_eq,not_true_eq_false,not_false_eq_true,sw,nD,g1,g3,g14,g15,g16,hc,ix,lk,d1,q1,R45]
  have hnm:=zY.1 c1
  have sa:∀ X Y,mI ((nx',X)::(nx',Y)::heap) .str (.mp k1) (.str f.name) (.int .i64 ((i+1:Nat):Int))=some ((k1,.map ((FI (P.take i)++[(f.name,((i+1:Nat):Int))]).map cW) (sm++[ck]) (ck+1))::(nx',X)::(nx',Y)::heap):=fun X Y =>
   kC (f.name,((i+1:Nat):Int)) (by rw [af,if_neg (by omega),af,if_neg (by omega)];exact gm) (iu f.name _ 0 fun p hp e=>hnm (by
    rw [← vF (P.take i) 1]
    exact Fy.2 ⟨p,hp,e⟩))
  simp -implicitDefEqProofs only [RA,ae,zp,↓reduceIte,reduceCtorEq,zq,zr,zs,zt,↓aA,↓az,↓au,↓ar,↓ay,↓aw,↓ak,↓aj,↓aC,↓aB,↓aE,↓aD,unA,ne_eq,not_true_eq_false,not_false_eq_true,sw,nD,g1,g3,g14,g15,g16,hc,ix,lk,d1,q1,f1,sa]
  refine ⟨P.length-(i+1),by omega,i+1,sm++[ck],ck+1,rfl,by omega,rfl,?_,?_,by omega,?_⟩
  ·rw [if_neg (by omega),if_neg (by omega),if_neg (by omega)];exact gs
  ·rw [aQ hr,show FI (P.take i++[f])=FI (P.take i)++[(f.name,1+((P.take i).length:Int))] from rU f _ 1,List.length_take]
   rw [show (1:Int)+((min i P.length:Nat):Int)=((i+1:Nat):Int) by omega]
  ·rw [aQ hr,FC]
   refine List.nodup_append.2 ⟨hnd,by simp,fun a ha b hb e=>?_⟩
   simp at hb
   subst e;subst hb;exact hnm ha
 rw [show P.take i=P from Fs (by omega)] at hnd gm
 simp -implicitDefEqProofs only [RA,ae,zp,↓reduceIte,reduceCtorEq,zq,zr,zs,zt,↓aA,↓az,↓au,↓ar,↓ay,↓aw,↓ak,↓aj,↓aC,↓aB,↓aE,↓aD,unA,ne_eq,not_true_eq_false,not_false_eq_true,sw,nD,g1,g3,g14,g15,g16,gs,hc,lv]
 clear g14 g15 g16 lv
 have lv:=cX P
 refine aJ (fun q st=>∃ (i:Nat),q=P.length-i∧i≤P.length∧ah st.env 1=some (.op nx 0)∧ah st.env 3=some (.mp k1)∧ah st.env 33=some (bM P)∧ah st.env 34=some (.int .i64 P.length)∧ah st.env 35=some (.int .i64 i)∧aq st.heap nx=some (.cells [bM P])∧aq st.heap k1=some (.map ((FI P).map cW) sm ck)∧k1<st.nx∧(P.take i).all (fnB P)=true∧st.dm=[]) (n:=P.length) aI
  ⟨0,rfl,by omega,by simp [ah,g1],by simp [ah,g3],by simp [ah],by simp [ah],by simp [ah],gs,gm,hlt,rfl,rfl⟩ ?_
 clear g1 g3 gs gm hlt f1 hc hi
 rintro q ⟨env,heap,nx',dm⟩ ⟨i,rfl,hi,g1,g3,g33,g34,g35,gs,gm,hlt,ha,hdm⟩
 simp only at g1 g3 g33 g34 g35 gs gm hlt ha hdm
 subst hdm
 have f1:=wS (i:=i) (by omega)
 by_cases hc:(i:Int)<(P.length:Int)
 case neg =>
  rw [show P.take i=P from Fs (by omega)] at ha
  rcases ai ((P.length:Int)=0) with ⟨c1,d1⟩|⟨c1,d1⟩
  ·rw [if_neg (fun h=>h.2.2 (List.length_eq_zero_iff.1 (by omega)))]
   simp -implicitDefEqProofs only [RA,ae,zp,↓reduceIte,reduceCtorEq,zq,zr,zs,zt,↓aA,↓az,↓au,↓ar,↓ay,↓aw,↓ak,↓aj,↓aC,↓aB,↓aE,↓aD,unA,ne_eq,not_true_eq_false,not_false_eq_true,sv,nC,g1,g3,g33,g34,g35,gs,hc,lv,d1,R45]
  ·rw [if_pos ⟨hnd,ha,fun h=>c1 (by rw [h];rfl)⟩]
   simp -implicitDefEqProofs only [RA,ae,zp,↓reduceIte,reduceCtorEq,zq,zr,zs,zt,↓aA,↓az,↓au,↓ar,↓ay,↓aw,↓ak,↓aj,↓aC,↓aB,↓aE,↓aD,unA,ne_eq,not_true_eq_false,not_false_eq_true,sv,nC,g1,g3,g33,g34,g35,gs,hc,lv,d1,R45]
 have hr:=Fo (show i<P.length by omega)
 generalize P[i]=f at hr
 have hmem:=Fp hr
 have of:=o2 f hmem
 obtain ⟨t1,t2,t3,t4,t5,t6⟩:=o2 f hmem
 have ix:=cL hr
 have ff:=bN f
 rw [ff] at ix
 have q1:(nx'=k1)=False:=eq_false (by omega)
 have q2:(nx'=nx)=False:=eq_false (by omega)
 have w:=fun X Y=>w64c f ((nx',X)::(nx',Y)::heap) (nx'+1) t2 t3 t4
 rw [ff] at w
 simp -implicitDefEqProofs only [RA,ae,zp,↓reduceIte,reduceCtorEq,zq,zr,zs,zt,↓aA,↓az,↓au,↓ar,↓ay,↓aw,↓ak,↓aj,↓aC,↓aB,↓aE,↓aD,unA,ne_eq,not_true_eq_false,not_false_eq_true,sv,nC,g1,g3,g33,g34,g35,hc,ix,q1,q2]
 refine (w _ _).mono ?_
 rintro y h2 n4 ⟨hn4,hk4,hres⟩
 have gs2:=hk4 nx _ (by omega) (by rw [af,if_neg (by omega),af,if_neg (by omega)];exact gs)
 have gm2:=hk4 k1 _ (by omega) (by rw [af,if_neg (by omega),af,if_neg (by omega)];exact gm)
 have gf2:=hk4 nx' _ (by omega) (by rw [af,if_pos rfl])
 rcases hres with ⟨hcl,rfl⟩|⟨hcl,m,st,ck2,rfl,hm1,hm2,hm3⟩
 ·rw [if_neg (fun h=>by
   have:=Fz.1 h.2.1 f hmem
   unfold fnB at this;rw [hcl,Gf] at this;cases this)]
  simp -implicitDefEqProofs only [RA,ae,zp,↓reduceIte,reduceCtorEq,zq,zr,zs,zt,↓aA,↓az,↓au,↓ar,↓ay,↓aw,↓ak,↓aj,↓aC,↓aB,↓aE,↓aD,unA,ne_eq,not_true_eq_false,not_false_eq_true,g1,g3,g33,g34,g35,R45]
 have w65':=w65 P f m k1 h2 n4 st sm ck2 ck hP of hm3 hm2 gm2 (by omega)
 unfold scE at w65'
 simp -implicitDefEqProofs only [RA,ae,zp,↓reduceIte,reduceCtorEq,zq,zr,zs,zt,↓aA,↓az,↓au,↓ar,↓ay,↓aw,↓ak,↓aj,↓aC,↓aB,↓aE,↓aD,unA,ne_eq,not_true_eq_false,not_false_eq_true,g1,g3,g33,g34,g35,gs2,gf2]
 refine w65'.mono ?_
 rintro y h5 n5 ⟨rfl,hn5,hk5⟩
 cases hv:vaB (ftB f.vars) (ftZ f.vars) P f
 ·rw [if_neg (fun h=>by
   have:=Fz.1 h.2.1 f hmem
   unfold fnB at this;rw [hv,Gj] at this;cases this)]
  simp -implicitDefEqProofs only [RA,ae,zp,↓reduceIte,reduceCtorEq,zq,zr,zs,zt,↓aA,↓az,↓au,↓ar,↓ay,↓aw,↓ak,↓aj,↓aC,↓aB,↓aE,↓aD,unA,ne_eq,not_true_eq_false,not_false_eq_true,g1,g3,g33,g34,g35,R45]
 ·simp -implicitDefEqProofs only [RA,ae,zp,↓reduceIte,reduceCtorEq,zq,zr,zs,zt,↓aA,↓az,↓au,↓ar,↓ay,↓aw,↓ak,↓aj,↓aC,↓aB,↓aE,↓aD,unA,ne_eq,not_true_eq_false,not_false_eq_true,g1,g3,g33,g34,g35,f1]
  refine ⟨P.length-(i+1),by omega,i+1,rfl,by omega,rfl,hk5 _ _ (by omega) gs2,hk5 _ _ (by omega) gm2,by omega,?_⟩
  rw [aQ hr,List.all_append,ha,Ge]
  simp [fnB,hcl,hv]
end Go.Proofs.YtkhjclmfbmfahaaGreatDoor
