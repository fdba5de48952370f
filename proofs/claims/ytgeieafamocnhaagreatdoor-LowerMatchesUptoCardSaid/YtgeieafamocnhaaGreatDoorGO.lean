/- How large programs and expressions are. -/
import Derived.Test.YtgeieafamocnhaaGreatDoorGN
namespace Go.Proofs.YtgeieafamocnhaaGreatDoor
open List renaming getElem?_eq_getElem → G7, mem_of_getElem? → G8, take_of_length_le → Ha, mem_cons → Hl, cons_append → HE
open Bool renaming true_or → HZ
open Nat renaming le_refl → H4
set_option maxHeartbeats 64000000
open Go Go.Ab Go.Proofs
open Nat renaming reduceEqDiff → zp, reduceAdd → zq, reduceLeDiff → zr, reduceLT → zs, reduceBEq → zt
set_option linter.unusedVariables false
set_option linter.unusedSimpArgs false
set_option maxRecDepth 20000
def Cp (r s:Nat):Prop:=r≤s∧(r<100000→r=s)
theorem Cp.add {a b s t:Nat} (h1:Cp a s) (h2:Cp b t):Cp (a+b) (s+t):=by
 obtain ⟨a1,a2⟩:=h1
 obtain ⟨b1,b2⟩:=h2
 refine ⟨by omega,fun h=>?_⟩
 have:=a2 (by omega)
 have:=b2 (by omega)
 omega
theorem Cp.refl (a:Nat):Cp a a:=⟨H4 _,fun _=>rfl⟩
theorem mq:∀ (a b:List Ex),cD (a++b)=cD a+cD b
 | [],b=>by simp [cD]
 | x::a,b=>by simp only [HE,cD,mq a b];omega
theorem mi:∀ (a b:List Sm),bS (a++b)=bS a+bS b
 | [],b=>by simp [bS]
 | x::a,b=>by simp only [HE,bS,mi a b];omega
theorem uy {l:List Ex} {i:Nat} {r:Ex} (h:l[i]?=some r):cD (l.take (i+1))=cD (l.take i)+szE r:=by
 rw [az h,mq];simp [cD]
theorem ut {l:List Sm} {i:Nat} {r:Sm} (h:l[i]?=some r):bS (l.take (i+1))=bS (l.take i)+szS r:=by
 rw [az h,mi];simp [bS]
theorem ti {l:List Ex} (i:Nat):cD (l.take i)≤cD l:=by
 have:=mq (l.take i) (l.drop i)
 rw [List.take_append_drop] at this
 omega
theorem th {l:List Sm} (i:Nat):bS (l.take i)≤bS l:=by
 have:=mi (l.take i) (l.drop i)
 rw [List.take_append_drop] at this
 omega
theorem gY (x:Ex):szE x=1+x.name.length+cD x.sub:=by cases x;simp [szE,Ex.name,Ex.sub]
theorem gX (x:Sm):szS x=1+x.name.length+x.func.length+cD x.exprs+bS x.body+bS x.els:=by cases x;simp [szS,Sm.name,Sm.func,Sm.exprs,Sm.body,Sm.els]
def CpP (s:Nat) (h:Heap) (nx:Nat) (y:AE) (h':Heap) (n':Nat):Prop:=∃ r:Nat,y=.ret (.int .i64 (r:Int))∧Cp r s∧h'=h∧nx≤n'
theorem vI (l:List Ex) (hB:cD l≤4000000) (H:∀ x∈l,∀ (h:Heap) (nx:Nat),AC Tryz.prog 18 [aR x.sub] h nx (CpP (cD x.sub) h nx)) (h:Heap) (nx:Nat):AC Tryz.prog 18 [aR l] h nx (CpP (cD l) h nx):=by
 refine AC.go aj is18 (by simp) ?_
 have lv:=aP l
 have hlen:=aE l
 have hsz:=fM l
 simp -implicitDefEqProofs only [RA,aa,zp,↓reduceIte,reduceCtorEq,zq,zr,zs,zt,A18,Gn,lv]
 refine aq (fun q st=>∃ i n:Nat,q=l.length-i∧i≤l.length∧Cp n (cD (l.take i))∧ab st.env 0=some (aR l)∧ab st.env 3=some (.int .i64 n)∧ab st.env 4=some (.int .i64 i)∧st.heap=h∧nx≤st.nx∧st.dm=[]) (n:=l.length) aj
  ⟨0,0,rfl,by omega,by rw [List.take_zero,cD];exact Cp.refl 0,by simp [ab],by simp [ab],by simp [ab],rfl,by simp,rfl⟩ ?_
 rintro q ⟨env,heap,nx',dm⟩ ⟨i,n,rfl,hi,hn,g0,g3,g4,gh,hnx,hdm⟩
 simp only at g0 g3 g4 gh hnx hdm
 subst hdm;subst gh
 have f1:=wS (i:=i) (by omega)
 have hle:=ti (l:=l) i
 by_cases hc:(i:Int)<(l.length:Int)
 case neg =>
  have ht:l.take i=l:=Ha (by omega)
  rw [ht] at hn
  simp -implicitDefEqProofs only [RA,aa,zp,↓reduceIte,reduceCtorEq,zq,zr,zs,zt,ub,pz,g0,g3,g4,lv,hc,R18]
  exact ⟨n,rfl,hn,rfl,hnx⟩
 rcases ah ((n:Int)<100000) with ⟨d1',d1⟩|⟨d1',d1⟩
 case inr =>
  simp -implicitDefEqProofs only [RA,aa,zp,↓reduceIte,reduceCtorEq,zq,zr,zs,zt,ub,pz,g0,g3,g4,lv,hc,d1,R18]
  exact ⟨n,rfl,⟨by have:=hn.1;omega,fun h=>by omega⟩,rfl,hnx⟩
 have hr:=G7 (show i<l.length by omega)
 generalize l[i]=r at hr
 have ix:=bA hr
 rw [eT] at ix
 have t1:=uy hr
 have t2:=ti (l:=l) (i+1)
 have e1:=gY r
 have hn1:=hn.1
 have a1:IntKind.i64.wrap (1+(r.name.length:Int))=((1+r.name.length:Nat):Int):=by rw [w64 (by omega) (by omega)];omega
 simp -implicitDefEqProofs only [RA,aa,zp,↓reduceIte,reduceCtorEq,zq,zr,zs,zt,ub,pz,g0,g3,g4,lv,hc,d1,ix,a1]
 refine (H r (G8 hr) heap nx').mono ?_
 rintro y h2 n2 ⟨s,rfl,hs,hhe,hn2⟩
 obtain rfl:heap=h2:=hhe.symm
 have hs1:=hs.1
 have a2:IntKind.i64.wrap (((1+r.name.length:Nat):Int)+(s:Int))=((1+r.name.length+s:Nat):Int):=by rw [w64 (by omega) (by omega)];omega
 have a3:IntKind.i64.wrap ((n:Int)+((1+r.name.length+s:Nat):Int))=((n+(1+r.name.length+s):Nat):Int):=by rw [w64 (by omega) (by omega)];omega
 have hn2':Cp (n+(1+r.name.length+s)) (cD (l.take (i+1))):=by
  rw [t1,e1];exact hn.add ((Cp.refl _).add hs)
 simp -implicitDefEqProofs only [RA,aa,zp,↓reduceIte,reduceCtorEq,zq,zr,zs,zt,g0,g3,g4,a1,a2,a3,f1]
 refine ⟨l.length-(i+1),by omega,i+1,n+(1+r.name.length+s),rfl,by omega,hn2',?_⟩
 repeat' apply And.intro
 all_goals first|assumption|rfl|omega|(simp [ab, *];done)
theorem eO:∀ {l:List Ex} {x:Ex},x∈l→szE x≤cD l
 | [],x,h=>by simp at h
 | y::r,x,h=>by
  simp only [cD]
  rcases Hl.1 h with rfl|h
  ·omega
  ·have:=eO h;omega
theorem w18:∀ (m:Nat) (l:List Ex),cD l≤m→cD l≤4000000→∀ (h:Heap) (nx:Nat),AC Tryz.prog 18 [aR l] h nx (CpP (cD l) h nx):=by
 intro m
 induction m with
 | zero=>exact fun l hm hB=>vI l hB fun x hx=>by have:=eO hx;have:=gY x;omega
 | succ m ih=>exact fun l hm hB=>vI l hB fun x hx=>ih x.sub (by have:=eO hx;have:=gY x;omega) (by have:=eO hx;have:=gY x;omega)
theorem vJ (l:List Sm) (hB:bS l≤4000000) (H:∀ x∈l,∀ (h:Heap) (nx:Nat),AC Tryz.prog 17 [ay x.body] h nx (CpP (bS x.body) h nx)∧AC Tryz.prog 17 [ay x.els] h nx (CpP (bS x.els) h nx)) (h:Heap) (nx:Nat):AC Tryz.prog 17 [ay l] h nx (CpP (bS l) h nx):=by
 refine AC.go aj is17 (by simp) ?_
 have lv:=aO l
 have hlen:=bW l
 have hsz:=cF l
 simp -implicitDefEqProofs only [RA,aa,zp,↓reduceIte,reduceCtorEq,zq,zr,zs,zt,A17,Gp,lv]
 refine aq (fun q st=>∃ i n:Nat,q=l.length-i∧i≤l.length∧Cp n (bS (l.take i))∧ab st.env 0=some (ay l)∧ab st.env 3=some (.int .i64 n)∧ab st.env 4=some (.int .i64 i)∧st.heap=h∧nx≤st.nx∧st.dm=[]) (n:=l.length) aj
  ⟨0,0,rfl,by omega,by rw [List.take_zero,bS];exact Cp.refl 0,by simp [ab],by simp [ab],by simp [ab],rfl,by simp,rfl⟩ ?_
 rintro q ⟨env,heap,nx',dm⟩ ⟨i,n,rfl,hi,hn,g0,g3,g4,gh,hnx,hdm⟩
 simp only at g0 g3 g4 gh hnx hdm
 subst hdm;subst gh
 have f1:=wS (i:=i) (by omega)
 have hle:=th (l:=l) i
 by_cases hc:(i:Int)<(l.length:Int)
 case neg =>
  have ht:l.take i=l:=Ha (by omega)
  rw [ht] at hn
  simp -implicitDefEqProofs only [RA,aa,zp,↓reduceIte,reduceCtorEq,zq,zr,zs,zt,uc,pA,g0,g3,g4,lv,hc,R17]
  exact ⟨n,rfl,hn,rfl,hnx⟩
 rcases ah ((n:Int)<100000) with ⟨d1',d1⟩|⟨d1',d1⟩
 case inr =>
  simp -implicitDefEqProofs only [RA,aa,zp,↓reduceIte,reduceCtorEq,zq,zr,zs,zt,uc,pA,g0,g3,g4,lv,hc,d1,R17]
  exact ⟨n,rfl,⟨by have:=hn.1;omega,fun h=>by omega⟩,rfl,hnx⟩
 have hr:=G7 (show i<l.length by omega)
 generalize l[i]=r at hr
 have ix:=eQ hr
 rw [mA] at ix
 have t1:=ut hr
 have t2:=th (l:=l) (i+1)
 have e1:=gX r
 have hn1:=hn.1
 have a1:IntKind.i64.wrap (1+(r.name.length:Int))=((1+r.name.length:Nat):Int):=by rw [w64 (by omega) (by omega)];omega
 have a2:IntKind.i64.wrap (((1+r.name.length:Nat):Int)+(r.func.length:Int))=((1+r.name.length+r.func.length:Nat):Int):=by rw [w64 (by omega) (by omega)];omega
 simp -implicitDefEqProofs only [RA,aa,zp,↓reduceIte,reduceCtorEq,zq,zr,zs,zt,uc,pA,g0,g3,g4,lv,hc,d1,ix,a1,a2]
 refine (w18 _ r.exprs (H4 _) (by omega) heap nx').mono ?_
 rintro y h2 n2 ⟨s1,rfl,hs1,hhe,hn2⟩
 obtain rfl:heap=h2:=hhe.symm
 have hs1':=hs1.1
 have a3:IntKind.i64.wrap (((1+r.name.length+r.func.length:Nat):Int)+(s1:Int))=((1+r.name.length+r.func.length+s1:Nat):Int):=by rw [w64 (by omega) (by omega)];omega
 simp -implicitDefEqProofs only [RA,aa,zp,↓reduceIte,reduceCtorEq,zq,zr,zs,zt,g0,g3,g4,a3]
 refine (H r (G8 hr) heap n2).1.mono ?_
 rintro y h2 n3 ⟨s2,rfl,hs2,hhe,hn3⟩
 obtain rfl:heap=h2:=hhe.symm
 have hs2':=hs2.1
 have a4:IntKind.i64.wrap (((1+r.name.length+r.func.length+s1:Nat):Int)+(s2:Int))=((1+r.name.length+r.func.length+s1+s2:Nat):Int):=by rw [w64 (by omega) (by omega)];omega
 simp -implicitDefEqProofs only [RA,aa,zp,↓reduceIte,reduceCtorEq,zq,zr,zs,zt,g0,g3,g4,a4]
 refine (H r (G8 hr) heap n3).2.mono ?_
 rintro y h2 n4 ⟨s3,rfl,hs3,hhe,hn4⟩
 obtain rfl:heap=h2:=hhe.symm
 have hs3':=hs3.1
 have a5:IntKind.i64.wrap (((1+r.name.length+r.func.length+s1+s2:Nat):Int)+(s3:Int))=((1+r.name.length+r.func.length+s1+s2+s3:Nat):Int):=by rw [w64 (by omega) (by omega)];omega
 have a6:IntKind.i64.wrap ((n:Int)+((1+r.name.length+r.func.length+s1+s2+s3:Nat):Int))=((n+(1+r.name.length+r.func.length+s1+s2+s3):Nat):Int):=by rw [w64 (by omega) (by omega)];omega
 have hn2':Cp (n+(1+r.name.length+r.func.length+s1+s2+s3)) (bS (l.take (i+1))):=by
  rw [t1,e1];exact hn.add ((((Cp.refl _).add hs1).add hs2).add hs3)
 simp -implicitDefEqProofs only [RA,aa,zp,↓reduceIte,reduceCtorEq,zq,zr,zs,zt,g0,g3,g4,a5,a6,f1]
 refine ⟨l.length-(i+1),by omega,i+1,n+(1+r.name.length+r.func.length+s1+s2+s3),rfl,by omega,hn2',?_⟩
 repeat' apply And.intro
 all_goals first|assumption|rfl|omega|(simp [ab, *];done)
theorem w17:∀ (m:Nat) (l:List Sm),bS l≤m→bS l≤4000000→∀ (h:Heap) (nx:Nat),AC Tryz.prog 17 [ay l] h nx (CpP (bS l) h nx):=by
 intro m
 induction m with
 | zero=>exact fun l hm hB=>vJ l hB fun x hx=>by have:=bH hx;have:=lF x;omega
 | succ m ih =>
  exact fun l hm hB=>vJ l hB fun x hx h nx=>⟨ih x.body (by have:=bH hx;have:=gX x;omega) (by have:=bH hx;have:=gX x;omega) h nx,ih x.els (by have:=bH hx;have:=gX x;omega) (by have:=bH hx;have:=gX x;omega) h nx⟩
theorem Cp.dec {r s:Nat} (h:Cp r s):decide ((5000:Int)<(r:Int))=decide (5000<s):=by
 apply decide_eq_decide.2
 obtain ⟨h1,h2⟩:=h
 constructor
 ·intro h;omega
 ·intro h3
  by_cases h4:r<100000
  ·have:=h2 h4;omega
  ·omega
def eX:List Ar→Nat
 | []=>0
 | a::r=>a.name.length+eX r
def eN:List Pm→Nat
 | []=>0
 | a::r=>a.1.length+eN r
def szF (f:Fu):Nat:=eN f.params+(f.name.length+bS f.body)
def fE:List Fu→Nat
 | []=>0
 | f::r=>szF f+fE r
def szP (p:Pr):Nat:=eX p.arrays+fE p.funcs
theorem mr:∀ (a b:List Ar),eX (a++b)=eX a+eX b
 | [],b=>by simp [eX]
 | x::a,b=>by simp only [HE,eX,mr a b];omega
theorem mj:∀ (a b:List Pm),eN (a++b)=eN a+eN b
 | [],b=>by simp [eN]
 | x::a,b=>by simp only [HE,eN,mj a b];omega
theorem ml:∀ (a b:List Fu),fE (a++b)=fE a+fE b
 | [],b=>by simp [fE]
 | x::a,b=>by simp only [HE,fE,ml a b];omega
theorem uz {l:List Ar} {i:Nat} {r:Ar} (h:l[i]?=some r):eX (l.take (i+1))=eX (l.take i)+r.name.length:=by
 rw [az h,mr];simp [eX]
theorem uu {l:List Pm} {i:Nat} {r:Pm} (h:l[i]?=some r):eN (l.take (i+1))=eN (l.take i)+r.1.length:=by
 rw [az h,mj];simp [eN]
theorem uw {l:List Fu} {i:Nat} {r:Fu} (h:l[i]?=some r):fE (l.take (i+1))=fE (l.take i)+szF r:=by
 rw [az h,ml];simp [fE]
theorem yV {l:List Ar} (i:Nat):eX (l.take i)≤eX l:=by
 have:=mr (l.take i) (l.drop i)
 rw [List.take_append_drop] at this
 omega
theorem yT {l:List Pm} (i:Nat):eN (l.take i)≤eN l:=by
 have:=mj (l.take i) (l.drop i)
 rw [List.take_append_drop] at this
 omega
theorem yU {l:List Fu} (i:Nat):fE (l.take i)≤fE l:=by
 have:=ml (l.take i) (l.drop i)
 rw [List.take_append_drop] at this
 omega
theorem qa:∀ {l:List Ar} {x:Ar},x∈l→x.name.length≤eX l
 | [],x,h=>by simp at h
 | y::r,x,h=>by
  simp only [eX]
  rcases Hl.1 h with rfl|h
  ·omega
  ·have:=qa h;omega
theorem p8:∀ {l:List Pm} {x:Pm},x∈l→x.1.length≤eN l
 | [],x,h=>by simp at h
 | y::r,x,h=>by
  simp only [eN]
  rcases Hl.1 h with rfl|h
  ·omega
  ·have:=p8 h;omega
theorem p9:∀ {l:List Fu} {x:Fu},x∈l→szF x≤fE l
 | [],x,h=>by simp at h
 | y::r,x,h=>by
  simp only [fE]
  rcases Hl.1 h with rfl|h
  ·omega
  ·have:=p9 h;omega
def grF (f:Fu):Bool:=decide (50<f.params.length)
def grP (p:Pr):Bool:=decide (20<p.arrays.length)||decide (20<p.funcs.length)||p.funcs.any grF||decide (5000<szP p)
theorem Cf {p:Pr} (h:grP p=false):OkP p:=by
 simp only [grP,Bool.or_eq_false_iff,decide_eq_false_iff_not] at h
 obtain ⟨⟨⟨h1,h2⟩,h3⟩,h4⟩:=h
 have hs:szP p=eX p.arrays+fE p.funcs:=rfl
 have hf:∀ f∈p.funcs,szF f=eN f.params+(f.name.length+bS f.body)∧szF f≤fE p.funcs:=fun f hf=>⟨rfl,p9 hf⟩
 refine ⟨by omega,by omega,fun a ha=>?_,fun f h=>?_,fun f h=>?_,fun f h v hv=>?_,fun f h=>?_⟩
 ·have:=qa ha;omega
 ·have:=List.any_eq_false.1 h3 f h
  simp only [grF,decide_eq_true_iff] at this;omega
 ·have:=hf f h;omega
 ·have:=hf f h;have:=p8 hv;omega
 ·have:=hf f h;omega
theorem w5 (p:Pr) (hB:szP p≤4000000):Pure Tryz.prog 5 [.agg (prE p)] (.bool (grP p)):=by
 refine Pure.of fun nx=>AC.go aj is5 (by simp) ?_
 have hsp:szP p=eX p.arrays+fE p.funcs:=rfl
 have hpe:=ct p
 rw [hpe]
 have la:=eV p.arrays
 have lf:=cZ p.funcs
 obtain ⟨R,hR⟩:∃ R,grP p=R:=⟨_,rfl⟩
 rw [hR]
 unfold grP at hR
 rcases ah ((20:Int)<(p.arrays.length:Int)) with ⟨b1,d1⟩|⟨b1,d1⟩
 case inl =>
  have c1:decide (20<p.arrays.length)=true:=decide_eq_true (by omega)
  simp only [c1,HZ] at hR
  simp -implicitDefEqProofs only [RA,aa,zp,↓reduceIte,reduceCtorEq,zq,zr,zs,zt,A5,A5p,d1,la,lf,↓bf,↓bc,↓be,↓ba,← hR,R5]
 have c1:decide (20<p.arrays.length)=false:=decide_eq_false (by omega)
 rcases ah ((20:Int)<(p.funcs.length:Int)) with ⟨b2,d2⟩|⟨b2,d2⟩
 case inl =>
  have c2:decide (20<p.funcs.length)=true:=decide_eq_true (by omega)
  simp only [c2,HZ,Bool.or_true] at hR
  simp -implicitDefEqProofs only [RA,aa,zp,↓reduceIte,reduceCtorEq,zq,zr,zs,zt,A5,A5p,d1,d2,la,lf,↓bf,↓bc,↓be,↓ba,← hR,R5]
 have c2:decide (20<p.funcs.length)=false:=decide_eq_false (by omega)
 simp only [c1,c2,Bool.false_or] at hR
 simp -implicitDefEqProofs only [RA,aa,zp,↓reduceIte,reduceCtorEq,zq,zr,zs,zt,A5,A5p,d1,d2,la,lf,↓bf,↓bc,↓be,↓ba]
 refine aq (fun q st=>∃ (i:Nat),q=p.arrays.length-i∧i≤p.arrays.length∧ab st.env 1=some (.op nx 0)∧ab st.env 3=some (.int .i64 (eX (p.arrays.take i)))∧ab st.env 4=some (.int .i64 i)∧af st.heap nx=some (.cells [bU p.arrays,bR p.funcs])∧nx<st.nx∧st.dm=[]) (n:=p.arrays.length) aj
  ⟨0,rfl,by omega,by simp [ab],by simp [ab,eX],by simp [ab],by simp [af],by simp,rfl⟩ ?_
 rintro q ⟨env,heap,nx',dm⟩ ⟨i,rfl,hi,g1,g3,g4,gx,hnx,hdm⟩
 simp only at g1 g3 g4 gx hnx hdm
 subst hdm
 have f1:=wS (i:=i) (by omega)
 by_cases hc:(i:Int)<(p.arrays.length:Int)
 case pos =>
  have hr:=G7 (show i<p.arrays.length by omega)
  generalize p.arrays[i]=r at hr
  have ix:=cO hr
  have re:=dB r
  have t1:=uz hr
  have t2:=yV (l:=p.arrays) (i+1)
  have a1:IntKind.i64.wrap ((eX (p.arrays.take i):Int)+(r.name.length:Int))=(eX (p.arrays.take (i+1)):Int):=by rw [w64 (by omega) (by omega)];omega
  simp -implicitDefEqProofs only [RA,aa,zp,↓reduceIte,reduceCtorEq,zq,zr,zs,zt,CT,xZ,g1,g3,g4,gx,la,hc,ix,re,a1,f1]
  refine ⟨p.arrays.length-(i+1),by omega,i+1,?_⟩
  repeat' apply And.intro
  all_goals first|assumption|rfl|omega|(simp [ab, *];done)
 rw [show p.arrays.take i=p.arrays from Ha (by omega)] at g3
 simp -implicitDefEqProofs only [RA,aa,zp,↓reduceIte,reduceCtorEq,zq,zr,zs,zt,CT,xZ,g1,g3,g4,gx,la,hc]
 clear g4 hc f1
 refine aq (fun q st=>∃ (i n:Nat),q=p.funcs.length-i∧i≤p.funcs.length∧(p.funcs.take i).any grF=false∧Cp n (eX p.arrays+fE (p.funcs.take i))∧ab st.env 1=some (.op nx 0)∧ab st.env 3=some (.int .i64 n)∧ab st.env 5=some (.int .i64 i)∧af st.heap nx=some (.cells [bU p.arrays,bR p.funcs])∧nx<st.nx∧st.dm=[]) (n:=p.funcs.length) aj
  ⟨0,eX p.arrays,rfl,by omega,by simp,by rw [List.take_zero,fE];exact Cp.refl _,by simp [ab,g1],by simp [ab,g3],by simp [ab],gx,hnx,rfl⟩ ?_
 clear g1 g3 gx hnx hi env heap nx' i
 rintro q ⟨env,heap,nx',dm⟩ ⟨i,n,rfl,hi,hany,hn,g1,g3,g5,gx,hnx,hdm⟩
 simp only at g1 g3 g5 gx hnx hdm
 subst hdm
 have f1:=wS (i:=i) (by omega)
 have m1:(nx'=nx)=False:=eq_false (by omega)
 by_cases hc:(i:Int)<(p.funcs.length:Int)
 case neg =>
  rw [show p.funcs.take i=p.funcs from Ha (by omega)] at hn hany
  have e2:=hn.dec
  rw [← hsp] at e2
  rw [hany,Bool.false_or] at hR
  rw [← hR]
  simp -implicitDefEqProofs only [RA,aa,zp,↓reduceIte,reduceCtorEq,zq,zr,zs,zt,Ai,tW,g1,g3,g5,gx,lf,hc,e2,R5]
 have hr:=G7 (show i<p.funcs.length by omega)
 generalize p.funcs[i]=r at hr
 have ix:=cJ hr
 have re:=dG r
 have lp:=cq r.params
 have t1:=uw hr
 have t2:=yU (l:=p.funcs) (i+1)
 have e1:szF r=eN r.params+(r.name.length+bS r.body):=rfl
 rcases ah ((50:Int)<(r.params.length:Int)) with ⟨b3,d3⟩|⟨b3,d3⟩
 case inl =>
  have c3:grF r=true:=decide_eq_true (by omega)
  rw [eW hr c3,HZ] at hR
  rw [← hR]
  simp -implicitDefEqProofs only [RA,aa,zp,↓reduceIte,reduceCtorEq,zq,zr,zs,zt,Ai,tW,g1,g3,g5,gx,lf,hc,ix,re,lp,m1,d3,↓aY,↓aX,↓aB,↓aA,R5]
 have c3:grF r=false:=decide_eq_false (by omega)
 have hany2:=mV hr hany c3
 have hn1:=hn.1
 simp -implicitDefEqProofs only [RA,aa,zp,↓reduceIte,reduceCtorEq,zq,zr,zs,zt,Ai,tW,g1,g3,g5,gx,lf,hc,ix,re,lp,m1,d3,↓aY,↓aX,↓aB,↓aA]
 refine aq (fun q st=>∃ (k:Nat),q=r.params.length-k∧k≤r.params.length∧ab st.env 1=some (.op nx 0)∧ab st.env 3=some (.int .i64 ((n+eN (r.params.take k):Nat):Int))∧ab st.env 5=some (.int .i64 i)∧ab st.env 6=some (.op nx' 0)∧ab st.env 7=some (.int .i64 k)∧af st.heap nx=some (.cells [bU p.arrays,bR p.funcs])∧af st.heap nx'=some (.cells [.str r.name,bw r.params,.int .i64 r.result,ay r.body])∧nx'<st.nx∧st.dm=[]) (n:=r.params.length) aj
  ⟨0,rfl,by omega,by simp [ab,g1],by simp [ab,g3,eN],by simp [ab,g5],by simp [ab],by simp [ab],by simp [af,m1,gx],by simp [af],by simp,rfl⟩ ?_
 clear g1 g3 g5 gx env heap
 rintro q ⟨env,heap,nx2,dm⟩ ⟨k,rfl,hk,g1,g3,g5,g6,g7,gx,gf,hnx2,hdm⟩
 simp only at g1 g3 g5 g6 g7 gx gf hnx2 hdm
 subst hdm
 have k1:=wS (i:=k) (by omega)
 by_cases hck:(k:Int)<(r.params.length:Int)
 case pos =>
  have hv:=G7 (show k<r.params.length by omega)
  generalize r.params[k]=v at hv
  have iv:=dj hv
  have ve:=eu v
  have s1:=uu hv
  have s2:=yT (l:=r.params) (k+1)
  have a1:IntKind.i64.wrap (((n+eN (r.params.take k):Nat):Int)+(v.1.length:Int))=((n+eN (r.params.take (k+1)):Nat):Int):=by rw [w64 (by omega) (by omega)];omega
  simp -implicitDefEqProofs only [RA,aa,zp,↓reduceIte,reduceCtorEq,zq,zr,zs,zt,CS,xY,g1,g3,g5,g6,g7,gx,gf,lp,hck,iv,ve,a1,k1]
  refine ⟨r.params.length-(k+1),by omega,k+1,?_⟩
  repeat' apply And.intro
  all_goals first|assumption|rfl|omega|(simp [ab, *];done)
 rw [show r.params.take k=r.params from Ha (by omega)] at g3
 simp -implicitDefEqProofs only [RA,aa,zp,↓reduceIte,reduceCtorEq,zq,zr,zs,zt,CS,xY,g1,g3,g5,g6,g7,gx,gf,lp,hck]
 refine (w17 _ r.body (H4 _) (by omega) heap nx2).mono ?_
 rintro y h2 n2 ⟨s,rfl,hs,hhe,hn2⟩
 obtain rfl:heap=h2:=hhe.symm
 have hs1:=hs.1
 have a2:IntKind.i64.wrap ((r.name.length:Int)+(s:Int))=((r.name.length+s:Nat):Int):=by rw [w64 (by omega) (by omega)];omega
 have a3:IntKind.i64.wrap (((n+eN r.params:Nat):Int)+((r.name.length+s:Nat):Int))=((n+eN r.params+(r.name.length+s):Nat):Int):=by rw [w64 (by omega) (by omega)];omega
 have hn':Cp (n+eN r.params+(r.name.length+s)) (eX p.arrays+fE (p.funcs.take (i+1))):=by
  have key:=(hn.add (Cp.refl (eN r.params))).add ((Cp.refl r.name.length).add hs)
  rw [t1,e1,show eX p.arrays+(fE (p.funcs.take i)+(eN r.params+(r.name.length+bS r.body)))=eX p.arrays+fE (p.funcs.take i)+eN r.params+(r.name.length+bS r.body) by omega]
  exact key
 simp -implicitDefEqProofs only [RA,aa,zp,↓reduceIte,reduceCtorEq,zq,zr,zs,zt,g1,g3,g5,g6,g7,gx,gf,a2,a3,f1]
 refine ⟨p.funcs.length-(i+1),by omega,i+1,n+eN r.params+(r.name.length+s),rfl,by omega,hany2,hn',?_⟩
 repeat' apply And.intro
 all_goals first|assumption|rfl|omega|(simp [ab, *];done)
end Go.Proofs.YtgeieafamocnhaaGreatDoor
