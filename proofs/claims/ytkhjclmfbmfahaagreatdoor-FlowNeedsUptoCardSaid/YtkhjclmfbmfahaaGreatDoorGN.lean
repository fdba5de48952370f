/- The reference's table of dominators. -/
import Derived.Test.YtkhjclmfbmfahaaGreatDoorGM
namespace Go.Proofs.YtkhjclmfbmfahaaGreatDoor
open List renaming getElem?_eq_getElem → Fo, mem_of_getElem? → Fp, take_of_length_le → Fs, map_append → FC
open Nat renaming le_refl → Gp
set_option maxHeartbeats 64000000
open Go Go.Ab Go.Proofs
open Nat renaming reduceEqDiff → zp, reduceAdd → zq, reduceLeDiff → zr, reduceLT → zs, reduceBEq → zt
set_option linter.unusedVariables false
set_option linter.unusedSimpArgs false
set_option maxRecDepth 20000
def blE (b:Bool):List AV:=[.bool b]
def blA (l:List Bool):AV:=.lst 1 (l.map blE)
theorem zh (l:List Bool):∀ z∈l.map blE,z.length=1:=fun z hz=>by
 obtain ⟨r,_,rfl⟩:=List.mem_map.1 hz;rfl
theorem ng {l:List Bool} {n:Nat} {r:Bool} (h:l[n]?=some r):idxA 1 (blA l) (n:Int)=some (.fp [.bool r]):=dB h
theorem vY (l:List Bool):(l.map blE).flatten=l.map .bool:=by
 induction l with
 | nil=>rfl
 | cons a r ih=>simp only [List.map_cons,List.flatten_cons,blE,ih];rfl
theorem w71:∀ (m:Nat) (t:Tm),szT t≤m→m≤4000000→Pure Tryz.prog 71 [.agg (tmE t),.agg (tmE t)] (.bool true):=by
 intro m
 induction m with
 | zero=>intro x hx;have:=bR x;omega
 | succ m ih =>
  rintro ⟨k,w,b,n,lo,s⟩ hm hM
  refine Pure.of fun nx=>AC.go aI is71 (by simp) ?_
  simp only [szT] at hm
  have hsl:=bJ s
  have e0:tmE (.mk k w b n lo s)=[.int .u8 k,.int .i64 w,.int .u64 b,.str n,.int .i64 lo,bg s]:=by rw [aZ];rfl
  rw [e0]
  have lv:=bw s
  have n1:(nx+1=nx)=False:=eq_false (by omega)
  have bn:(n==n)=true:=by simp
  simp -implicitDefEqProofs only [RA,ae,zp,↓reduceIte,reduceCtorEq,zq,zr,zs,zt,A71,Ew,n1,lv,↓ak,↓aj,aG,aN,bn]
  refine aJ (fun q st=>∃ i:Nat,q=s.length-i∧i≤s.length∧ah st.env 2=some (.op nx 0)∧ah st.env 3=some (.op (nx+1) 0)∧ah st.env 5=some (.int .i64 i)∧aq st.heap nx=some (.cells [.int .u8 k,.int .i64 w,.int .u64 b,.str n,.int .i64 lo,bg s])∧aq st.heap (nx+1)=some (.cells [.int .u8 k,.int .i64 w,.int .u64 b,.str n,.int .i64 lo,bg s])∧st.dm=[]) (n:=s.length) aI
   ⟨0,rfl,by omega,by simp [ah],by simp [ah],by simp [ah],by simp [aq],by simp [aq],rfl⟩ ?_
  rintro q ⟨env,heap,nx',dm⟩ ⟨i,rfl,hi,g2,g3,g5,gx,gy,hdm⟩
  simp only at g2 g3 g5 gx gy hdm
  subst hdm
  have f1:=wS (i:=i) (by omega)
  by_cases hc:(i:Int)<(s.length:Int)
  case neg =>
   simp -implicitDefEqProofs only [RA,ae,zp,↓reduceIte,reduceCtorEq,zq,zr,zs,zt,wO,qt,g2,g3,g5,gx,gy,lv,hc,R71]
  have hr:=Fo (show i<s.length by omega)
  generalize s[i]=r at hr
  have hmem:=Fp hr
  have m1:=bZ hmem
  have ix:=bh hr
  simp -implicitDefEqProofs only [RA,ae,zp,↓reduceIte,reduceCtorEq,zq,zr,zs,zt,wO,qt,g2,g3,g5,gx,gy,lv,hc,ix,aY,aU]
  refine (ih r (by omega) (by omega)).use fun n3 hn3=>?_
  simp -implicitDefEqProofs only [RA,ae,zp,↓reduceIte,reduceCtorEq,zq,zr,zs,zt,g2,g3,g5,gx,gy,unA,f1]
  refine ⟨s.length-(i+1),by omega,i+1,?_⟩
  repeat' apply And.intro
  all_goals first|assumption|rfl|omega|(simp [ah, *];done)
theorem w52 (l:List Tm) (ho:jC l):Pure Tryz.prog 52 [bg l,bg l] (.bool true):=by
 refine Pure.of fun nx=>AC.go aI is52 (by simp) ?_
 obtain ⟨hl,hok⟩:=ho
 have lv:=bw l
 have d0:((l.length:Int)=(l.length:Int))=True:=eq_true rfl
 simp -implicitDefEqProofs only [RA,ae,zp,↓reduceIte,reduceCtorEq,zq,zr,zs,zt,A52,EF,lv,d0]
 refine aJ (fun q st=>∃ i:Nat,q=l.length-i∧i≤l.length∧ah st.env 0=some (bg l)∧ah st.env 1=some (bg l)∧ah st.env 5=some (.int .i64 i)∧st.dm=[]) (n:=l.length) aI
  ⟨0,rfl,by omega,by simp [ah],by simp [ah],by simp [ah],rfl⟩ ?_
 rintro q ⟨env,heap,nx',dm⟩ ⟨i,rfl,hi,g0,g1,g5,hdm⟩
 simp only at g0 g1 g5 hdm
 subst hdm
 have f1:=wS (i:=i) (by omega)
 by_cases hc:(i:Int)<(l.length:Int)
 case neg =>
  simp -implicitDefEqProofs only [RA,ae,zp,↓reduceIte,reduceCtorEq,zq,zr,zs,zt,xb,qC,g0,g1,g5,lv,hc,R52]
 have hr:=Fo (show i<l.length by omega)
 generalize l[i]=r at hr
 have ix:=bh hr
 simp -implicitDefEqProofs only [RA,ae,zp,↓reduceIte,reduceCtorEq,zq,zr,zs,zt,xb,qC,g0,g1,g5,lv,hc,ix,aY,aU]
 refine (w71 4000000 r (hok r (Fp hr)).1 (Gp _)).use fun n1 hn1=>?_
 simp -implicitDefEqProofs only [RA,ae,zp,↓reduceIte,reduceCtorEq,zq,zr,zs,zt,g0,g1,g5,unA,f1]
 exact ⟨l.length-(i+1),by omega,i+1,rfl,by omega,rfl⟩
theorem w35 (b:Bk) (ho:okK b):Pure Tryz.prog 35 [.agg (bkE b),.agg (bkE b)] (.bool true):=by
 refine Pure.of fun nx=>AC.go aI is35 (by simp) ?_
 obtain ⟨hs,h1,h2,h3⟩:=ho
 have lv:=eh b.steps
 have li:=eO b.to
 have n1:(nx+1=nx)=False:=eq_false (by omega)
 have bn:∀ n:Nm,(n != n)=false:=fun n=>by simp
 have bm:∀ n:Nm,(n==n)=true:=fun n=>by simp
 rw [eD]
 simp -implicitDefEqProofs only [RA,ae,zp,↓reduceIte,reduceCtorEq,zq,zr,zs,zt,A35,EP,n1,lv,li,↓ak,↓aj,↓aE,↓aD,↓aC,↓aB,aG,aN,bn,bm]
 refine (w52 b.terms h2).use fun n2 hn2=>?_
 simp -implicitDefEqProofs only [RA,ae,zp,↓reduceIte,reduceCtorEq,zq,zr,zs,zt,unA]
 generalize hC:([eH b.steps,AV.int .u8 b.kind,.str b.func,bg b.terms,cD b.to]:List AV)=C
 refine aJ (fun q st=>∃ i:Nat,q=b.to.length-i∧i≤b.to.length∧ah st.env 2=some (.op nx 0)∧ah st.env 3=some (.op (nx+1) 0)∧ah st.env 5=some (.int .i64 i)∧aq st.heap nx=some (.cells C)∧aq st.heap (nx+1)=some (.cells C)∧nx+1<st.nx∧st.dm=[]) (n:=b.to.length) aI
  ⟨0,rfl,by omega,by simp [ah],by simp [ah],by simp [ah],by simp [af,n1],by simp [af],by simp only;omega,rfl⟩ ?_
 rintro q ⟨env,heap,nx',dm⟩ ⟨i,rfl,hi,g2,g3,g5,gx,gy,hlt,hdm⟩
 simp only at g2 g3 g5 gx gy hlt hdm
 subst hdm
 have f1:=wS (i:=i) (by omega)
 by_cases hc:(i:Int)<(b.to.length:Int)
 case pos =>
  have hr:=Fo (show i<b.to.length by omega)
  generalize b.to[i]=r at hr
  have ix:=eu hr
  have ie:inE r=[.int .i64 r]:=rfl
  subst hC
  have d1:(r=r)=True:=eq_true rfl
  simp -implicitDefEqProofs only [RA,ae,zp,↓reduceIte,reduceCtorEq,zq,zr,zs,zt,xm,qL,g2,g3,g5,gx,gy,li,hc,ix,ie,d1,f1]
  exact ⟨b.to.length-(i+1),by omega,i+1,rfl,by omega,rfl,hlt⟩
 subst hC
 simp -implicitDefEqProofs only [RA,ae,zp,↓reduceIte,reduceCtorEq,zq,zr,zs,zt,xm,qL,g2,g3,g5,gx,gy,li,hc]
 generalize hC:([eH b.steps,AV.int .u8 b.kind,.str b.func,bg b.terms,cD b.to]:List AV)=C at gx gy
 refine aJ (fun q st=>∃ i:Nat,q=b.steps.length-i∧i≤b.steps.length∧ah st.env 2=some (.op nx 0)∧ah st.env 3=some (.op (nx+1) 0)∧ah st.env 6=some (.int .i64 i)∧aq st.heap nx=some (.cells C)∧aq st.heap (nx+1)=some (.cells C)∧nx+1<st.nx∧st.dm=[]) (n:=b.steps.length) aI
  ⟨0,rfl,by omega,by simp [ah,g2],by simp [ah,g3],by simp [ah],gx,gy,hlt,rfl⟩ ?_
 clear g2 g3 g5 gx gy hlt hi hc f1
 rintro q ⟨env,heap,nx',dm⟩ ⟨i,rfl,hi,g2,g3,g6,gx,gy,hlt,hdm⟩
 simp only at g2 g3 g6 gx gy hlt hdm
 subst hdm;subst hC
 have f1:=wS (i:=i) (by omega)
 by_cases hc:(i:Int)<(b.steps.length:Int)
 case neg =>
  simp -implicitDefEqProofs only [RA,ae,zp,↓reduceIte,reduceCtorEq,zq,zr,zs,zt,xk,qK,g2,g3,g6,gx,gy,lv,hc,R35]
 have hr:=Fo (show i<b.steps.length by omega)
 generalize b.steps[i]=r at hr
 have ix:=fv hr
 rw [gq] at ix
 have a1:(nx'+1=nx')=False:=eq_false (by omega)
 have a2:(nx'=nx)=False:=eq_false (by omega)
 have a3:(nx'=nx+1)=False:=eq_false (by omega)
 have a4:(nx'+1=nx)=False:=eq_false (by omega)
 have a5:(nx'=nx'+1)=False:=eq_false (by omega)
 simp -implicitDefEqProofs only [RA,ae,zp,↓reduceIte,reduceCtorEq,zq,zr,zs,zt,xk,qK,g2,g3,g6,gx,gy,lv,hc,ix,a1,a2,a3,a4,a5,↓ak,↓aj,aG,aN,bn,bm]
 refine (w52 r.terms (h1 r (Fp hr))).use fun n3 hn3=>?_
 simp -implicitDefEqProofs only [RA,ae,zp,↓reduceIte,reduceCtorEq,zq,zr,zs,zt,g2,g3,g6,gx,gy,unA,a2,a3,a4,f1]
 refine ⟨b.steps.length-(i+1),by omega,i+1,rfl,by omega,rfl,by omega⟩
theorem w10 (l:List Fn) (hl:l.length≤4000000) (ho:∀ f∈l,okF f):Pure Tryz.prog 10 [.agg [bM l],.agg [bM l]] (.bool true):=by
 refine Pure.of fun nx=>AC.go aI is10 (by simp) ?_
 have lv:=cX l
 have n1:(nx+1=nx)=False:=eq_false (by omega)
 have bm:∀ n:Nm,(n==n)=true:=fun n=>by simp
 have bn:∀ n:Nm,(n != n)=false:=fun n=>by simp
 simp -implicitDefEqProofs only [RA,ae,zp,↓reduceIte,reduceCtorEq,zq,zr,zs,zt,A10,Fe,n1,lv,↓aA,↓az]
 refine aJ (fun q st=>∃ i:Nat,q=l.length-i∧i≤l.length∧ah st.env 2=some (.op nx 0)∧ah st.env 3=some (.op (nx+1) 0)∧ah st.env 5=some (.int .i64 i)∧aq st.heap nx=some (.cells [bM l])∧aq st.heap (nx+1)=some (.cells [bM l])∧nx+1<st.nx∧st.dm=[]) (n:=l.length) aI
  ⟨0,rfl,by omega,by simp [ah],by simp [ah],by simp [ah],by simp [af,n1],by simp [af],by simp only;omega,rfl⟩ ?_
 rintro q ⟨env,heap,nx',dm⟩ ⟨i,rfl,hi,g2,g3,g5,gx,gy,hlt,hdm⟩
 simp only at g2 g3 g5 gx gy hlt hdm
 subst hdm
 have f1:=wS (i:=i) (by omega)
 by_cases hc:(i:Int)<(l.length:Int)
 case neg =>
  simp -implicitDefEqProofs only [RA,ae,zp,↓reduceIte,reduceCtorEq,zq,zr,zs,zt,xJ,q7,g2,g3,g5,gx,gy,lv,hc,R10]
 have hr:=Fo (show i<l.length by omega)
 generalize l[i]=f at hr
 have hof:=ho f (Fp hr)
 have ix:=cL hr
 have c32:=w19 f hof.2.1 hof.2.2.1
 obtain ⟨_,o1,o2,_,o3,o4⟩:=hof
 rw [bN] at ix c32
 have a1:(nx'+1=nx')=False:=eq_false (by omega)
 have a2:(nx'=nx)=False:=eq_false (by omega)
 have a3:(nx'=nx+1)=False:=eq_false (by omega)
 have a4:(nx'+1=nx)=False:=eq_false (by omega)
 have a5:(nx'=nx'+1)=False:=eq_false (by omega)
 have lp:=bW f.params
 have lo:=bW f.locals
 have lb:=dv f.blocks
 simp -implicitDefEqProofs only [RA,ae,zp,↓reduceIte,reduceCtorEq,zq,zr,zs,zt,xJ,q7,g2,g3,g5,gx,gy,lv,hc,ix,a1,a2,a3,a4,a5,↓au,↓ar,↓ay,↓aw,aG,aN,bn,bm,lp,lo,lb]
 refine c32.use fun n2 hn2=>?_
 simp -implicitDefEqProofs only [RA,ae,zp,↓reduceIte,reduceCtorEq,zq,zr,zs,zt,a1,a2,a3,a4,a5]
 refine c32.use fun n3 hn3=>?_
 simp -implicitDefEqProofs only [RA,ae,zp,↓reduceIte,reduceCtorEq,zq,zr,zs,zt,a1,a2,a3,a4,a5]
 have lxy:=bW (f.params++f.locals)
 generalize hX:f.params++f.locals=X at lxy
 have hXl:X.length≤8000000:=by rw [← hX,List.length_append];omega
 generalize hC:([.str f.name,bp f.params,.int .i64 f.result,bp f.locals,cp f.blocks]:List AV)=C
 generalize hH:((nx'+1,AO.cells C)::(nx',.cells C)::(nx'+1,.cells [.str [],.nilS,.int .i64 0,.nilS,.nilS])::(nx',.cells [.str [],.nilS,.int .i64 0,.nilS,.nilS])::heap:Heap)=H1
 have kx:aq H1 nx=some (.cells [bM l]):=by rw [← hH];simp only [af];rw [if_neg (by omega),if_neg (by omega),if_neg (by omega),if_neg (by omega)];exact gx
 have ky:aq H1 (nx+1)=some (.cells [bM l]):=by rw [← hH];simp only [af];rw [if_neg (by omega),if_neg (by omega),if_neg (by omega),if_neg (by omega)];exact gy
 have k6:aq H1 nx'=some (.cells C):=by rw [← hH];simp [af]
 have k7:aq H1 (nx'+1)=some (.cells C):=by rw [← hH];simp [af]
 clear hH
 refine aJ (fun q st=>∃ j:Nat,q=X.length-j∧j≤X.length∧ah st.env 2=some (.op nx 0)∧ah st.env 3=some (.op (nx+1) 0)∧ah st.env 5=some (.int .i64 i)∧ah st.env 6=some (.op nx' 0)∧ah st.env 7=some (.op (nx'+1) 0)∧ah st.env 8=some (bp X)∧ah st.env 9=some (bp X)∧ah st.env 10=some (.int .i64 j)∧st.heap=H1∧nx'+1<st.nx∧st.dm=[]) (n:=X.length) aI
  ⟨0,rfl,by omega,by simp [ah,g2],by simp [ah,g3],by simp [ah,g5],by simp [ah],by simp [ah],by simp [ah],by simp [ah],by simp [ah],rfl,by simp only;omega,rfl⟩ ?_
 clear g2 g3 g5
 rintro q ⟨env,hp,nx2,dm⟩ ⟨j,rfl,hj,g2,g3,g5,g6,g7,g8,g9,g10,hh,hlt2,hdm⟩
 simp only at g2 g3 g5 g6 g7 g8 g9 g10 hh hlt2 hdm
 subst hdm;subst hh
 have f2:=wS (i:=j) (by omega)
 by_cases hd:(j:Int)<(X.length:Int)
 case pos =>
  have hr2:=Fo (show j<X.length by omega)
  generalize X[j]=r at hr2
  have iy:=dG hr2
  have rl:=pD r
  have rt:=mJ r
  have he:eqL [.str,.int] (pmE r) (pmE r)=some true:=by simp [eqL,eqC,pmE]
  simp -implicitDefEqProofs only [RA,ae,zp,↓reduceIte,reduceCtorEq,zq,zr,zs,zt,xL,q9,g2,g3,g5,g6,g7,g8,g9,g10,lxy,hd,iy,rl,rt,he,f2]
  exact ⟨X.length-(j+1),by omega,j+1,rfl,by omega,rfl,hlt2⟩
 simp -implicitDefEqProofs only [RA,ae,zp,↓reduceIte,reduceCtorEq,zq,zr,zs,zt,xL,q9,g8,g10,lxy,hd]
 refine aJ (fun q st=>∃ j:Nat,q=f.blocks.length-j∧j≤f.blocks.length∧ah st.env 2=some (.op nx 0)∧ah st.env 3=some (.op (nx+1) 0)∧ah st.env 5=some (.int .i64 i)∧ah st.env 6=some (.op nx' 0)∧ah st.env 7=some (.op (nx'+1) 0)∧ah st.env 11=some (.int .i64 j)∧st.heap=hp∧nx'+1<st.nx∧st.dm=[]) (n:=f.blocks.length) aI
  ⟨0,rfl,by omega,by simp [ah,g2],by simp [ah,g3],by simp [ah,g5],by simp [ah,g6],by simp [ah,g7],by simp [ah],rfl,hlt2,rfl⟩ ?_
 clear g2 g3 g5 g6 g7 g8 g9 g10 hlt2 hd hj f2
 rintro q ⟨env,hp2,nx2,dm⟩ ⟨j,rfl,hj,g2,g3,g5,g6,g7,g11,hh,hlt2,hdm⟩
 simp only at g2 g3 g5 g6 g7 g11 hh hlt2 hdm
 subst hdm;subst hh;subst hC
 have f2:=wS (i:=j) (by omega)
 by_cases hd:(j:Int)<(f.blocks.length:Int)
 case neg =>
  simp -implicitDefEqProofs only [RA,ae,zp,↓reduceIte,reduceCtorEq,zq,zr,zs,zt,xK,q8,g2,g3,g5,g6,g7,g11,k6,k7,lb,hd,f1]
  exact ⟨l.length-(i+1),by omega,i+1,rfl,by omega,rfl,kx,ky,by omega⟩
 have hr2:=Fo (show j<f.blocks.length by omega)
 generalize f.blocks[j]=b at hr2
 have iy:=dH hr2
 have ob1:=o4 b (Fp hr2)
 have rl:=iL b
 have rt:=jp b
 simp -implicitDefEqProofs only [RA,ae,zp,↓reduceIte,reduceCtorEq,zq,zr,zs,zt,xK,q8,g2,g3,g5,g6,g7,g11,k6,k7,lb,hd,iy,rl,rt]
 refine (w35 b ob1).use fun n4 hn4=>?_
 simp -implicitDefEqProofs only [RA,ae,zp,↓reduceIte,reduceCtorEq,zq,zr,zs,zt,g2,g3,g5,g6,g7,g11,unA,f2]
 exact ⟨f.blocks.length-(j+1),by omega,j+1,rfl,by omega,rfl,by omega⟩
theorem w62:∀ (N:Nat) (x:Tm),szT x≤N→N≤4000000→Pure Tryz.prog 62 [.agg (tmE x)] (.agg (tmE x)):=by
 intro N
 induction N with
 | zero=>intro x hx;have:=bR x;omega
 | succ N ih =>
  rintro ⟨k,w,b,n,lo,s⟩ hm hM
  refine Pure.frz fun nx=>AC.go aI is62 (by simp) ?_
  simp only [szT] at hm
  have hsl:=bJ s
  have lv:=bw s
  have e0:=gI k w b n lo s
  have n1:(nx+1=nx)=False:=eq_false (by omega)
  have n2:(nx+1+1=nx)=False:=eq_false (by omega)
  have n3:(nx+1+1=nx+1)=False:=eq_false (by omega)
  have n4:(nx+1=nx+1+1)=False:=eq_false (by omega)
  rw [e0]
  simp -implicitDefEqProofs only [RA,ae,zp,↓reduceIte,reduceCtorEq,zq,zr,zs,zt,↓aA,↓az,↓au,↓ar,↓ay,↓aw,↓ak,↓aj,↓aC,↓aB,↓aE,↓aD,unA,ne_eq,not_true_eq_false,not_false_eq_true,A62,EC,n1,n2,n3]
  refine aJ (fun q st=>∃ (i:Nat) (v:AV),q=s.length-i∧i≤s.length∧ah st.env 1=some (.op nx 0)∧ah st.env 2=some (.op (nx+1) 0)∧ah st.env 3=some (.op (nx+1+1) 0)∧ah st.env 4=some (.int .i64 i)∧aq st.heap nx=some (.cells [.int .u8 k,.int .i64 w,.int .u64 b,.str n,.int .i64 lo,bg s])∧aq st.heap (nx+1)=some (.cells [.int .u8 0,.int .i64 0,.int .u64 0,.str [],.int .i64 0,.nilS])∧aq st.heap (nx+1+1)=some (.cells [.int .u8 k,.int .i64 w,.int .u64 b,.str n,.int .i64 lo,v])∧aR 119 6 st.heap st.nx v ((s.take i).map tmE)∧nx+1+1<st.nx∧(∀ c,aP v=some c→nx+1+1<c)∧st.dm=[]) (n:=s.length) aI
   ⟨0,.nilS,rfl,by omega,by simp [ah],by simp [ah],by simp [ah],by simp [ah],by simp [aq,n2,n1],by simp [aq,n3],by simp [aq],.inl ⟨rfl,rfl⟩,by simp only;omega,by simp [aP],rfl⟩ ?_
  rintro q ⟨env,heap,nx',dm⟩ ⟨i,v,rfl,hi,g1,g2,g3,g4,gx,gy,gz,ov,hlt,hv,hdm⟩
  simp only at g1 g2 g3 g4 gx gy gz ov hlt hdm
  subst hdm
  have f1:=wS (i:=i) (by omega)
  by_cases hc:(i:Int)<(s.length:Int)
  case neg =>
   rw [show s.take i=s from Fs (by omega)] at ov
   simp -implicitDefEqProofs only [RA,ae,zp,↓reduceIte,reduceCtorEq,zq,zr,zs,zt,↓aA,↓az,↓au,↓ar,↓ay,↓aw,↓ak,↓aj,↓aC,↓aB,↓aE,↓aD,unA,ne_eq,not_true_eq_false,not_false_eq_true,wY,qz,g1,g2,g3,g4,gx,gy,gz,lv,hc,R62,n4]
   obtain ⟨h2,hf⟩:=((ov.keep (h':=(nx+1,AO.cells [.int .u8 k,.int .i64 w,.int .u64 b,.str n,.int .i64 lo,v])::heap) (Gp _) fun c o h1 h2=>by rw [af,if_neg (by have:=hv c h1;omega)];exact h2)).frz (ke _)
   exact ⟨_,h2,rfl,.agg (.keep rfl (.keep rfl (.keep rfl (.keep rfl (.keep rfl (.cons hf rfl (.nil _)))))))⟩
  have hr:=Fo (show i<s.length by omega)
  generalize s[i]=r at hr
  have hmem:=Fp hr
  have m1:=bZ hmem
  have ix:=bh hr
  have rl:=aY r
  have rt:=aU r
  have er:=aZ r
  have w:=ih r (by omega) (by omega)
  rw [er] at ix rl rt w
  simp -implicitDefEqProofs only [RA,ae,zp,↓reduceIte,reduceCtorEq,zq,zr,zs,zt,↓aA,↓az,↓au,↓ar,↓ay,↓aw,↓ak,↓aj,↓aC,↓aB,↓aE,↓aD,unA,ne_eq,not_true_eq_false,not_false_eq_true,wY,qz,g1,g2,g3,g4,gx,gy,gz,lv,hc,ix,rl,rt]
  refine w.use fun n5 hn5=>?_
  obtain ⟨v',h4,n6,ea,og,hle,fr,id⟩:=(ov.mono hn5).grw (bytes:=72) (ns:=[tmE r]) (ke _) (by simp [aY]) (by simp;omega) (by simp [maxLen];omega)
  rw [er] at ea
  obtain ⟨vc,vp⟩:=eg og
  have hnv:∀ c,c≤nx+1+1→aP v≠some c:=fun c h1 h2=>by have:=hv c h2;omega
  have gx4:=fr nx _ (by omega) gx (hnv _ (by omega))
  have gy4:=fr (nx+1) _ (by omega) gy (hnv _ (by omega))
  have gz4:=fr (nx+1+1) _ (by omega) gz (hnv _ (by omega))
  have hnv':∀ c,aP v'=some c→nx+1+1<c:=fun c e=>by
   rcases id c e with h|h
   ·omega
   ·exact hv c h
  simp -implicitDefEqProofs only [RA,ae,zp,↓reduceIte,reduceCtorEq,zq,zr,zs,zt,↓aA,↓az,↓au,↓ar,↓ay,↓aw,↓ak,↓aj,↓aC,↓aB,↓aE,↓aD,unA,ne_eq,not_true_eq_false,not_false_eq_true,g1,g2,g3,g4,gx,gy,gz,ea,gz4,vc,vp,List.length_singleton,f1]
  refine ⟨s.length-(i+1),by omega,i+1,v',rfl,by omega,rfl,by rw [if_neg (by omega)];exact gx4,by rw [if_neg (by omega)];exact gy4,rfl,?_,by omega,hnv'⟩
  rw [aQ hr,FC]
  exact og.keep (Gp _) fun c o h1 h2=>by rw [af,if_neg (by have:=hnv' c h1;omega)];exact h2
theorem w44 (l:List Tm) (ho:jC l):Pure Tryz.prog 44 [bg l] (bg l):=by
 refine Pure.own (e:=119) (ke _) fun nx=>AC.go aI is44 (by simp) ?_
 obtain ⟨hl,hok⟩:=ho
 have lv:=bw l
 simp -implicitDefEqProofs only [RA,ae,zp,↓reduceIte,reduceCtorEq,zq,zr,zs,zt,↓aA,↓az,↓au,↓ar,↓ay,↓aw,↓ak,↓aj,↓aC,↓aB,↓aE,↓aD,unA,ne_eq,not_true_eq_false,not_false_eq_true,A44,EM,lv]
 refine aJ (fun q st=>∃ (i:Nat) (v:AV),q=l.length-i∧i≤l.length∧ah st.env 0=some (bg l)∧ah st.env 3=some v∧ah st.env 4=some (.int .i64 i)∧aR 119 6 st.heap st.nx v ((l.take i).map tmE)∧st.dm=[]) (n:=l.length) aI
  ⟨0,.nilS,rfl,by omega,by simp [ah],by simp [ah],by simp [ah],.inl ⟨rfl,rfl⟩,rfl⟩ ?_
 rintro q ⟨env,heap,nx',dm⟩ ⟨i,v,rfl,hi,g0,g3,g4,ov,hdm⟩
 simp only at g0 g3 g4 ov hdm
 subst hdm
 have f1:=wS (i:=i) (by omega)
 by_cases hc:(i:Int)<(l.length:Int)
 case neg =>
  rw [show l.take i=l from Fs (by omega)] at ov
  simp -implicitDefEqProofs only [RA,ae,zp,↓reduceIte,reduceCtorEq,zq,zr,zs,zt,↓aA,↓az,↓au,↓ar,↓ay,↓aw,↓ak,↓aj,↓aC,↓aB,↓aE,↓aD,unA,ne_eq,not_true_eq_false,not_false_eq_true,xf,qG,g0,g3,g4,lv,hc,R44]
  exact ⟨v,rfl,ov⟩
 have hr:=Fo (show i<l.length by omega)
 generalize l[i]=r at hr
 have hmem:=Fp hr
 have ix:=bh hr
 have rl:=aY r
 have rt:=aU r
 have er:=aZ r
 have w:=w62 4000000 r (hok r hmem).1 (Gp _)
 rw [er] at ix rl rt w
 simp -implicitDefEqProofs only [RA,ae,zp,↓reduceIte,reduceCtorEq,zq,zr,zs,zt,↓aA,↓az,↓au,↓ar,↓ay,↓aw,↓ak,↓aj,↓aC,↓aB,↓aE,↓aD,unA,ne_eq,not_true_eq_false,not_false_eq_true,xf,qG,g0,g3,g4,lv,hc,ix,rl,rt]
 refine w.use fun n5 hn5=>?_
 obtain ⟨v',h4,n6,ea,og,hle,fr,id⟩:=(ov.mono hn5).grw (bytes:=72) (ns:=[tmE r]) (ke _) (by simp [aY]) (by simp;omega) (by simp [maxLen];omega)
 rw [er] at ea
 simp -implicitDefEqProofs only [RA,ae,zp,↓reduceIte,reduceCtorEq,zq,zr,zs,zt,↓aA,↓az,↓au,↓ar,↓ay,↓aw,↓ak,↓aj,↓aC,↓aB,↓aE,↓aD,unA,ne_eq,not_true_eq_false,not_false_eq_true,g0,g3,g4,ea,f1]
 refine ⟨l.length-(i+1),by omega,i+1,v',rfl,by omega,rfl,rfl,?_⟩
 rw [aQ hr,FC];exact og
end Go.Proofs.YtkhjclmfbmfahaaGreatDoor
