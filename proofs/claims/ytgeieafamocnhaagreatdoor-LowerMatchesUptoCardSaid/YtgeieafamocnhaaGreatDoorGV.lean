/- The walks of the reference's Same of layer 18. -/
import Derived.Test.YtgeieafamocnhaaGreatDoorGU
namespace Go.Proofs.YtgeieafamocnhaaGreatDoor
open List renaming getElem?_eq_getElem → G7, mem_of_getElem? → G8, take_of_length_le → Ha, length_cons → Hc, length_nil → Hd, length_map → He, length_take → Hf, mem_map → Hg, length_append → Hj, map_append → Hk
set_option maxHeartbeats 64000000
open Go Go.Ab Go.Proofs
open Nat renaming reduceEqDiff → zp, reduceAdd → zq, reduceLeDiff → zr, reduceLT → zs, reduceBEq → zt
set_option linter.unusedVariables false
set_option linter.unusedSimpArgs false
set_option maxRecDepth 20000
def nX (l:List St):AV:=.lst 4 (l.map stE)
theorem yW (l:List St):dt (nX l)=some l.length:=by simp [nX,dP]
theorem yX {l:List St} {n:Nat} {r:St} (h:l[n]?=some r):idxA 4 (nX l) (n:Int)=some (.fp (stE r)):=cY h
theorem Ez (l:List St):cellsOf (nX l)=[nX l]:=rfl
theorem DA (l:List St):(nX l).plain=true:=rfl
theorem Ct (b:Bk):bkE b=[nX b.steps,.int .u8 b.kind,.str b.func,cg b.terms,cP b.to]:=rfl
theorem Dv (t:St):stE t=[.int .u8 t.kind,.str t.var,.str t.func,cg t.terms]:=rfl
theorem w74 (l:List Tm) (ho:oC l):Pure Tryz.prog 74 [cg l,cg l] (.bool true):=by
 refine Pure.of fun nx=>AC.go aj is74 (by simp) ?_
 obtain ⟨hl,hok⟩:=ho
 have lv:=tg l
 have d0:((l.length:Int)=(l.length:Int))=True:=eq_true rfl
 simp -implicitDefEqProofs only [RA,aa,zp,↓reduceIte,reduceCtorEq,zq,zr,zs,zt,A74,FA,lv,d0]
 refine aq (fun q st=>∃ i:Nat,q=l.length-i∧i≤l.length∧ab st.env 0=some (cg l)∧ab st.env 1=some (cg l)∧ab st.env 5=some (.int .i64 i)∧st.dm=[]) (n:=l.length) aj
  ⟨0,rfl,by omega,by simp [ab],by simp [ab],by simp [ab],rfl⟩ ?_
 rintro q ⟨env,heap,nx',dm⟩ ⟨i,rfl,hi,g0,g1,g5,hdm⟩
 simp only at g0 g1 g5 hdm
 subst hdm
 have f1:=wS (i:=i) (by omega)
 by_cases hc:(i:Int)<(l.length:Int)
 case neg =>
  simp -implicitDefEqProofs only [RA,aa,zp,↓reduceIte,reduceCtorEq,zq,zr,zs,zt,xV,sc,g0,g1,g5,lv,hc,R74]
 have hr:=G7 (show i<l.length by omega)
 generalize l[i]=r at hr
 have ix:=lE hr
 simp -implicitDefEqProofs only [RA,aa,zp,↓reduceIte,reduceCtorEq,zq,zr,zs,zt,xV,sc,g0,g1,g5,lv,hc,ix,aV,aQ]
 refine (w11 _ r (Nat.le_refl _) (hok r (G8 hr))).use fun n1 hn1=>?_
 simp -implicitDefEqProofs only [RA,aa,zp,↓reduceIte,reduceCtorEq,zq,zr,zs,zt,g0,g1,g5,unA,f1]
 exact ⟨l.length-(i+1),by omega,i+1,rfl,by omega,rfl⟩
theorem w33 (b:Bk) (ho:B9 b) (hs:b.steps.length≤1000000):Pure Tryz.prog 33 [.agg (bkE b),.agg (bkE b)] (.bool true):=by
 refine Pure.of fun nx=>AC.go aj is33 (by simp) ?_
 obtain ⟨h1,h2,h3⟩:=ho
 have lv:=yW b.steps
 have li:=jY b.to
 have n1:(nx+1=nx)=False:=eq_false (by omega)
 have bn:∀ n:Nm,(n != n)=false:=fun n=>by simp
 have bm:∀ n:Nm,(n==n)=true:=fun n=>by simp
 rw [Ct]
 simp -implicitDefEqProofs only [RA,aa,zp,↓reduceIte,reduceCtorEq,zq,zr,zs,zt,A33,F9,n1,lv,li,↓cw,↓cu,↓Ez,↓DA,↓fV,↓fR,aG,aU,bn,bm]
 refine (w74 b.terms h2).use fun n2 hn2=>?_
 simp -implicitDefEqProofs only [RA,aa,zp,↓reduceIte,reduceCtorEq,zq,zr,zs,zt,unA]
 generalize hC:([nX b.steps,AV.int .u8 b.kind,.str b.func,cg b.terms,cP b.to]:List AV)=C
 refine aq (fun q st=>∃ i:Nat,q=b.to.length-i∧i≤b.to.length∧ab st.env 2=some (.op nx 0)∧ab st.env 3=some (.op (nx+1) 0)∧ab st.env 5=some (.int .i64 i)∧af st.heap nx=some (.cells C)∧af st.heap (nx+1)=some (.cells C)∧nx+1<st.nx∧st.dm=[]) (n:=b.to.length) aj
  ⟨0,rfl,by omega,by simp [ab],by simp [ab],by simp [ab],by simp [ai,n1],by simp [ai],by simp only;omega,rfl⟩ ?_
 rintro q ⟨env,heap,nx',dm⟩ ⟨i,rfl,hi,g2,g3,g5,gx,gy,hlt,hdm⟩
 simp only at g2 g3 g5 gx gy hlt hdm
 subst hdm
 have f1:=wS (i:=i) (by omega)
 by_cases hc:(i:Int)<(b.to.length:Int)
 case pos =>
  have hr:=G7 (show i<b.to.length by omega)
  generalize b.to[i]=r at hr
  have ix:=gC hr
  have ie:inE r=[.int .i64 r]:=rfl
  subst hC
  have d1:(r=r)=True:=eq_true rfl
  simp -implicitDefEqProofs only [RA,aa,zp,↓reduceIte,reduceCtorEq,zq,zr,zs,zt,ye,sr,g2,g3,g5,gx,gy,li,hc,ix,ie,d1,f1]
  exact ⟨b.to.length-(i+1),by omega,i+1,rfl,by omega,rfl,hlt⟩
 subst hC
 simp -implicitDefEqProofs only [RA,aa,zp,↓reduceIte,reduceCtorEq,zq,zr,zs,zt,ye,sr,g2,g3,g5,gx,gy,li,hc]
 generalize hC:([nX b.steps,AV.int .u8 b.kind,.str b.func,cg b.terms,cP b.to]:List AV)=C at gx gy
 refine aq (fun q st=>∃ i:Nat,q=b.steps.length-i∧i≤b.steps.length∧ab st.env 2=some (.op nx 0)∧ab st.env 3=some (.op (nx+1) 0)∧ab st.env 6=some (.int .i64 i)∧af st.heap nx=some (.cells C)∧af st.heap (nx+1)=some (.cells C)∧nx+1<st.nx∧st.dm=[]) (n:=b.steps.length) aj
  ⟨0,rfl,by omega,by simp [ab,g2],by simp [ab,g3],by simp [ab],gx,gy,hlt,rfl⟩ ?_
 clear g2 g3 g5 gx gy hlt hi hc f1
 rintro q ⟨env,heap,nx',dm⟩ ⟨i,rfl,hi,g2,g3,g6,gx,gy,hlt,hdm⟩
 simp only at g2 g3 g6 gx gy hlt hdm
 subst hdm;subst hC
 have f1:=wS (i:=i) (by omega)
 by_cases hc:(i:Int)<(b.steps.length:Int)
 case neg =>
  simp -implicitDefEqProofs only [RA,aa,zp,↓reduceIte,reduceCtorEq,zq,zr,zs,zt,yc,sq,g2,g3,g6,gx,gy,lv,hc,R33]
 have hr:=G7 (show i<b.steps.length by omega)
 generalize b.steps[i]=r at hr
 have ix:=yX hr
 rw [Dv] at ix
 have a1:(nx'+1=nx')=False:=eq_false (by omega)
 have a2:(nx'=nx)=False:=eq_false (by omega)
 have a3:(nx'=nx+1)=False:=eq_false (by omega)
 have a4:(nx'+1=nx)=False:=eq_false (by omega)
 have a5:(nx'=nx'+1)=False:=eq_false (by omega)
 simp -implicitDefEqProofs only [RA,aa,zp,↓reduceIte,reduceCtorEq,zq,zr,zs,zt,yc,sq,g2,g3,g6,gx,gy,lv,hc,ix,a1,a2,a3,a4,a5,↓cw,↓cu,aG,aU,bn,bm]
 refine (w74 r.terms (h1 r (G8 hr))).use fun n3 hn3=>?_
 simp -implicitDefEqProofs only [RA,aa,zp,↓reduceIte,reduceCtorEq,zq,zr,zs,zt,g2,g3,g6,gx,gy,unA,a2,a3,a4,f1]
 refine ⟨b.steps.length-(i+1),by omega,i+1,rfl,by omega,rfl,by omega⟩
theorem w32 (f:Fn) (ho:zm f):Pure Tryz.prog 32 [.agg (fnE f)] (bw (f.params++f.locals)):=by
 refine Pure.own (e:=101) (dX _) fun nx=>AC.go aj is32 (by simp) ?_
 obtain ⟨h1,h2,_⟩:=ho
 have lv:=cq f.params
 have lw:=cq f.locals
 rw [nG]
 simp -implicitDefEqProofs only [RA,aa,zp,↓reduceIte,reduceCtorEq,zq,zr,zs,zt,A32,Ga,↓aY,↓aX,↓qJ,↓qf]
 generalize hC:([.str f.name,bw f.params,.int .i64 f.result,bw f.locals,jL f.blocks]:List AV)=C
 refine aq (fun q st=>∃ (i:Nat) (v:AV),q=f.params.length-i∧i≤f.params.length∧ab st.env 1=some (.op nx 0)∧ab st.env 3=some v∧ab st.env 4=some (.int .i64 i)∧af st.heap nx=some (.cells C)∧aF 101 2 st.heap st.nx v ((f.params.take i).map pmE)∧(∀ b,aw v=some b→nx<b)∧nx<st.nx∧st.dm=[]) (n:=f.params.length) aj
  ⟨0,.nilS,rfl,by omega,by simp [ab],by simp [ab],by simp [ab],by simp [ai],.inl ⟨rfl,by simp⟩,by simp [aw],by simp,rfl⟩ ?_
 rintro q ⟨env,heap,nx',dm⟩ ⟨i,v,rfl,hi,g1,g3,g4,gx,ov,bv,hlt,hdm⟩
 simp only at g1 g3 g4 gx ov bv hlt hdm
 subst hdm
 have f1:=wS (i:=i) (by omega)
 by_cases hc:(i:Int)<(f.params.length:Int)
 case pos =>
  have hr:=G7 (show i<f.params.length by omega)
  generalize f.params[i]=r at hr
  have ix:=dj hr
  have rl:=kF r
  have rt:=ji r
  obtain ⟨v2,hp,n9,ea,ow,hn9,k9,b9⟩:=ov.grw (bytes:=24) (ns:=[pmE r]) (dX _) (by simp [pmE]) (by simp only [He,Hf,Hc,Hd];omega) (by simp only [He,Hf,Hc,Hd,maxLen];omega)
  subst hC
  simp -implicitDefEqProofs only [RA,aa,zp,↓reduceIte,reduceCtorEq,zq,zr,zs,zt,yg,sw,g1,g3,g4,gx,lv,hc,ix,rl,rt,ea,f1]
  refine ⟨f.params.length-(i+1),by omega,i+1,v2,rfl,by omega,rfl,rfl,k9 _ _ hlt gx fun e=>by have:=bv nx e;omega,?_,fun b hb=>?_,by omega⟩
  ·rw [az hr,Hk];exact ow
  ·rcases b9 b hb with h|h
   ·omega
   ·exact bv b h
 subst hC
 rw [Ha (by omega)] at ov
 simp -implicitDefEqProofs only [RA,aa,zp,↓reduceIte,reduceCtorEq,zq,zr,zs,zt,yg,sw,g1,g3,g4,gx,lv,hc]
 generalize hC:([.str f.name,bw f.params,.int .i64 f.result,bw f.locals,jL f.blocks]:List AV)=C at gx
 refine aq (fun q st=>∃ (i:Nat) (v:AV),q=f.locals.length-i∧i≤f.locals.length∧ab st.env 1=some (.op nx 0)∧ab st.env 3=some v∧ab st.env 5=some (.int .i64 i)∧af st.heap nx=some (.cells C)∧aF 101 2 st.heap st.nx v ((f.params++f.locals.take i).map pmE)∧(∀ b,aw v=some b→nx<b)∧nx<st.nx∧st.dm=[]) (n:=f.locals.length) aj
  ⟨0,v,rfl,by omega,by simp [ab,g1],by simp [ab,g3],by simp [ab],gx,by simpa using ov,bv,hlt,rfl⟩ ?_
 clear g1 g3 g4 gx ov bv hlt hi hc f1
 rintro q ⟨env,heap,nx',dm⟩ ⟨i,v,rfl,hi,g1,g3,g5,gx,ov,bv,hlt,hdm⟩
 simp only at g1 g3 g5 gx ov bv hlt hdm
 subst hdm;subst hC
 have f1:=wS (i:=i) (by omega)
 by_cases hc:(i:Int)<(f.locals.length:Int)
 case neg =>
  rw [Ha (by omega)] at ov
  simp -implicitDefEqProofs only [RA,aa,zp,↓reduceIte,reduceCtorEq,zq,zr,zs,zt,yf,su,g1,g3,g5,gx,lw,hc,R32]
  exact ⟨v,rfl,ov⟩
 have hr:=G7 (show i<f.locals.length by omega)
 generalize f.locals[i]=r at hr
 have ix:=dj hr
 have rl:=kF r
 have rt:=ji r
 obtain ⟨v2,hp,n9,ea,ow,hn9,k9,b9⟩:=ov.grw (bytes:=24) (ns:=[pmE r]) (dX _) (by simp [pmE]) (by simp only [He,Hj,Hf,Hc,Hd];omega) (by simp only [He,Hj,Hf,Hc,Hd,maxLen];omega)
 simp -implicitDefEqProofs only [RA,aa,zp,↓reduceIte,reduceCtorEq,zq,zr,zs,zt,yf,su,g1,g3,g5,gx,lw,hc,ix,rl,rt,ea,f1]
 refine ⟨f.locals.length-(i+1),by omega,i+1,v2,rfl,by omega,rfl,rfl,k9 _ _ hlt gx fun e=>by have:=bv nx e;omega,?_,fun b hb=>?_,by omega⟩
 ·rw [az hr,← List.append_assoc,Hk];exact ow
 ·rcases b9 b hb with h|h
  ·omega
  ·exact bv b h
def j7 (l:List Fn):AV:=.lst 5 (l.map fnE)
theorem zG (l:List Fn):dt (j7 l)=some l.length:=by simp [j7,dP]
theorem zH {l:List Fn} {n:Nat} {r:Fn} (h:l[n]?=some r):idxA 5 (j7 l) (n:Int)=some (.fp (fnE r)):=cY h
theorem tL (l:List Fn):cellsOf (j7 l)=[j7 l]:=rfl
theorem tB (l:List Fn):(j7 l).plain=true:=rfl
theorem w15 (l:List Fn) (hl:l.length≤1000) (ho:∀ f∈l,zm f):Pure Tryz.prog 15 [.agg [j7 l],.agg [j7 l]] (.bool true):=by
 refine Pure.of fun nx=>AC.go aj is15 (by simp) ?_
 have lv:=zG l
 have n1:(nx+1=nx)=False:=eq_false (by omega)
 have bm:∀ n:Nm,(n==n)=true:=fun n=>by simp
 have bn:∀ n:Nm,(n != n)=false:=fun n=>by simp
 simp -implicitDefEqProofs only [RA,aa,zp,↓reduceIte,reduceCtorEq,zq,zr,zs,zt,A15,Gr,n1,lv,↓tL,↓tB]
 refine aq (fun q st=>∃ i:Nat,q=l.length-i∧i≤l.length∧ab st.env 2=some (.op nx 0)∧ab st.env 3=some (.op (nx+1) 0)∧ab st.env 5=some (.int .i64 i)∧af st.heap nx=some (.cells [j7 l])∧af st.heap (nx+1)=some (.cells [j7 l])∧nx+1<st.nx∧st.dm=[]) (n:=l.length) aj
  ⟨0,rfl,by omega,by simp [ab],by simp [ab],by simp [ab],by simp [ai,n1],by simp [ai],by simp only;omega,rfl⟩ ?_
 rintro q ⟨env,heap,nx',dm⟩ ⟨i,rfl,hi,g2,g3,g5,gx,gy,hlt,hdm⟩
 simp only at g2 g3 g5 gx gy hlt hdm
 subst hdm
 have f1:=wS (i:=i) (by omega)
 by_cases hc:(i:Int)<(l.length:Int)
 case neg =>
  simp -implicitDefEqProofs only [RA,aa,zp,↓reduceIte,reduceCtorEq,zq,zr,zs,zt,yz,sL,g2,g3,g5,gx,gy,lv,hc,R15]
 have hr:=G7 (show i<l.length by omega)
 generalize l[i]=f at hr
 have hof:=ho f (G8 hr)
 have ix:=zH hr
 have c32:=w32 f hof
 obtain ⟨o1,o2,o3,o4⟩:=hof
 rw [nG] at ix c32
 have a1:(nx'+1=nx')=False:=eq_false (by omega)
 have a2:(nx'=nx)=False:=eq_false (by omega)
 have a3:(nx'=nx+1)=False:=eq_false (by omega)
 have a4:(nx'+1=nx)=False:=eq_false (by omega)
 have a5:(nx'=nx'+1)=False:=eq_false (by omega)
 have lp:=cq f.params
 have lo:=cq f.locals
 have lb:=lR f.blocks
 simp -implicitDefEqProofs only [RA,aa,zp,↓reduceIte,reduceCtorEq,zq,zr,zs,zt,yz,sL,g2,g3,g5,gx,gy,lv,hc,ix,a1,a2,a3,a4,a5,↓aY,↓aX,↓qJ,↓qf,aG,aU,bn,bm,lp,lo,lb]
 refine c32.use fun n2 hn2=>?_
 simp -implicitDefEqProofs only [RA,aa,zp,↓reduceIte,reduceCtorEq,zq,zr,zs,zt,a1,a2,a3,a4,a5]
 refine c32.use fun n3 hn3=>?_
 simp -implicitDefEqProofs only [RA,aa,zp,↓reduceIte,reduceCtorEq,zq,zr,zs,zt,a1,a2,a3,a4,a5]
 have lxy:=cq (f.params++f.locals)
 generalize hX:f.params++f.locals=X at lxy
 have hXl:X.length≤20000:=by rw [← hX,Hj];omega
 generalize hC:([.str f.name,bw f.params,.int .i64 f.result,bw f.locals,jL f.blocks]:List AV)=C
 generalize hH:((nx'+1,AO.cells C)::(nx',.cells C)::(nx'+1,.cells [.str [],.nilS,.int .i64 0,.nilS,.nilS])::(nx',.cells [.str [],.nilS,.int .i64 0,.nilS,.nilS])::heap:Heap)=H1
 have kx:af H1 nx=some (.cells [j7 l]):=by rw [← hH];simp only [ai];rw [if_neg (by omega),if_neg (by omega),if_neg (by omega),if_neg (by omega)];exact gx
 have ky:af H1 (nx+1)=some (.cells [j7 l]):=by rw [← hH];simp only [ai];rw [if_neg (by omega),if_neg (by omega),if_neg (by omega),if_neg (by omega)];exact gy
 have k6:af H1 nx'=some (.cells C):=by rw [← hH];simp [ai]
 have k7:af H1 (nx'+1)=some (.cells C):=by rw [← hH];simp [ai]
 clear hH
 refine aq (fun q st=>∃ j:Nat,q=X.length-j∧j≤X.length∧ab st.env 2=some (.op nx 0)∧ab st.env 3=some (.op (nx+1) 0)∧ab st.env 5=some (.int .i64 i)∧ab st.env 6=some (.op nx' 0)∧ab st.env 7=some (.op (nx'+1) 0)∧ab st.env 8=some (bw X)∧ab st.env 9=some (bw X)∧ab st.env 10=some (.int .i64 j)∧st.heap=H1∧nx'+1<st.nx∧st.dm=[]) (n:=X.length) aj
  ⟨0,rfl,by omega,by simp [ab,g2],by simp [ab,g3],by simp [ab,g5],by simp [ab],by simp [ab],by simp [ab],by simp [ab],by simp [ab],rfl,by simp only;omega,rfl⟩ ?_
 clear g2 g3 g5
 rintro q ⟨env,hp,nx2,dm⟩ ⟨j,rfl,hj,g2,g3,g5,g6,g7,g8,g9,g10,hh,hlt2,hdm⟩
 simp only at g2 g3 g5 g6 g7 g8 g9 g10 hh hlt2 hdm
 subst hdm;subst hh
 have f2:=wS (i:=j) (by omega)
 by_cases hd:(j:Int)<(X.length:Int)
 case pos =>
  have hr2:=G7 (show j<X.length by omega)
  generalize X[j]=r at hr2
  have iy:=dj hr2
  have rl:=kF r
  have rt:=ji r
  have he:eqL [.str,.int] (pmE r) (pmE r)=some true:=by simp [eqL,eqC,pmE]
  simp -implicitDefEqProofs only [RA,aa,zp,↓reduceIte,reduceCtorEq,zq,zr,zs,zt,yB,sN,g2,g3,g5,g6,g7,g8,g9,g10,lxy,hd,iy,rl,rt,he,f2]
  exact ⟨X.length-(j+1),by omega,j+1,rfl,by omega,rfl,hlt2⟩
 simp -implicitDefEqProofs only [RA,aa,zp,↓reduceIte,reduceCtorEq,zq,zr,zs,zt,yB,sN,g8,g10,lxy,hd]
 refine aq (fun q st=>∃ j:Nat,q=f.blocks.length-j∧j≤f.blocks.length∧ab st.env 2=some (.op nx 0)∧ab st.env 3=some (.op (nx+1) 0)∧ab st.env 5=some (.int .i64 i)∧ab st.env 6=some (.op nx' 0)∧ab st.env 7=some (.op (nx'+1) 0)∧ab st.env 11=some (.int .i64 j)∧st.heap=hp∧nx'+1<st.nx∧st.dm=[]) (n:=f.blocks.length) aj
  ⟨0,rfl,by omega,by simp [ab,g2],by simp [ab,g3],by simp [ab,g5],by simp [ab,g6],by simp [ab,g7],by simp [ab],rfl,hlt2,rfl⟩ ?_
 clear g2 g3 g5 g6 g7 g8 g9 g10 hlt2 hd hj f2
 rintro q ⟨env,hp2,nx2,dm⟩ ⟨j,rfl,hj,g2,g3,g5,g6,g7,g11,hh,hlt2,hdm⟩
 simp only at g2 g3 g5 g6 g7 g11 hh hlt2 hdm
 subst hdm;subst hh;subst hC
 have f2:=wS (i:=j) (by omega)
 by_cases hd:(j:Int)<(f.blocks.length:Int)
 case neg =>
  simp -implicitDefEqProofs only [RA,aa,zp,↓reduceIte,reduceCtorEq,zq,zr,zs,zt,yA,sM,g2,g3,g5,g6,g7,g11,k6,k7,lb,hd,f1]
  exact ⟨l.length-(i+1),by omega,i+1,rfl,by omega,rfl,kx,ky,by omega⟩
 have hr2:=G7 (show j<f.blocks.length by omega)
 generalize f.blocks[j]=b at hr2
 have iy:=oT hr2
 obtain ⟨ob1,ob2⟩:=o4 b (G8 hr2)
 have rl:=xq b
 have rt:=tN b
 simp -implicitDefEqProofs only [RA,aa,zp,↓reduceIte,reduceCtorEq,zq,zr,zs,zt,yA,sM,g2,g3,g5,g6,g7,g11,k6,k7,lb,hd,iy,rl,rt]
 refine (w33 b ob1 ob2).use fun n4 hn4=>?_
 simp -implicitDefEqProofs only [RA,aa,zp,↓reduceIte,reduceCtorEq,zq,zr,zs,zt,g2,g3,g5,g6,g7,g11,unA,f2]
 exact ⟨f.blocks.length-(j+1),by omega,j+1,rfl,by omega,rfl,by omega⟩
theorem mm:∀ l:List Ex,l.length≤cD l
 | []=>by simp
 | x::r=>by have:=mm r;have:=gY x;simp only [Hc,cD];omega
theorem w75:∀ (N:Nat) (l:List Ex),cD l≤N→N≤4000000→Pure Tryz.prog 75 [aR l,aR l] (.bool true):=by
 intro N
 induction N with
 | zero =>
  intro l hl _
  have:l=[]:=by
   cases l with
   | nil=>rfl
   | cons x r=>have:=gY x;simp only [cD] at hl;omega
  subst this
  refine Pure.of fun nx=>AC.go aj DE (by simp) ?_
  have lv:dt (aR [])=some 0:=rfl
  have d0:((0:Int)=0)=True:=eq_true rfl
  have hc:((0:Int)<0)=False:=eq_false (by omega)
  have zz:((0:Nat):Int)=0:=rfl
  simp -implicitDefEqProofs only [RA,aa,zp,↓reduceIte,reduceCtorEq,zq,zr,zs,zt,A75,CN,lv,d0,zz]
  refine aq (fun q st=>q=0∧ab st.env 0=some (aR [])∧ab st.env 5=some (.int .i64 0)∧st.dm=[]) (n:=0) aj ⟨rfl,by simp [ab],by simp [ab],rfl⟩ ?_
  rintro q ⟨env,heap,nx',dm⟩ ⟨rfl,g0,g5,hdm⟩
  simp only at g0 g5 hdm
  subst hdm
  simp -implicitDefEqProofs only [RA,aa,zp,↓reduceIte,reduceCtorEq,zq,zr,zs,zt,tU,pj,g0,g5,lv,zz,hc,R75]
 | succ N ih =>
  intro l hl hN
  refine Pure.of fun nx=>AC.go aj DE (by simp) ?_
  have hla:=mm l
  have lv:=aP l
  have bm:∀ n:Nm,(n==n)=true:=fun n=>by simp
  have bn:∀ n:Nm,(n != n)=false:=fun n=>by simp
  simp -implicitDefEqProofs only [RA,aa,zp,↓reduceIte,reduceCtorEq,zq,zr,zs,zt,A75,CN,lv]
  refine aq (fun q st=>∃ i:Nat,q=l.length-i∧i≤l.length∧ab st.env 0=some (aR l)∧ab st.env 1=some (aR l)∧ab st.env 5=some (.int .i64 i)∧st.dm=[]) (n:=l.length) aj
   ⟨0,rfl,by omega,by simp [ab],by simp [ab],by simp [ab],rfl⟩ ?_
  rintro q ⟨env,heap,nx',dm⟩ ⟨i,rfl,hi,g0,g1,g5,hdm⟩
  simp only at g0 g1 g5 hdm
  subst hdm
  have f1:=wS (i:=i) (by omega)
  by_cases hc:(i:Int)<(l.length:Int)
  case neg =>
   simp -implicitDefEqProofs only [RA,aa,zp,↓reduceIte,reduceCtorEq,zq,zr,zs,zt,tU,pj,g0,g5,lv,hc,R75]
  have hr:=G7 (show i<l.length by omega)
  generalize l[i]=x at hr
  have ix:=bA hr
  have hm:=eO (G8 hr)
  obtain ⟨k,w,b,n,o,s⟩:=x
  have hs:=gY (.mk k w b n o s)
  simp only [Ex.name,Ex.sub] at hs
  rw [dE] at ix
  have n1:(nx'+1=nx')=False:=eq_false (by omega)
  have nb:(nx'=nx'+1)=False:=eq_false (by omega)
  simp -implicitDefEqProofs only [RA,aa,zp,↓reduceIte,reduceCtorEq,zq,zr,zs,zt,tU,pj,g0,g1,g5,lv,hc,ix,n1,nb,aG,aU,bm,bn]
  refine (ih s (by omega) (by omega)).use fun n2 hn2=>?_
  simp -implicitDefEqProofs only [RA,aa,zp,↓reduceIte,reduceCtorEq,zq,zr,zs,zt,g0,g1,g5,unA,f1]
  exact ⟨l.length-(i+1),by omega,i+1,rfl,by omega,rfl⟩
theorem vG (l:List Sm) (hl:bS l≤4000000) (H:∀ k n f w q b e,Sm.mk k n f w q b e∈l→Pure Tryz.prog 35 [ay b,ay b] (.bool true)∧Pure Tryz.prog 35 [ay e,ay e] (.bool true)):Pure Tryz.prog 35 [ay l,ay l] (.bool true):=by
 refine Pure.of fun nx=>AC.go aj is35 (by simp) ?_
 have hla:=jO l
 have lv:=aO l
 have bm:∀ n:Nm,(n==n)=true:=fun n=>by simp
 have bn:∀ n:Nm,(n != n)=false:=fun n=>by simp
 simp -implicitDefEqProofs only [RA,aa,zp,↓reduceIte,reduceCtorEq,zq,zr,zs,zt,A35,F7,lv]
 refine aq (fun q st=>∃ i:Nat,q=l.length-i∧i≤l.length∧ab st.env 0=some (ay l)∧ab st.env 1=some (ay l)∧ab st.env 5=some (.int .i64 i)∧st.dm=[]) (n:=l.length) aj
  ⟨0,rfl,by omega,by simp [ab],by simp [ab],by simp [ab],rfl⟩ ?_
 rintro q ⟨env,heap,nx',dm⟩ ⟨i,rfl,hi,g0,g1,g5,hdm⟩
 simp only at g0 g1 g5 hdm
 subst hdm
 have f1:=wS (i:=i) (by omega)
 by_cases hc:(i:Int)<(l.length:Int)
 case neg =>
  simp -implicitDefEqProofs only [RA,aa,zp,↓reduceIte,reduceCtorEq,zq,zr,zs,zt,ya,so,g0,g5,lv,hc,R35]
 have hr:=G7 (show i<l.length by omega)
 generalize l[i]=x at hr
 have ix:=eQ hr
 have hm:=bH (G8 hr)
 obtain ⟨k,n,f,w,q,b,e⟩:=x
 obtain ⟨cb,ce⟩:=H k n f w q b e (G8 hr)
 simp only [szS] at hm
 rw [cH] at ix
 have n1:(nx'+1=nx')=False:=eq_false (by omega)
 have nb:(nx'=nx'+1)=False:=eq_false (by omega)
 simp -implicitDefEqProofs only [RA,aa,zp,↓reduceIte,reduceCtorEq,zq,zr,zs,zt,ya,so,g0,g1,g5,lv,hc,ix,n1,nb,aG,aU,bm,bn]
 refine (w75 4000000 q (by omega) (by omega)).use fun n2 hn2=>?_
 simp -implicitDefEqProofs only [RA,aa,zp,↓reduceIte,reduceCtorEq,zq,zr,zs,zt,unA,n1,nb]
 refine cb.use fun n3 hn3=>?_
 simp -implicitDefEqProofs only [RA,aa,zp,↓reduceIte,reduceCtorEq,zq,zr,zs,zt,unA,n1,nb]
 refine ce.use fun n4 hn4=>?_
 simp -implicitDefEqProofs only [RA,aa,zp,↓reduceIte,reduceCtorEq,zq,zr,zs,zt,g0,g1,g5,unA,f1]
 exact ⟨l.length-(i+1),by omega,i+1,rfl,by omega,rfl⟩
theorem w35:∀ (N:Nat) (l:List Sm),bS l≤N→N≤4000000→Pure Tryz.prog 35 [ay l,ay l] (.bool true)
 | 0,l,h,hN=>vG l (by omega) fun k n f w q b e hm=>by have:=bH hm;simp only [szS] at this;omega
 | N+1,l,h,hN=>vG l (by omega) fun k n f w q b e hm=>by
  have:=bH hm
  simp only [szS] at this
  exact ⟨w35 N b (by omega) (by omega),w35 N e (by omega) (by omega)⟩
theorem w34 (l:List Pm) (hl:l.length≤1000000):Pure Tryz.prog 34 [bw l,bw l] (.bool true):=by
 refine Pure.of fun nx=>AC.go aj is34 (by simp) ?_
 have lv:=cq l
 simp -implicitDefEqProofs only [RA,aa,zp,↓reduceIte,reduceCtorEq,zq,zr,zs,zt,A34,F8,lv]
 refine aq (fun q st=>∃ i:Nat,q=l.length-i∧i≤l.length∧ab st.env 0=some (bw l)∧ab st.env 1=some (bw l)∧ab st.env 5=some (.int .i64 i)∧st.dm=[]) (n:=l.length) aj
  ⟨0,rfl,by omega,by simp [ab],by simp [ab],by simp [ab],rfl⟩ ?_
 rintro q ⟨env,heap,nx',dm⟩ ⟨i,rfl,hi,g0,g1,g5,hdm⟩
 simp only at g0 g1 g5 hdm
 subst hdm
 have f1:=wS (i:=i) (by omega)
 by_cases hc:(i:Int)<(l.length:Int)
 case neg =>
  simp -implicitDefEqProofs only [RA,aa,zp,↓reduceIte,reduceCtorEq,zq,zr,zs,zt,yb,sp,g0,g5,lv,hc,R34]
 have hr:=G7 (show i<l.length by omega)
 generalize l[i]=r at hr
 have ix:=dj hr
 have rl:=kF r
 have rt:=ji r
 have he:eqL [.str,.int] (pmE r) (pmE r)=some true:=by simp [eqL,eqC,pmE]
 simp -implicitDefEqProofs only [RA,aa,zp,↓reduceIte,reduceCtorEq,zq,zr,zs,zt,yb,sp,g0,g1,g5,lv,hc,ix,rl,rt,he,f1]
 exact ⟨l.length-(i+1),by omega,i+1,rfl,by omega,rfl⟩
theorem w16 (p:Pr) (o:OkP p):Pure Tryz.prog 16 [.agg (prE p),.agg (prE p)] (.bool true):=by
 refine Pure.of fun nx=>AC.go aj is16 (by simp) ?_
 have hal:=o.al
 have hfl:=o.fl
 have n1:(nx+1=nx)=False:=eq_false (by omega)
 have la:=eV p.arrays
 have lf:=cZ p.funcs
 have bm:∀ n:Nm,(n==n)=true:=fun n=>by simp
 have bn:∀ n:Nm,(n != n)=false:=fun n=>by simp
 simp -implicitDefEqProofs only [RA,aa,zp,↓reduceIte,reduceCtorEq,zq,zr,zs,zt,A16,Gq,prE,n1,la,lf]
 refine aq (fun q st=>∃ i:Nat,q=p.arrays.length-i∧i≤p.arrays.length∧ab st.env 2=some (.op nx 0)∧ab st.env 3=some (.op (nx+1) 0)∧ab st.env 5=some (.int .i64 i)∧st.dm=[] ∧
  nx+1<st.nx∧af st.heap nx=some (.cells [bU p.arrays,bR p.funcs])∧af st.heap (nx+1)=some (.cells [bU p.arrays,bR p.funcs])) (n:=p.arrays.length) aj
  ⟨0,rfl,by omega,by simp [ab],by simp [ab],by simp [ab],rfl,by simp only;omega,by simp [af,n1],by simp [af]⟩ ?_
 rintro k ⟨env,heap,nx',dm⟩ ⟨i,rfl,hi,g2,g3,g5,hdm,hlt,gp,gq⟩
 simp only at g2 g3 g5 hdm hlt gp gq
 subst hdm
 by_cases hc:(i:Int)<(p.arrays.length:Int)
 case pos =>
  have ha:=G7 (show i<p.arrays.length by omega)
  generalize p.arrays[i]=x at ha
  have ia:=cO ha
  have tx:=lS x
  have lx:=oW x
  have he:eqL [.str,.int,.int] (arE x) (arE x)=some true:=by simp [eqL,eqC,arE]
  have f1:=wS (i:=i) (by omega)
  simp -implicitDefEqProofs only [RA,aa,zp,↓reduceIte,reduceCtorEq,zq,zr,zs,zt,yw,sK,g2,g3,g5,gp,gq,la,hc,ia,tx,lx,he,f1,and_true]
  exact ⟨p.arrays.length-(i+1),by omega,i+1,rfl,by omega,rfl,hlt⟩
 simp -implicitDefEqProofs only [RA,aa,zp,↓reduceIte,reduceCtorEq,zq,zr,zs,zt,yw,sK,g2,g3,g5,gp,la,hc]
 refine aq (fun q st=>∃ i:Nat,q=p.funcs.length-i∧i≤p.funcs.length∧ab st.env 2=some (.op nx 0)∧ab st.env 3=some (.op (nx+1) 0)∧ab st.env 6=some (.int .i64 i)∧st.dm=[] ∧
  nx+1<st.nx∧af st.heap nx=some (.cells [bU p.arrays,bR p.funcs])∧af st.heap (nx+1)=some (.cells [bU p.arrays,bR p.funcs])) (n:=p.funcs.length) aj
  ⟨0,rfl,by omega,by simp [ab,g2],by simp [ab,g3],by simp [ab],rfl,hlt,gp,gq⟩ ?_
 clear g2 g3 g5 hlt gp gq hc hi
 rintro k ⟨env,heap,nx',dm⟩ ⟨i,rfl,hi,g2,g3,g6,hdm,hlt,gp,gq⟩
 simp only at g2 g3 g6 hdm hlt gp gq
 subst hdm
 by_cases hc:(i:Int)<(p.funcs.length:Int)
 case neg =>
  simp -implicitDefEqProofs only [RA,aa,zp,↓reduceIte,reduceCtorEq,zq,zr,zs,zt,yv,sJ,g2,g3,g6,gp,lf,hc,R16]
 have ha:=G7 (show i<p.funcs.length by omega)
 generalize p.funcs[i]=x at ha
 have hx:=G8 ha
 have ia:=cJ ha
 have f1:=wS (i:=i) (by omega)
 have px:=o.fp x hx
 have bx:=o.fb x hx
 have e1:(nx'+1=nx')=False:=eq_false (by omega)
 have e2:(nx'=nx'+1)=False:=eq_false (by omega)
 have e3:(nx'=nx)=False:=eq_false (by omega)
 have e4:(nx'=nx+1)=False:=eq_false (by omega)
 have e5:(nx'+1=nx)=False:=eq_false (by omega)
 simp -implicitDefEqProofs only [RA,aa,zp,↓reduceIte,reduceCtorEq,zq,zr,zs,zt,yv,sJ,fuE,aG,aU,bm,bn,g2,g3,g6,gp,gq,lf,hc,ia,e1,e2,e3,e4,e5]
 refine (w34 x.params (by omega)).use fun n2 hn2=>?_
 simp -implicitDefEqProofs only [RA,aa,zp,↓reduceIte,reduceCtorEq,zq,zr,zs,zt,unA,e1,e2]
 refine (w35 4000000 x.body (by omega) (by omega)).use fun n3 hn3=>?_
 simp -implicitDefEqProofs only [RA,aa,zp,↓reduceIte,reduceCtorEq,zq,zr,zs,zt,unA,g2,g3,g6,gp,gq,e3,e4,e5,f1,and_true]
 exact ⟨p.funcs.length-(i+1),by omega,i+1,rfl,by omega,rfl,by omega⟩
theorem vF (l:List Ex) (hA:cD l≤4000000) (H:∀ x∈l,Pure Tryz.prog 58 [aR x.sub] (aR x.sub)):Pure Tryz.prog 58 [aR l] (aR l):=by
 refine Pure.own (e:=29) (fun c hc=>by obtain ⟨a,_,rfl⟩:=Hg.1 hc;exact bI a) fun nx=>AC.go aj is58 (by simp) ?_
 have hla:=mm l
 have lv:=aP l
 simp -implicitDefEqProofs only [RA,aa,zp,↓reduceIte,reduceCtorEq,zq,zr,zs,zt,A58,FO,lv]
 refine aq (fun k st=>∃ i:Nat,k=l.length-i∧i≤l.length∧ab st.env 0=some (aR l)∧ab st.env 4=some (.int .i64 i)∧st.dm=[]∧∃ v,ab st.env 3=some v∧aF 29 6 st.heap st.nx v ((l.take i).map exE)) (n:=l.length) aj
  ⟨0,rfl,by omega,by simp [ab],by simp [ab],rfl,.nilS,by simp [ab],.inl ⟨rfl,by simp⟩⟩ ?_
 rintro k ⟨env,heap,nx',dm⟩ ⟨i,rfl,hi,g0,g4,hdm,v,g3,ho⟩
 simp only at g0 g3 g4 hdm ho
 subst hdm
 rcases ah ((i:Int)<(l.length:Int)) with ⟨hc,hc'⟩|⟨hc,hc'⟩
 case inr =>
  rw [Ha (by omega)] at ho
  simp -implicitDefEqProofs only [RA,aa,zp,↓reduceIte,reduceCtorEq,zq,zr,zs,zt,x5,sg,g0,g3,g4,lv,hc',R58]
  exact ⟨v,rfl,ho⟩
 have ha:=G7 (show i<l.length by omega)
 generalize l[i]=x at ha
 have ia:=bA ha
 have C:=H x (G8 ha)
 have e1:(l.take (i+1)).map exE=(l.take i).map exE++[exE x]:=by rw [az ha];simp
 obtain ⟨k,w,b,n,o,s⟩:=x
 simp only [Ex.sub] at C
 rw [dE] at ia e1
 have f1:=wS (i:=i) (by omega)
 have cx:=aT s
 have px:=aS s
 simp -implicitDefEqProofs only [RA,aa,zp,↓reduceIte,reduceCtorEq,zq,zr,zs,zt,x5,sg,g0,g3,g4,lv,hc',ia]
 refine C.use fun n2 hn2=>?_
 have kp:∀ X Y Z:AO,aF 29 6 ((nx',X)::(nx',Y)::(nx',Z)::heap) n2 v ((l.take i).map exE):=fun X Y Z=>ho.keep (by omega) fun b o hb hg=>by
  have:=(ho.blk hb).2.2
  rw [ai,if_neg (by omega),ai,if_neg (by omega),ai,if_neg (by omega)];exact hg
 obtain ⟨v',h',n',ea,og⟩:=(kp (.cells [.int .u8 k,.int .i64 w,.int .u64 b,.str n,.int .u8 o,aR s]) (.cells [.int .u8 k,.int .i64 w,.int .u64 b,.str n,.int .u8 o,aR s]) (.cells [.int .u8 0,.int .i64 0,.int .u64 0,.str [],.int .u8 0,.nilS])).grw (bytes:=72) (ns:=[[.int .u8 k,.int .i64 w,.int .u64 b,.str n,.int .u8 o,aR s]]) (fun c hc=>by obtain ⟨a,_,rfl⟩:=Hg.1 hc;exact bI a) (by simp) (by simp;omega) (by simp [maxLen];omega)
 have hone:((1:Nat)=0)=False:=by simp
 simp -implicitDefEqProofs only [RA,aa,zp,↓reduceIte,reduceCtorEq,zq,zr,zs,zt,g0,g3,g4,cx,px,ea,f1,hone]
 rw [← e1] at og
 exact ⟨l.length-(i+1),by omega,i+1,rfl,by omega,rfl,og.1⟩
theorem w58:∀ (N:Nat) (l:List Ex),cD l≤N→N≤4000000→Pure Tryz.prog 58 [aR l] (aR l)
 | 0,a,h,hN=>vF a (by omega) fun x hx=>by have:=eO hx;have:=gY x;omega
 | N+1,a,h,hN=>vF a (by omega) fun x hx=>w58 N x.sub (by have:=eO hx;have:=gY x;omega) (by omega)
theorem vH (l:List Sm) (hA:bS l≤4000000) (H:∀ x∈l,Pure Tryz.prog 27 [ay x.body] (ay x.body)∧Pure Tryz.prog 27 [ay x.els] (ay x.els)):Pure Tryz.prog 27 [ay l] (ay l):=by
 refine Pure.own (e:=106) (fun c hc=>by obtain ⟨a,_,rfl⟩:=Hg.1 hc;exact iL a) fun nx=>AC.go aj is27 (by simp) ?_
 have hla:=jO l
 have lv:=aO l
 simp -implicitDefEqProofs only [RA,aa,zp,↓reduceIte,reduceCtorEq,zq,zr,zs,zt,A27,Gh,lv]
 refine aq (fun k st=>∃ i:Nat,k=l.length-i∧i≤l.length∧ab st.env 0=some (ay l)∧ab st.env 4=some (.int .i64 i)∧st.dm=[]∧∃ v,ab st.env 3=some v∧aF 106 7 st.heap st.nx v ((l.take i).map smE)) (n:=l.length) aj
  ⟨0,rfl,by omega,by simp [ab],by simp [ab],rfl,.nilS,by simp [ab],.inl ⟨rfl,by simp⟩⟩ ?_
 rintro k ⟨env,heap,nx',dm⟩ ⟨i,rfl,hi,g0,g4,hdm,v,g3,ho⟩
 simp only at g0 g3 g4 hdm ho
 subst hdm
 rcases ah ((i:Int)<(l.length:Int)) with ⟨hc,hc'⟩|⟨hc,hc'⟩
 case inr =>
  rw [Ha (by omega)] at ho
  simp -implicitDefEqProofs only [RA,aa,zp,↓reduceIte,reduceCtorEq,zq,zr,zs,zt,yh,sx,g0,g3,g4,lv,hc',R27]
  exact ⟨v,rfl,ho⟩
 have ha:=G7 (show i<l.length by omega)
 generalize l[i]=x at ha
 have ia:=eQ ha
 have hx:=G8 ha
 have hsx:=bH hx
 have hse:=gX x
 have C:=H x hx
 have e1:(l.take (i+1)).map smE=(l.take i).map smE++[smE x]:=by rw [az ha];simp
 obtain ⟨k,n,f,w,q,b,e⟩:=x
 simp only [Sm.body,Sm.els,Sm.exprs,Sm.name,Sm.func] at C hse
 rw [cH] at ia e1
 have f1:=wS (i:=i) (by omega)
 have cx:=aT q
 have px:=aS q
 have cb:=aB b
 have pb:=aA b
 have ce:=aB e
 have pe:=aA e
 have n1:(nx'+1=nx')=False:=eq_false (by omega)
 simp -implicitDefEqProofs only [RA,aa,zp,↓reduceIte,reduceCtorEq,zq,zr,zs,zt,yh,sx,g0,g3,g4,lv,hc',ia,n1]
 refine (w58 4000000 q (by omega) (by omega)).use fun n2 hn2=>?_
 simp -implicitDefEqProofs only [RA,aa,zp,↓reduceIte,reduceCtorEq,zq,zr,zs,zt,g0,n1,and_true]
 refine C.1.use fun n3 hn3=>?_
 simp -implicitDefEqProofs only [RA,aa,zp,↓reduceIte,reduceCtorEq,zq,zr,zs,zt,g0,n1,and_true]
 refine C.2.use fun n4 hn4=>?_
 have kp:∀ X Y Z U W:AO,aF 106 7 ((nx',U)::(nx',W)::(nx',X)::(nx',Y)::(nx',Z)::heap) n4 v ((l.take i).map smE):=fun X Y Z U W=>ho.keep (by omega) fun b o hb hg=>by
  have:=(ho.blk hb).2.2
  rw [ai,if_neg (by omega),ai,if_neg (by omega),ai,if_neg (by omega),ai,if_neg (by omega),ai,if_neg (by omega)];exact hg
 obtain ⟨v',h',n',ea,og⟩:=(kp (.cells [.int .u8 k,.str n,.str f,.int .i64 w,aR q,ay b,ay e]) (.cells [.int .u8 k,.str n,.str f,.int .i64 w,aR q,ay b,ay e]) (.cells [.int .u8 0,.str [],.str [],.int .i64 0,.nilS,.nilS,.nilS]) (.cells [.int .u8 k,.str n,.str f,.int .i64 w,aR q,ay b,ay e]) (.cells [.int .u8 k,.str n,.str f,.int .i64 w,aR q,ay b,ay e])).grw (bytes:=120) (ns:=[[.int .u8 k,.str n,.str f,.int .i64 w,aR q,ay b,ay e]]) (fun c hc=>by obtain ⟨a,_,rfl⟩:=Hg.1 hc;exact iL a) (by simp) (by simp;omega) (by simp [maxLen];omega)
 have hone:((1:Nat)=0)=False:=by simp
 simp -implicitDefEqProofs only [RA,aa,zp,↓reduceIte,reduceCtorEq,zq,zr,zs,zt,g0,g3,g4,cx,px,cb,pb,ce,pe,ea,f1,hone]
 rw [← e1] at og
 exact ⟨l.length-(i+1),by omega,i+1,rfl,by omega,rfl,og.1⟩
theorem w27:∀ (N:Nat) (l:List Sm),bS l≤N→N≤4000000→Pure Tryz.prog 27 [ay l] (ay l)
 | 0,a,h,hN=>vH a (by omega) fun x hx=>by have:=bH hx;have:=gX x;omega
 | N+1,a,h,hN=>vH a (by omega) fun x hx=>⟨w27 N x.body (by have:=bH hx;have:=gX x;omega) (by omega),w27 N x.els (by have:=bH hx;have:=gX x;omega) (by omega)⟩
end Go.Proofs.YtgeieafamocnhaaGreatDoor
