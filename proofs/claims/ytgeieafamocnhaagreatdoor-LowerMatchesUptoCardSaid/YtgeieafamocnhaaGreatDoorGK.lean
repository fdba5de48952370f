/- Names: what is known of them. -/
import Derived.Test.YtgeieafamocnhaaGreatDoorGJ
namespace Go.Proofs.YtgeieafamocnhaaGreatDoor
open List renaming getElem?_eq_getElem → G7, mem_of_getElem? → G8, take_of_length_le → Ha, drop_of_length_le → Hb, length_cons → Hc, length_nil → Hd, length_map → He, length_take → Hf, map_append → Hk, length_eq_one_iff → Hq, getElem?_map → Hw, cons_append → HE
open Bool renaming false_eq_true → HQ, and_eq_true → HR
open Nat renaming le_refl → H4
open Int renaming reduceEq → Ie
set_option maxHeartbeats 64000000
open Go Go.Ab Go.Proofs
open Nat renaming reduceEqDiff → zp, reduceAdd → zq, reduceLeDiff → zr, reduceLT → zs, reduceBEq → zt
set_option linter.unusedVariables false
set_option linter.unusedSimpArgs false
set_option maxRecDepth 20000
def kw:List Pm→Nm→Int
 | [],_=>0
 | v::r,n=>if (v.1==n)=true then v.2 else kw r n
theorem cG {α:Type} {l:List α} {i:Nat} {x:α} (h:l[i]?=some x):l.drop i=x::l.drop (i+1):=by
 have hl:=(List.getElem?_eq_some_iff.1 h).1
 rw [List.drop_eq_getElem_cons hl];congr 1
 rw [G7 hl] at h;injection h
theorem oI {l:List Pm} {i:Nat} {v:Pm} {n:Nm} (h:l[i]?=some v):kw (l.drop i) n=if (v.1==n)=true then v.2 else kw (l.drop (i+1)) n:=by
 rw [cG h];rfl
def chk (p:Pr) (f:Fu) (v:AV):List AV:=[bU p.arrays,bR p.funcs,.str f.name,bw f.params,.int .i64 f.result,ay f.body,v]
def scp (p:Pr) (i:Int) (v:AV) (e:Int):List AV:=[bU p.arrays,bR p.funcs,.int .i64 i,v,.int .i64 e]
def Rd (h:Heap) (nx:Nat) (v:AV) (l:List Pm):Prop:=v=bw l∨aF 64 2 h nx v (l.map pmE)
theorem jj (l:List Pm):∀ z∈l.map pmE,z.length=2:=fun z hz=>by
 obtain ⟨r,_,rfl⟩:=List.mem_map.1 hz;rfl
theorem Rd.len {h:Heap} {nx:Nat} {v:AV} {l:List Pm} (hr:Rd h nx v l):dt v=some l.length:=by
 rcases hr with rfl|ho
 ·exact cq l
 ·rw [ho.len,He]
theorem Rd.row {h:Heap} {nx:Nat} {v:AV} {l:List Pm} (hr:Rd h nx v l) {i:Nat} {r:Pm} (hi:l[i]?=some r):∃ q cs,idxA 2 v (i:Int)=some q∧bG h q=some cs∧(2≤cs.length)=True∧cs.take 2=pmE r:=by
 rcases hr with rfl|ho
 ·exact ⟨_,_,dj hi,rfl,eq_true (by simp [pmE]),rfl⟩
 ·have hat:(l.map pmE)[i]?=some (pmE r):=by rw [Hw,hi];rfl
  obtain ⟨b,o,cs,h1,h2,h3⟩:=ho.row (jj l) hat
  refine ⟨_,cs,h1,h2,eq_true ?_,h3⟩
  have:=congrArg List.length h3
  rw [Hf] at this
  simp [pmE] at this;omega
theorem Rd.cell {h:Heap} {nx:Nat} {v:AV} {l:List Pm} (hr:Rd h nx v l) {i:Nat} {r:Pm} (hi:l[i]?=some r):∃ q q0 q1 r0 r1,idxA 2 v (i:Int)=some q∧o8 0 q=some q0∧bG h q0=some (.str r.1::r0)∧o8 1 q=some q1∧bG h q1=some (.int .i64 r.2::r1):=by
 rcases hr with rfl|ho
 ·exact ⟨_,_,_,_,_,dj hi,rfl,rfl,rfl,rfl⟩
 ·have hat:(l.map pmE)[i]?=some (pmE r):=by rw [Hw,hi];rfl
  obtain ⟨b,o,r0,h1,h2⟩:=ho.cell (jj l) (off:=0) hat rfl
  obtain ⟨b',o',r1,h3,h4⟩:=ho.cell (jj l) (off:=1) hat rfl
  rw [h1] at h3;injection h3 with h3;injection h3 with e1 e2;subst e1;subst e2
  exact ⟨_,_,_,r0,r1,h1,rfl,h2,rfl,h4⟩
theorem Rd.keep {h h':Heap} {nx nx':Nat} {v:AV} {l:List Pm} (hr:Rd h nx v l) (hle:nx≤nx') (hk:∀ b o,b<nx→af h b=some o→af h' b=some o):Rd h' nx' v l:=by
 rcases hr with rfl|ho
 ·exact .inl rfl
 ·exact .inr (ho.keep hle fun b o hb hg=>hk b o (ho.blk hb).2.2 hg)
theorem w82 (p:Pr) (f:Fu) (v:AV) (kn:List Pm) (c:Nat) (n:Nm) (h:Heap) (nx:Nat) (gc:af h c=some (.cells (chk p f v))) (hcn:c<nx) (hv:Rd h nx v kn) (hl:kn.length≤4611686018427387904) :
  AC Tryz.prog 82 [.op c 0,.str n] h nx fun y h' n'=>y=.ret (.int .i64 (kw kn n))∧h'=h∧nx≤n':=by
 refine dI (AC.go aj is82 (by simp) ?_)
 have lv:=hv.len
 simp only [chk] at gc
 simp -implicitDefEqProofs only [RA,aa,zp,↓reduceIte,reduceCtorEq,zq,zr,zs,zt,A82,Fs,gc,lv]
 refine aq (fun q st=>∃ i:Nat,q=kn.length-i∧i≤kn.length∧kw kn n=kw (kn.drop i) n∧ab st.env 1=some (.str n)∧ab st.env 10=some v∧ab st.env 11=some (.int .i64 kn.length)∧ab st.env 12=some (.int .i64 i)∧(∀ b o,b<nx→af h b=some o→af st.heap b=some o)∧nx≤st.nx∧st.dm=[]) (n:=kn.length) aj
  ⟨0,rfl,by omega,by simp,by simp [ab],by simp [ab],by simp [ab],by simp [ab],fun b o _ ho=>ho,by simp,rfl⟩ ?_
 rintro q ⟨env,heap,nx',dm⟩ ⟨i,rfl,hi,hk,g1,g10,g11,g12,gk,hnx,hdm⟩
 simp only at g1 g10 g11 g12 gk hnx hdm
 subst hdm
 have f1:=wS (i:=i) (by omega)
 by_cases hc:(i:Int)<(kn.length:Int)
 case neg =>
  have:kn.drop i=[]:=Hb (by omega)
  rw [this,kw] at hk
  simp -implicitDefEqProofs only [RA,aa,zp,↓reduceIte,reduceCtorEq,zq,zr,zs,zt,tT,ph,g11,g12,hc,hk,R82]
  exact gk
 have hr:=G7 (show i<kn.length by omega)
 generalize kn[i]=r at hr
 obtain ⟨q,cs,i1,i2,i3,i4⟩:=(hv.keep hnx gk).row hr
 rw [oI hr] at hk
 have re:=eu r
 cases hv:(r.1==n) with
 | true =>
  rw [hv,if_pos rfl] at hk
  simp -implicitDefEqProofs only [RA,aa,zp,↓reduceIte,reduceCtorEq,zq,zr,zs,zt,tT,ph,g1,g10,g11,g12,hc,i1,i2,i3,i4,re,aG,aU,hv,hk,R82]
  intro b o hb ho
  simp [af,show nx'≠b by omega,gk b o hb ho]
 | false =>
  rw [hv,if_neg (by simp)] at hk
  simp -implicitDefEqProofs only [RA,aa,zp,↓reduceIte,reduceCtorEq,zq,zr,zs,zt,tT,ph,g1,g10,g11,g12,hc,i1,i2,i3,i4,re,aG,aU,hv,f1]
  have gk2:∀ b o,b<nx→af h b=some o→af ((nx',AO.cells [.str r.1,.int .i64 r.2])::(nx',AO.cells [.str [],.int .i64 0])::heap) b=some o:=by
   intro b o hb ho
   simp [af,show nx'≠b by omega,gk b o hb ho]
  refine ⟨kn.length-(i+1),by omega,i+1,?_⟩
  repeat' apply And.intro
  all_goals first|assumption|rfl|omega|(simp [ab, *];done)
theorem mg (p:Pr) (fi':Int) (v:AV) (e:Int) (kn:List Pm) (c:Nat) (n:Nm) (h:Heap) (nx:Nat) (gc:af h c=some (.cells (scp p fi' v e))) (hv:Rd h nx v kn) (hl:kn.length≤4611686018427387904) :
  AC Tryz.prog 100 [.op c 0,.str n] h nx fun y h' n'=>y=.ret (.int .i64 (kw kn n))∧h'=h∧nx≤n':=by
 refine AC.go aj Ep (by simp) ?_
 have lv:=hv.len
 simp only [scp] at gc
 simp -implicitDefEqProofs only [RA,aa,zp,↓reduceIte,reduceCtorEq,zq,zr,zs,zt,G5,Bt,gc,lv]
 refine aq (fun q st=>∃ i:Nat,q=kn.length-i∧i≤kn.length∧kw kn n=kw (kn.drop i) n∧ab st.env 0=some (.op c 0)∧ab st.env 1=some (.str n)∧ab st.env 5=some (.int .i64 i)∧st.heap=h∧nx≤st.nx∧st.dm=[]) (n:=kn.length) aj
  ⟨0,rfl,by omega,by simp,by simp [ab],by simp [ab],by simp [ab],rfl,by simp,rfl⟩ ?_
 rintro q ⟨env,heap,nx',dm⟩ ⟨i,rfl,hi,hk,g0,g1,g5,gh,hnx,hdm⟩
 simp only at g0 g1 g5 gh hnx hdm
 subst hdm;subst gh
 have f1:=wS (i:=i) (by omega)
 by_cases hc:(i:Int)<(kn.length:Int)
 case neg =>
  have:kn.drop i=[]:=Hb (by omega)
  rw [this,kw] at hk
  simp -implicitDefEqProofs only [RA,aa,zp,↓reduceIte,reduceCtorEq,zq,zr,zs,zt,pT,ma,g0,g5,gc,lv,hc,hk,CJ]
  exact hnx
 have hr:=G7 (show i<kn.length by omega)
 generalize kn[i]=r at hr
 obtain ⟨q,q0,q1,r0,r1,i1,i2,i3,i4,i5⟩:=hv.cell hr
 rw [oI hr] at hk
 cases hv:(r.1==n) with
 | true =>
  rw [hv,if_pos rfl] at hk
  simp -implicitDefEqProofs only [RA,aa,zp,↓reduceIte,reduceCtorEq,zq,zr,zs,zt,pT,ma,g0,g1,g5,gc,lv,hc,i1,i2,i3,i4,i5,aG,aU,hv,hk,CJ]
  exact hnx
 | false =>
  rw [hv,if_neg (by simp)] at hk
  simp -implicitDefEqProofs only [RA,aa,zp,↓reduceIte,reduceCtorEq,zq,zr,zs,zt,pT,ma,g0,g1,g5,gc,lv,hc,i1,i2,i3,i4,i5,aG,aU,hv,f1]
  refine ⟨kn.length-(i+1),by omega,i+1,?_⟩
  repeat' apply And.intro
  all_goals first|assumption|rfl|omega|(simp [ab, *];done)
def arI (p:Pr) (n:Nm):Int:=fi (fun a=>a.name==n) p.arrays 0
def fuI (p:Pr) (n:Nm):Int:=fi (fun f=>f.name==n) p.funcs 0
theorem w118 (a:Ar) (n:Nm) (b:Nat) (h:Heap) (nx:Nat) (hb:af h b=some (.cells [.str n])) (hbn:b<nx) :
  AC Tryz.prog 118 [.agg (arE a),.op b 0] h nx fun y h' n'=>y=.ret (.bool (a.name==n))∧h'=h∧nx≤n':=by
 refine dI (AC.go aj D9 (by simp) ?_)
 have ae:=dB a
 have nb:(nx=b)=False:=eq_false (by omega)
 simp -implicitDefEqProofs only [RA,aa,zp,↓reduceIte,reduceCtorEq,zq,zr,zs,zt,GS,Bg,ae,hb,nb,aG,aU,E5]
 intro k o hk ho
 rw [if_neg (by omega)];exact ho
theorem w83 (p:Pr) (n:Nm) (hl:p.arrays.length≤4611686018427387904):Pure Tryz.prog 83 [.agg (prE p),.str n] (.int .i64 (arI p n)):=by
 refine Pure.of fun nx=>AC.go aj is83 (by simp) ?_
 have n1:(nx+1=nx)=False:=eq_false (by omega)
 rw [ct]
 simp -implicitDefEqProofs only [RA,aa,zp,↓reduceIte,reduceCtorEq,zq,zr,zs,zt,A83,Fq,n1,↓bf,↓bc,↓be,↓ba]
 refine (w92 (fun a=>a.name==n) p.arrays _ _ hl fun x hx m hm=>w118 x n (nx+1) _ m (by simp [af]) (by omega)).mono ?_
 rintro y h' n1 ⟨rfl,rfl,hn1⟩
 have e:fi (fun a=>a.name==n) p.arrays 0=arI p n:=rfl
 simp -implicitDefEqProofs only [RA,aa,zp,↓reduceIte,reduceCtorEq,zq,zr,zs,zt,e,R83]
theorem w149 (a:Fu) (n:Nm) (b:Nat) (h:Heap) (nx:Nat) (hb:af h b=some (.cells [.str n])) (hbn:b<nx) :
  AC Tryz.prog 149 [.agg (fuE a),.op b 0] h nx fun y h' n'=>y=.ret (.bool (a.name==n))∧h'=h∧nx≤n':=by
 refine dI (AC.go aj DH (by simp) ?_)
 have ae:=dG a
 have nb:(nx=b)=False:=eq_false (by omega)
 simp -implicitDefEqProofs only [RA,aa,zp,↓reduceIte,reduceCtorEq,zq,zr,zs,zt,Gs,AK,ae,hb,nb,aG,aU,↓aY,↓aX,↓aB,↓aA,ER]
 intro k o hk ho
 rw [if_neg (by omega)];exact ho
theorem w147 (p:Pr) (n:Nm) (hl:p.funcs.length≤4611686018427387904):Pure Tryz.prog 147 [.agg (prE p),.str n] (.int .i64 (fuI p n)):=by
 refine Pure.of fun nx=>AC.go aj DJ (by simp) ?_
 have n1:(nx+1=nx)=False:=eq_false (by omega)
 rw [ct]
 simp -implicitDefEqProofs only [RA,aa,zp,↓reduceIte,reduceCtorEq,zq,zr,zs,zt,Gt,AL,n1,↓bf,↓bc,↓be,↓ba]
 refine (Do (fun a=>a.name==n) p.funcs _ _ hl fun x hx m hm=>w149 x n (nx+1) _ m (by simp [af]) (by omega)).mono ?_
 rintro y h' n1 ⟨rfl,rfl,hn1⟩
 have e:fi (fun a=>a.name==n) p.funcs 0=fuI p n:=rfl
 simp -implicitDefEqProofs only [RA,aa,zp,↓reduceIte,reduceCtorEq,zq,zr,zs,zt,e,ES]
theorem w53 (p:Pr) (n:Nm) (hl:p.arrays.length≤4611686018427387904):Pure Tryz.prog 53 [.agg (prE p),.str n] (.int .i64 (arI p n)):=by
 refine Pure.of fun nx=>AC.go aj is53 (by simp) ?_
 rw [ct]
 have la:=eV p.arrays
 simp -implicitDefEqProofs only [RA,aa,zp,↓reduceIte,reduceCtorEq,zq,zr,zs,zt,A53,FR,la,↓bf,↓bc,↓be,↓ba]
 refine aq (fun q st=>∃ i:Nat,q=p.arrays.length-i∧i≤p.arrays.length∧fi (fun a=>a.name==n) (p.arrays.drop i) i=arI p n∧ab st.env 1=some (.str n)∧ab st.env 2=some (.op nx 0)∧ab st.env 5=some (.int .i64 i)∧af st.heap nx=some (.cells [bU p.arrays,bR p.funcs])∧st.dm=[]) (n:=p.arrays.length) aj
  ⟨0,rfl,by omega,by simp [arI],by simp [ab],by simp [ab],by simp [ab],by simp [af],rfl⟩ ?_
 rintro q ⟨env,heap,nx',dm⟩ ⟨i,rfl,hi,hk,g1,g2,g5,gh,hdm⟩
 simp only at g1 g2 g5 gh hdm
 subst hdm
 have f1:=wS (i:=i) (by omega)
 by_cases hc:(i:Int)<(p.arrays.length:Int)
 case neg =>
  have:p.arrays.drop i=[]:=Hb (by omega)
  rw [this,fi] at hk
  simp -implicitDefEqProofs only [RA,aa,zp,↓reduceIte,reduceCtorEq,zq,zr,zs,zt,tX,pm,g2,g5,gh,la,hc,hk,R53]
 have hr:=G7 (show i<p.arrays.length by omega)
 generalize p.arrays[i]=r at hr
 have ix:=cO hr
 have re:=dB r
 rw [fA hr] at hk
 cases hv:(r.name==n) with
 | true =>
  rw [if_pos hv] at hk
  rw [← hk]
  simp -implicitDefEqProofs only [RA,aa,zp,↓reduceIte,reduceCtorEq,zq,zr,zs,zt,tX,pm,g1,g2,g5,gh,la,hc,ix,re,aG,aU,hv,R53]
 | false =>
  rw [if_neg (by simp [hv])] at hk
  simp -implicitDefEqProofs only [RA,aa,zp,↓reduceIte,reduceCtorEq,zq,zr,zs,zt,tX,pm,g1,g2,g5,gh,la,hc,ix,re,aG,aU,hv,f1]
  refine ⟨p.arrays.length-(i+1),by omega,i+1,?_⟩
  repeat' apply And.intro
  all_goals first|assumption|rfl|omega|(simp [ab, *];done)
theorem w146 (p:Pr) (n:Nm) (hl:p.funcs.length≤4611686018427387904):Pure Tryz.prog 146 [.agg (prE p),.str n] (.int .i64 (fuI p n)):=by
 refine Pure.of fun nx=>AC.go aj DK (by simp) ?_
 rw [ct]
 have la:=cZ p.funcs
 simp -implicitDefEqProofs only [RA,aa,zp,↓reduceIte,reduceCtorEq,zq,zr,zs,zt,Gu,AM,la,↓bf,↓bc,↓be,↓ba]
 refine aq (fun q st=>∃ i:Nat,q=p.funcs.length-i∧i≤p.funcs.length∧fi (fun a=>a.name==n) (p.funcs.drop i) i=fuI p n∧ab st.env 1=some (.str n)∧ab st.env 2=some (.op nx 0)∧ab st.env 5=some (.int .i64 i)∧af st.heap nx=some (.cells [bU p.arrays,bR p.funcs])∧st.dm=[]) (n:=p.funcs.length) aj
  ⟨0,rfl,by omega,by simp [fuI],by simp [ab],by simp [ab],by simp [ab],by simp [af],rfl⟩ ?_
 rintro q ⟨env,heap,nx',dm⟩ ⟨i,rfl,hi,hk,g1,g2,g5,gh,hdm⟩
 simp only at g1 g2 g5 gh hdm
 subst hdm
 have f1:=wS (i:=i) (by omega)
 by_cases hc:(i:Int)<(p.funcs.length:Int)
 case neg =>
  have:p.funcs.drop i=[]:=Hb (by omega)
  rw [this,fi] at hk
  simp -implicitDefEqProofs only [RA,aa,zp,↓reduceIte,reduceCtorEq,zq,zr,zs,zt,pD,lV,g2,g5,gh,la,hc,hk,Cv]
 have hr:=G7 (show i<p.funcs.length by omega)
 generalize p.funcs[i]=r at hr
 have ix:=cJ hr
 have re:=dG r
 rw [fA hr] at hk
 cases hv:(r.name==n) with
 | true =>
  rw [if_pos hv] at hk
  rw [← hk]
  simp -implicitDefEqProofs only [RA,aa,zp,↓reduceIte,reduceCtorEq,zq,zr,zs,zt,pD,lV,g1,g2,g5,gh,la,hc,ix,re,aG,aU,hv,Cv]
 | false =>
  rw [if_neg (by simp [hv])] at hk
  simp -implicitDefEqProofs only [RA,aa,zp,↓reduceIte,reduceCtorEq,zq,zr,zs,zt,pD,lV,g1,g2,g5,gh,la,hc,ix,re,aG,aU,hv,f1]
  refine ⟨p.funcs.length-(i+1),by omega,i+1,?_⟩
  repeat' apply And.intro
  all_goals first|assumption|rfl|omega|(simp [ab, *];done)
def inE (w:Int):List AV:=[.int .i64 w]
def cP (l:List Int):AV:=.lst 1 (l.map inE)
theorem jY (l:List Int):dt (cP l)=some l.length:=by simp [cP,dP]
theorem gC {l:List Int} {n:Nat} {r:Int} (h:l[n]?=some r):idxA 1 (cP l) (n:Int)=some (.fp (inE r)):=cY h
theorem rI (w:Int):inE w=[.int .i64 w]:=rfl
theorem eq (l:List Int):∀ z∈l.map inE,z.length=1:=fun z hz=>by
 obtain ⟨r,_,rfl⟩:=List.mem_map.1 hz;rfl
theorem w148 (a b:List Int) (ha:a.length≤4611686018427387904):Pure Tryz.prog 148 [cP a,cP b] (.bool (decide (a=b))):=by
 refine Pure.of fun nx=>AC.go aj DI (by simp) ?_
 have la:=jY a
 have lb:=jY b
 by_cases hl:(a.length:Int)=(b.length:Int)
 case neg =>
  have hne:(a=b)=False:=eq_false fun e=>hl (by rw [e])
  simp -implicitDefEqProofs only [RA,aa,zp,↓reduceIte,reduceCtorEq,zq,zr,zs,zt,CW,yD,la,lb,hl,hne,zV]
 simp -implicitDefEqProofs only [RA,aa,zp,↓reduceIte,reduceCtorEq,zq,zr,zs,zt,CW,yD,la,lb,hl]
 refine aq (fun q st=>∃ i:Nat,q=a.length-i∧i≤a.length∧(∀ j,j<i→a[j]?=b[j]?)∧ab st.env 0=some (cP a)∧ab st.env 1=some (cP b)∧ab st.env 12=some (.int .i64 b.length)∧ab st.env 13=some (.int .i64 i)∧st.dm=[]) (n:=a.length) aj
  ⟨0,rfl,by omega,fun j hj=>by omega,by simp [ab],by simp [ab],by simp [ab],by simp [ab],rfl⟩ ?_
 rintro q ⟨env,heap,nx',dm⟩ ⟨i,rfl,hi,he,g0,g1,g12,g13,hdm⟩
 simp only at g0 g1 g12 g13 hdm
 subst hdm
 have f1:=wS (i:=i) (by omega)
 by_cases hc:(i:Int)<(b.length:Int)
 case neg =>
  have heq:a=b:=by
   apply List.ext_getElem?
   intro j
   rcases Nat.lt_or_ge j a.length with h|h
   ·exact he j (by omega)
   ·rw [List.getElem?_eq_none h,List.getElem?_eq_none (by omega)]
  simp -implicitDefEqProofs only [RA,aa,zp,↓reduceIte,reduceCtorEq,zq,zr,zs,zt,pC,lU,g0,g1,g12,g13,hc,eq_true heq,zV]
 have hra:=G7 (show i<a.length by omega)
 generalize a[i]=x at hra
 have hrb:=G7 (show i<b.length by omega)
 generalize b[i]=y at hrb
 have ia:=gC hra
 have ib:=gC hrb
 have e1:=rI x
 have e2:=rI y
 rcases ah (x=y) with ⟨hv',hv⟩|⟨hv',hv⟩
 case inl =>
  simp -implicitDefEqProofs only [RA,aa,zp,↓reduceIte,reduceCtorEq,zq,zr,zs,zt,pC,lU,g0,g1,g12,g13,hc,ia,ib,e1,e2,hv,f1]
  have he2:∀ j,j<i+1→a[j]?=b[j]?:=by
   intro j hj
   rcases Nat.lt_or_ge j i with h|h
   ·exact he j h
   ·have:j=i:=by omega
    subst this;rw [hra,hrb,hv']
  refine ⟨a.length-(i+1),by omega,i+1,?_⟩
  repeat' apply And.intro
  all_goals first|assumption|rfl|omega|(simp [ab, *];done)
 case inr =>
  have hne:(a=b)=False:=eq_false fun e=>hv' (by rw [e,hrb] at hra;injection hra with h;exact h.symm)
  simp -implicitDefEqProofs only [RA,aa,zp,↓reduceIte,reduceCtorEq,zq,zr,zs,zt,pC,lU,g0,g1,g12,g13,hc,ia,ib,e1,e2,hv,hne,zV]
theorem mf (b:Bool):Pure Tryz.prog 143 [.bool b] (.int .i64 (if b=true then 0 else 14)):=by
 refine Pure.of fun nx=>AC.go aj DN (by simp) ?_
 cases b with
 | true=>simp -implicitDefEqProofs only [RA,aa,zp,↓reduceIte,reduceCtorEq,zq,zr,zs,zt,CY,yE,if_true,Cx]
 | false=>simp -implicitDefEqProofs only [RA,aa,zp,↓reduceIte,reduceCtorEq,zq,zr,zs,zt,CY,yE,if_false,HQ,Cx]
theorem w99 (p:Pr) (fi':Int) (v:AV) (e x:Int) (b:Bool) (c:Nat) (h:Heap) (nx:Nat) (gc:af h c=some (.cells (scp p fi' v e))) :
  AC Tryz.prog 99 [.op c 0,.bool b,.int .i64 x] h nx fun y h' n'=>y=.ret (.tup [])∧n'=nx∧af h' c=some (.cells (scp p fi' v (if b=true∧e=0 then x else e)))∧∀ k o,k≠c→af h k=some o→af h' k=some o:=by
 refine AC.go aj is99 (by simp) ?_
 simp only [scp] at gc ⊢
 cases b with
 | false =>
  simp -implicitDefEqProofs only [RA,aa,zp,↓reduceIte,reduceCtorEq,zq,zr,zs,zt,A99,Ag,gc,HQ,false_and,if_false,R99]
  exact fun k o _ ho=>ho
 | true =>
  rcases ah (e=0) with ⟨he',he⟩|⟨he',he⟩
  ·simp -implicitDefEqProofs only [RA,aa,zp,↓reduceIte,reduceCtorEq,zq,zr,zs,zt,A99,Ag,gc,he,true_and,if_true,R99]
   intro k o hk ho
   rw [if_neg (fun e=>hk e.symm)];exact ho
  ·simp -implicitDefEqProofs only [RA,aa,zp,↓reduceIte,reduceCtorEq,zq,zr,zs,zt,A99,Ag,gc,he,and_false,if_false,R99]
   exact fun k o _ ho=>ho
def Kp (c:Nat) (v:AV) (h:Heap) (nx:Nat) (v':AV) (h':Heap) (n':Nat):Prop :=
 nx≤n'∧(∀ k o,k<nx→k≠c→aw v≠some k→af h k=some o→af h' k=some o)∧∀ b,aw v'=some b→nx≤b∨aw v=some b
theorem Kp.refl (c:Nat) (v:AV) (h:Heap) {nx n':Nat} (hle:nx≤n'):Kp c v h nx v h n':=⟨hle,fun k o _ _ _ ho=>ho,fun b hb=>.inr hb⟩
theorem Kp.trans {c:Nat} {v v1 v2:AV} {h h1 h2:Heap} {nx n1 n2:Nat} (a:Kp c v h nx v1 h1 n1) (b:Kp c v1 h1 n1 v2 h2 n2):Kp c v h nx v2 h2 n2:=by
 obtain ⟨a1,a2,a3⟩:=a
 obtain ⟨b1,b2,b3⟩:=b
 refine ⟨by omega,fun k o hk hc hv ho=>b2 k o (by omega) hc (fun hb=>?_) (a2 k o hk hc hv ho),fun b hb=>?_⟩
 ·rcases a3 k hb with h|h
  ·omega
  ·exact hv h
 ·rcases b3 b hb with h|h
  ·exact .inl (by omega)
  ·exact a3 b h
def CkS (cells:AV→List AV) (c:Nat) (kn:List Pm) (h:Heap) (nx:Nat) (v:AV):Prop :=
 af h c=some (.cells (cells v))∧aF 64 2 h nx v (kn.map pmE)∧aw v≠some c∧c<nx
def CkP (cells:AV→List AV) (c:Nat) (v:AV) (h:Heap) (nx:Nat) (kn':List Pm) (h':Heap) (n':Nat):Prop:=∃ v',CkS cells c kn' h' n' v'∧Kp c v h nx v' h' n'
theorem CkP.refl {cells:AV→List AV} {c:Nat} {kn:List Pm} {h:Heap} {nx n':Nat} {v:AV} (hs:CkS cells c kn h nx v) (hle:nx≤n'):CkP cells c v h nx kn h n' :=
 ⟨v,⟨hs.1,hs.2.1.mono hle,hs.2.2.1,by have:=hs.2.2.2;omega⟩,Kp.refl c v h hle⟩
theorem CkS.over {cells:AV→List AV} {c:Nat} {kn:List Pm} {h h':Heap} {nx n':Nat} {v:AV} (hs:CkS cells c kn h nx v) (hle:nx≤n') (hk:∀ k o,k<nx→af h k=some o→af h' k=some o):CkS cells c kn h' n' v :=
 ⟨hk c _ hs.2.2.2 hs.1,hs.2.1.keep hle fun b o hb hg=>hk b o (hs.2.1.blk hb).2.2 hg,hs.2.2.1,by have:=hs.2.2.2;omega⟩
theorem Kp.over {c:Nat} {v:AV} {h h':Heap} {nx n':Nat} (hle:nx≤n') (hk:∀ k o,k<nx→af h k=some o→af h' k=some o):Kp c v h nx v h' n':=⟨hle,fun k o hk1 _ _ ho=>hk k o hk1 ho,fun b hb=>.inr hb⟩
theorem Kp.pre {c:Nat} {v v':AV} {h h1 h':Heap} {nx n1 n':Nat} (hle:nx≤n1) (hk:∀ k o,k<nx→af h k=some o→af h1 k=some o) (hp:Kp c v h1 n1 v' h' n'):Kp c v h nx v' h' n':=(Kp.over hle hk).trans hp
def df (p:Pr) (kn:List Pm) (n:Nm):Int:=if 0<kw kn n∨0≤arI p n then 18 else 0
theorem bE {e sz:Nat} {h:Heap} {nx:Nat} {x:AV} {es:List (List AV)} (ho:aF e sz h nx x es):cellsOf x=[x]∧x.plain=true:=by
 rcases ho with ⟨rfl,_⟩|⟨b,rfl,_⟩ <;> exact ⟨rfl,rfl⟩
theorem CkS.push {cells:AV→List AV} {c:Nat} {kn:List Pm} {h:Heap} {nx:Nat} {v:AV} (hs:CkS cells c kn h nx v) (hl:kn.length≤1000000) (n:Nm) (w:Int) :
  ∃ v' h' n',eC 64 2 24 h nx v (.lst 2 [[.str n,.int .i64 w]])=some (v',h',n')∧(cellsOf v'=[v']∧v'.plain=true)∧af h' c=some (.cells (cells v))∧(∀ k o,k<nx→aw v≠some k→af h k=some o→af h' k=some o)∧∀ cells':AV→List AV,CkP cells' c v h nx (kn++[(n,w)]) ((c,.cells (cells' v'))::h') n':=by
 obtain ⟨h1,h2,h3,h4⟩:=hs
 obtain ⟨v',h',n',ea,ow,hle,hk,hb⟩:=h2.grw (bytes:=24) (ns:=[pmE (n,w)]) (jj kn) (by simp [pmE]) (by simp only [He,Hc,Hd];omega) (by simp only [He,Hc,Hd,maxLen];omega)
 have hbc:aw v'≠some c:=fun e=>by
  rcases hb c e with h|h
  ·omega
  ·exact h3 h
 refine ⟨v',h',n',ea,bE ow,hk c _ h4 h1 h3,fun k o k1 k2 k3=>hk k o k1 k3 k2,fun cells'=>⟨v',⟨by simp [af],?_,hbc,by omega⟩,hle,fun k o k1 k2 k3 k4=>?_,fun b hb'=>hb b hb'⟩⟩
 ·have e:(kn++[(n,w)]).map pmE=kn.map pmE++[pmE (n,w)]:=by simp
  rw [e]
  refine ow.keep (H4 _) fun b o hb' hg=>?_
  rw [ai,if_neg]
  ·exact hg
  ·rintro rfl;exact hbc hb'
 ·rw [ai,if_neg (fun e=>k2 e.symm)]
  exact hk k o k1 k4 k3
theorem Ds (p:Pr) (f:Fu) (v:AV) (kn:List Pm) (c:Nat) (n:Nm) (w:Int) (h:Heap) (nx:Nat) (hs:CkS (chk p f) c kn h nx v) (hl:kn.length≤1000000) (hal:p.arrays.length≤4611686018427387904) :
  AC Tryz.prog 108 [.op c 0,.str n,.int .i64 w] h nx fun y h' n'=>y=.ret (.int .i64 (df p kn n))∧CkP (chk p f) c v h nx (if df p kn n=0 then kn++[(n,w)] else kn) h' n':=by
 refine AC.go aj Ei (by simp) ?_
 have gc:=hs.1
 simp only [chk] at gc
 have c39:=w82 p f v kn c n h nx hs.1 hs.2.2.2 (.inr hs.2.1) (by omega)
 rcases ah (0<kw kn n) with ⟨d1',d1⟩|⟨d1',d1⟩
 case inl =>
  have de:df p kn n=18:=by rw [df,if_pos (.inl d1')]
  rw [de,if_neg (by omega)]
  simp -implicitDefEqProofs only [RA,aa,zp,↓reduceIte,reduceCtorEq,zq,zr,zs,zt,Ao,ui,gc]
  refine c39.mono ?_
  rintro y h' n2 ⟨rfl,rfl,hn2⟩
  simp -implicitDefEqProofs only [RA,aa,zp,↓reduceIte,reduceCtorEq,zq,zr,zs,zt,gc,d1,zX]
  exact CkP.refl hs hn2
 rcases ah (0≤arI p n) with ⟨d2',d2⟩|⟨d2',d2⟩
 case inl =>
  have de:df p kn n=18:=by rw [df,if_pos (.inr d2')]
  rw [de,if_neg (by omega)]
  simp -implicitDefEqProofs only [RA,aa,zp,↓reduceIte,reduceCtorEq,zq,zr,zs,zt,Ao,ui,gc]
  refine c39.mono ?_
  rintro y h' n2 ⟨rfl,rfl,hn2⟩
  simp -implicitDefEqProofs only [RA,aa,zp,↓reduceIte,reduceCtorEq,zq,zr,zs,zt,gc,d1]
  refine (w83 p n hal).use fun n3 hn3=>?_
  simp -implicitDefEqProofs only [RA,aa,zp,↓reduceIte,reduceCtorEq,zq,zr,zs,zt,gc,d1,d2,zX]
  exact CkP.refl hs (by omega)
 have de:df p kn n=0:=by rw [df,if_neg (by rintro (h|h) <;> contradiction)]
 rw [de,if_pos rfl]
 simp -implicitDefEqProofs only [RA,aa,zp,↓reduceIte,reduceCtorEq,zq,zr,zs,zt,Ao,ui,gc]
 refine c39.mono ?_
 rintro y h' n2 ⟨rfl,rfl,hn2⟩
 simp -implicitDefEqProofs only [RA,aa,zp,↓reduceIte,reduceCtorEq,zq,zr,zs,zt,gc,d1]
 refine (w83 p n hal).use fun n3 hn3=>?_
 obtain ⟨v',h2,n4,ea,⟨z1,z2⟩,gc2,_,cp⟩:=(hs.over (n':=n3) (by omega) fun k o _ ho=>ho).push hl n w
 have gc3:=gc2
 simp only [chk] at gc3
 simp -implicitDefEqProofs only [RA,aa,zp,↓reduceIte,reduceCtorEq,zq,zr,zs,zt,gc,d1,d2,ea,gc3,z1,z2,zX]
 obtain ⟨v2,q1,q2⟩:=cp (chk p f)
 exact ⟨v2,q1,q2.pre (by omega) fun k o _ ho=>ho⟩
theorem BQ (p:Pr) (i:Int) (v:AV) (kn:List Pm) (c:Nat) (n:Nm) (w e:Int) (h:Heap) (nx:Nat) (hs:CkS (fun v=>scp p i v e) c kn h nx v) (hl:kn.length≤1000000) (hal:p.arrays.length≤4611686018427387904) :
  AC Tryz.prog 101 [.op c 0,.agg (pmE (n,w))] h nx fun y h' n'=>y=.ret (.tup [])∧CkP (fun v=>scp p i v (if df p kn n≠0∧e=0 then 18 else e)) c v h nx (kn++[(n,w)]) h' n':=by
 refine AC.go aj Eo (by simp) ?_
 have hs1:CkS (fun v=>scp p i v e) c kn ((nx,.cells [.str n,.int .i64 w])::h) (nx+1) v:=hs.over (by omega) fun k o hk ho=>by rw [ai,if_neg (by omega)];exact ho
 have gc:=hs.1
 simp only [scp] at gc
 have nc:(nx=c)=False:=eq_false (by have:=hs.2.2.2;omega)
 have c48:=mg p i v e kn c n _ _ hs1.1 (.inr hs1.2.1) (by omega)
 have tail:∀ (b:Bool) (n3:Nat),b=decide (df p kn n≠0)→nx+1≤n3→AC Tryz.prog 99 [.op c 0,.bool b,.int .i64 18] ((nx,.cells [.str n,.int .i64 w])::h) n3 fun y h' n'=>y=.ret (.tup [])∧n'=n3∧CkS (fun v=>scp p i v (if df p kn n≠0∧e=0 then 18 else e)) c kn h' n3 v∧(∀ k o,k≠c→af ((nx,.cells [.str n,.int .i64 w])::h) k=some o→af h' k=some o):=by
  intro b n3 hb hn3
  refine (w99 p i v e 18 b c _ n3 hs1.1).mono ?_
  rintro y h' n' ⟨h1,h2,h3,h4⟩
  refine ⟨h1,h2,⟨?_,?_,hs.2.2.1,by have:=hs.2.2.2;omega⟩,h4⟩
  ·rw [h3,hb];simp only [decide_eq_true_iff]
  ·refine hs1.2.1.keep hn3 fun b o hb' hg=>h4 b o ?_ hg
   rintro rfl;exact hs1.2.2.1 hb'
 rw [eu]
 rcases ah (0<kw kn n) with ⟨d1',d1⟩|⟨d1',d1⟩
 case inl =>
  have de:df p kn n=18:=by rw [df,if_pos (.inl d1')]
  simp -implicitDefEqProofs only [RA,aa,zp,↓reduceIte,reduceCtorEq,zq,zr,zs,zt,Ap,uj,gc,nc]
  refine c48.mono ?_
  rintro y h' n2 ⟨rfl,rfl,hn2⟩
  simp -implicitDefEqProofs only [RA,aa,zp,↓reduceIte,reduceCtorEq,zq,zr,zs,zt,gc,nc,d1]
  refine (tail _ _ (by simp [de]) (by omega)).mono ?_
  rintro y h' n' ⟨rfl,rfl,hs2,hk2⟩
  have gn:=hk2 nx (.cells [.str n,.int .i64 w]) (by have:=hs.2.2.2;omega) (by simp [af])
  have hbn:aw v≠some nx:=fun e=>by have:=(hs.2.1.blk e).2.2;omega
  obtain ⟨v',h2,n4,ea,⟨z1,z2⟩,gc2,gk2,cp⟩:=hs2.push hl n w
  have gc3:=hs2.1
  simp only [scp] at gc3 gc2
  have gn2:=gk2 nx _ (by omega) hbn gn
  simp -implicitDefEqProofs only [RA,aa,zp,↓reduceIte,reduceCtorEq,zq,zr,zs,zt,gc3,gc2,gn,gn2,ea,z1,z2,zY]
  obtain ⟨v2,q1,q2⟩:=cp fun v=>scp p i v (if df p kn n≠0∧e=0 then 18 else e)
  have hcn:=hs.2.2.2
  refine ⟨v2,q1,by have:=q2.1;omega,fun k o k1 k2 k3 k4=>q2.2.1 k o (by omega) k2 k3 (hk2 k o k2 (by rw [ai,if_neg (by omega)];exact k4)),fun b hb=>?_⟩
  rcases q2.2.2 b hb with h|h
  ·exact .inl (by omega)
  ·exact .inr h
 rcases ah (0≤arI p n) with ⟨d2',d2⟩|⟨d2',d2⟩
 case inl =>
  have de:df p kn n=18:=by rw [df,if_pos (.inr d2')]
  simp -implicitDefEqProofs only [RA,aa,zp,↓reduceIte,reduceCtorEq,zq,zr,zs,zt,Ap,uj,gc,nc]
  refine c48.mono ?_
  rintro y h' n2 ⟨rfl,rfl,hn2⟩
  simp -implicitDefEqProofs only [RA,aa,zp,↓reduceIte,reduceCtorEq,zq,zr,zs,zt,gc,nc,d1]
  refine (w53 p n hal).use fun n3 hn3=>?_
  simp -implicitDefEqProofs only [RA,aa,zp,↓reduceIte,reduceCtorEq,zq,zr,zs,zt,gc,nc,d1,d2]
  refine (tail _ _ (by simp [de]) (by omega)).mono ?_
  rintro y h' n' ⟨rfl,rfl,hs2,hk2⟩
  have gn:=hk2 nx (.cells [.str n,.int .i64 w]) (by have:=hs.2.2.2;omega) (by simp [af])
  have hbn:aw v≠some nx:=fun e=>by have:=(hs.2.1.blk e).2.2;omega
  obtain ⟨v',h2,n4,ea,⟨z1,z2⟩,gc2,gk2,cp⟩:=hs2.push hl n w
  have gc3:=hs2.1
  simp only [scp] at gc3 gc2
  have gn2:=gk2 nx _ (by omega) hbn gn
  simp -implicitDefEqProofs only [RA,aa,zp,↓reduceIte,reduceCtorEq,zq,zr,zs,zt,gc3,gc2,gn,gn2,ea,z1,z2,zY]
  obtain ⟨v2,q1,q2⟩:=cp fun v=>scp p i v (if df p kn n≠0∧e=0 then 18 else e)
  have hcn:=hs.2.2.2
  refine ⟨v2,q1,by have:=q2.1;omega,fun k o k1 k2 k3 k4=>q2.2.1 k o (by omega) k2 k3 (hk2 k o k2 (by rw [ai,if_neg (by omega)];exact k4)),fun b hb=>?_⟩
  rcases q2.2.2 b hb with h|h
  ·exact .inl (by omega)
  ·exact .inr h
 have de:df p kn n=0:=by rw [df,if_neg (by rintro (h|h) <;> contradiction)]
 simp -implicitDefEqProofs only [RA,aa,zp,↓reduceIte,reduceCtorEq,zq,zr,zs,zt,Ap,uj,gc,nc]
 refine c48.mono ?_
 rintro y h' n2 ⟨rfl,rfl,hn2⟩
 simp -implicitDefEqProofs only [RA,aa,zp,↓reduceIte,reduceCtorEq,zq,zr,zs,zt,gc,nc,d1]
 refine (w53 p n hal).use fun n3 hn3=>?_
 simp -implicitDefEqProofs only [RA,aa,zp,↓reduceIte,reduceCtorEq,zq,zr,zs,zt,gc,nc,d1,d2]
 refine (tail _ _ (by simp [de]) (by omega)).mono ?_
 rintro y h' n' ⟨rfl,rfl,hs2,hk2⟩
 have gn:=hk2 nx (.cells [.str n,.int .i64 w]) (by have:=hs.2.2.2;omega) (by simp [af])
 have hbn:aw v≠some nx:=fun e=>by have:=(hs.2.1.blk e).2.2;omega
 obtain ⟨v',h2,n4,ea,⟨z1,z2⟩,gc2,gk2,cp⟩:=hs2.push hl n w
 have gc3:=hs2.1
 simp only [scp] at gc3 gc2
 have gn2:=gk2 nx _ (by omega) hbn gn
 simp -implicitDefEqProofs only [RA,aa,zp,↓reduceIte,reduceCtorEq,zq,zr,zs,zt,gc3,gc2,gn,gn2,ea,z1,z2,zY]
 obtain ⟨v2,q1,q2⟩:=cp fun v=>scp p i v (if df p kn n≠0∧e=0 then 18 else e)
 have hcn:=hs.2.2.2
 refine ⟨v2,q1,by have:=q2.1;omega,fun k o k1 k2 k3 k4=>q2.2.1 k o (by omega) k2 k3 (hk2 k o k2 (by rw [ai,if_neg (by omega)];exact k4)),fun b hb=>?_⟩
 rcases q2.2.2 b hb with h|h
 ·exact .inl (by omega)
 ·exact .inr h
def arW (p:Pr) (n:Nm):Int:=((p.arrays[(arI p n).toNat]?).map Ar.width).getD 0
def exK (p:Pr) (kn:List Pm) (k w:Int) (n:Nm) (op:Int) (l:List Int):Int × Int :=
 if k=2 then (if kw kn n=0 then (16,0) else (0,kw kn n))
 else if k=3 then (if arI p n<0 then (16,0) else if l.getD 0 0=32 then (0,arW p n) else (14,0))
 else if k=4∨k=5 then (0,l.getD 0 0)
 else if k=6 then (if l.getD 0 0=l.getD 1 0 then (if 16≤op then (0,1) else (0,l.getD 0 0)) else (14,0))
 else (0,w)
mutual
def exW (p:Pr) (kn:List Pm):Ex→Int × Int
 | .mk k w _ n op s=>if (a9 p kn s).1=0 then exK p kn k w n op (a9 p kn s).2 else ((a9 p kn s).1,0)
def a9 (p:Pr) (kn:List Pm):List Ex→Int × List Int
 | []=>(0,[])
 | x::r=>if (exW p kn x).1=0 then ((a9 p kn r).1,(exW p kn x).2::(a9 p kn r).2) else ((exW p kn x).1,[])
end
theorem iY (p:Pr) (kn:List Pm):∀ l:List Ex,(a9 p kn l).1=0→(a9 p kn l).2.length=l.length
 | [],_=>by simp [a9]
 | x::r,h=>by
  rw [a9] at h ⊢
  split at h
  ·rename_i h2
   rw [if_pos h2]
   simp only [Hc,iY p kn r h]
  ·rename_i h2;exact absurd h h2
theorem ka (p:Pr) (kn:List Pm):∀ a b:List Ex,(a9 p kn a).1=0→a9 p kn (a++b)=((a9 p kn b).1,(a9 p kn a).2++(a9 p kn b).2)
 | [],b,_=>by simp [a9]
 | x::a,b,h=>by
  simp only [a9,HE] at h ⊢
  split at h
  ·rename_i h2
   rw [if_pos h2,if_pos h2,ka p kn a b h];rfl
  ·rename_i h2;exact absurd h h2
theorem lP {p:Pr} {kn:List Pm} {l:List Ex} {i:Nat} {x:Ex} (hx:l[i]?=some x) (h:(a9 p kn (l.take i)).1=0) (he:(exW p kn x).1=0):a9 p kn (l.take (i+1))=(0,(a9 p kn (l.take i)).2++[(exW p kn x).2]):=by
 rw [az hx,ka p kn _ _ h]
 simp [a9,he]
theorem qC {p:Pr} {kn:List Pm} {l:List Ex} {i:Nat} {x:Ex} (hx:l[i]?=some x) (h:(a9 p kn (l.take i)).1=0) (he:(exW p kn x).1≠0):(a9 p kn l).1=(exW p kn x).1:=by
 have e:l=l.take i++x::l.drop (i+1):=by rw [← cG hx,List.take_append_drop]
 rw [e,ka p kn _ _ h]
 simp [a9,he]
theorem C4 (h:Heap) (nx:Nat):AC Tryz.prog 84 [] h nx fun y h'' n'=>∃ b,y=.ret (.mp b)∧nx≤n'∧af h'' b=some (.map ci [0,1,2,3] 4)∧∀ k o,af h k=some o→af h'' k=some o :=
 ((w84 nx).frame h).mono fun y h'' n' ⟨h',e1,e2,e3,b,e4,e5,e6⟩=>⟨b,e4,e2,by rw [e1,gD,e6];rfl,fun k o ho=>by rw [e1,gD,e3 k o ho];exact ho⟩
theorem qg {h:Heap} {nx:Nat} {x:AV} {a:Int} (ho:aF 3 1 h nx x ([a].map inE)):∃ b,x=.os b 0 3 1 1∧af h b=some (.cells [.int .i64 a]):=by
 rcases ho with ⟨_,h⟩|⟨b,h1,h2,_⟩
 ·simp at h
 ·exact ⟨b,h1,h2⟩
theorem wm {h:Heap} {nx:Nat} {x:AV} {a c:Int} (ho:aF 3 1 h nx x ([a,c].map inE)):∃ b,x=.os b 0 3 1 2∧af h b=some (.cells [.int .i64 a,.int .i64 c]):=by
 rcases ho with ⟨_,h⟩|⟨b,h1,h2,_⟩
 ·simp at h
 ·exact ⟨b,h1,h2⟩
theorem wL {l:List Int} (h:l.length=2):∃ a d,l=[a,d]:=by
 match l,h with
 | [a,d],_=>exact ⟨a,d,rfl⟩
theorem qi (b n:Nat):idxA 1 (.os b 0 3 1 (n+1)) 0=some (.op b 0):=by
 have:(0:Int)<((n:Int)+1):=by omega
 simp [idxA,this]
theorem DB (b:Nat):idxA 1 (.os b 0 3 1 2) 1=some (.op b 1):=by simp [idxA]
theorem xf {α:Type} (q:α→Bool):∀ (l:List α) (i:Nat),0≤fi q l i→∃ j x,fi q l i=((i+j:Nat):Int)∧l[j]?=some x
 | [],i,h=>by simp [fi] at h
 | x::r,i,h=>by
  rw [fi] at h ⊢
  split
  ·exact ⟨0,x,by simp,rfl⟩
  ·rename_i hq
   rw [if_neg hq] at h
   obtain ⟨j,y,e1,e2⟩:=xf q r (i+1) h
   exact ⟨j+1,y,by rw [e1];omega,e2⟩
theorem iw {p:Pr} {n:Nm} (h:¬ arI p n<0):∃ (j:Nat) (a:Ar),arI p n=(j:Int)∧p.arrays[j]?=some a∧arW p n=a.width:=by
 obtain ⟨j,a,e1,e2⟩:=xf _ _ _ (show 0≤fi (fun a:Ar=>a.name==n) p.arrays 0 by have:arI p n=_:=rfl;rw [← arI];omega)
 have e3:arI p n=(j:Int):=by rw [arI,e1];omega
 exact ⟨j,a,e3,e2,by rw [arW,e3];simp [e2]⟩
theorem nR {k w b:Int} {n:Nm} {op:Int} {s:List Ex} (h:wfE (.mk k w b n op s)=true):((k=3∨k=4∨k=5)→s.length=1)∧(k=6→s.length=2):=by
 rw [bZ,HR] at h
 have h1:=h.1
 refine ⟨fun hk=>?_,fun hk=>?_⟩
 ·unfold wfN at h1
  rcases hk with rfl|rfl|rfl <;> simp at h1 <;> omega
 ·unfold wfN at h1
  subst hk;simp at h1;omega
theorem mc {k w b:Int} {n:Nm} {op:Int} {s:List Ex} (h:wfE (.mk k w b n op s)=true):∀ x∈s,wfE x=true:=by
 rw [bZ,HR] at h
 intro x hx
 exact List.all_eq_true.1 h.2 x hx
theorem w39 (p:Pr) (f:Fu) (v:AV) (kn:List Pm) (c:Nat) (hl:kn.length≤1000000) (hal:p.arrays.length≤4611686018427387904):∀ (m:Nat) (x:Ex),bM x≤m→bM x≤1000000→wfE x=true→∀ (h:Heap) (nx:Nat),af h c=some (.cells (chk p f v))→c<nx→Rd h nx v kn →
  AC Tryz.prog 39 [.op c 0,.agg (exE x)] h nx fun y h' n'=>y=.ret (.tup [.int .i64 (exW p kn x).2,.int .i64 (exW p kn x).1])∧h'=h∧nx≤n':=by
 intro m
 induction m with
 | zero=>intro x hx;have:=cV x;omega
 | succ m ih =>
  rintro ⟨k,w,b,n,op,s⟩ hm hB hwf h nx gc hcn hv
  have hsl:=nR hwf
  have hsub:=mc hwf
  simp only [bM] at hm hB
  have hlen:=aE s
  refine dI (AC.go aj is39 (by simp) ?_)
  have lv:=aP s
  rw [dE]
  simp -implicitDefEqProofs only [RA,aa,zp,↓reduceIte,reduceCtorEq,zq,zr,zs,zt,A39,F4,lv,↓aT,↓aS]
  refine aq (fun q st=>∃ (i:Nat) (z:AV),q=s.length-i∧i≤s.length∧(a9 p kn (s.take i)).1=0∧ab st.env 0=some (.op c 0)∧ab st.env 3=some (.op nx 0)∧ab st.env 6=some z∧ab st.env 14=some (aR s)∧ab st.env 15=some (.int .i64 s.length)∧ab st.env 16=some (.int .i64 i)∧aF 3 1 st.heap st.nx z ((a9 p kn (s.take i)).2.map inE)∧(∀ b,aw z=some b→nx<b)∧af st.heap nx=some (.cells [.int .u8 k,.int .i64 w,.int .u64 b,.str n,.int .u8 op,aR s])∧(∀ b o,b<nx→af h b=some o→af st.heap b=some o)∧nx<st.nx∧st.dm=[]) (n:=s.length) aj
   ⟨0,.nilS,rfl,by omega,by simp [a9],by simp [ab],by simp [ab],by simp [ab],by simp [ab],by simp [ab],by simp [ab],.inl ⟨rfl,by simp [a9]⟩,by simp [aw],by simp [af],fun b o hb ho=>by rw [ai,if_neg (by omega)];exact ho,by simp,rfl⟩ ?_
  rintro q ⟨env,heap,nx',dm⟩ ⟨i,z,rfl,hi,hz,g0,g3,g6,g14,g15,g16,ho,hzb,gx,gk,hnx,hdm⟩
  simp only at g0 g3 g6 g14 g15 g16 ho gx gk hnx hdm
  subst hdm
  have f1:=wS (i:=i) (by omega)
  have gc2:=gk c _ hcn gc
  have hv2:=hv.keep (nx':=nx') (by omega) gk
  by_cases hc:(i:Int)<(s.length:Int)
  case pos =>
   have hr:=G7 (show i<s.length by omega)
   generalize s[i]=r at hr
   have ix:=bA hr
   have hmem:=G8 hr
   have m1:=bL hmem
   have rl:=bI r
   have rt:=bC r
   have nn:(nx'=nx)=False:=eq_false (by omega)
   have e6:(exE r).length=6∧True:=⟨rl,trivial⟩
   rw [eT] at ix
   simp -implicitDefEqProofs only [RA,aa,zp,↓reduceIte,reduceCtorEq,zq,zr,zs,zt,jC,gM,g0,g3,g6,g14,g15,g16,hc,ix]
   rw [← eT]
   have gk2:∀ b o,b<nx'→af heap b=some o→af ((nx',AO.cells (exE r))::(nx',.cells [.int .u8 0,.int .i64 0,.int .u64 0,.str [],.int .u8 0,.nilS])::heap) b=some o:=fun b o hb ho=>by rw [ai,if_neg (by omega),ai,if_neg (by omega)];exact ho
   refine (ih r (by omega) (by omega) (hsub r hmem) _ (nx'+1) (gk2 c _ (by omega) gc2) (by omega) (hv2.keep (by omega) gk2)).mono ?_
   rintro y h2 n2 ⟨rfl,rfl,hn2⟩
   rcases ah ((exW p kn r).1=0) with ⟨he',he⟩|⟨he',he⟩
   case inr =>
    have es:exW p kn (.mk k w b n op s)=((exW p kn r).1,0):=by
     have hb1:=qC hr hz he'
     rw [exW,if_neg (by rw [hb1];exact he'),hb1]
    simp -implicitDefEqProofs only [RA,aa,zp,↓reduceIte,reduceCtorEq,zq,zr,zs,zt,g0,g3,g6,g14,g15,g16,he,es,R39]
    exact fun b o hb ho=>gk2 b o (by omega) (gk b o hb ho)
   have ok:=lP hr hz he'
   have ho2:aF 3 1 ((nx',AO.cells (exE r))::(nx',.cells [.int .u8 0,.int .i64 0,.int .u64 0,.str [],.int .u8 0,.nilS])::heap) n2 z ((a9 p kn (s.take i)).2.map inE):=ho.keep (by omega) fun b o hb hg=>gk2 b o (ho.blk hb).2.2 hg
   have hll:=iY p kn _ hz
   have hlt:(s.take i).length≤s.length:=by rw [Hf];omega
   obtain ⟨z',h3,n3,ea,ow,hn3,hk3,hb3⟩:=ho2.grw (bytes:=8) (ns:=[inE (exW p kn r).2]) (eq _) (by simp [inE]) (by simp only [He,Hc,Hd];omega) (by simp only [He,Hc,Hd,maxLen];omega)
   have ea':eC 3 1 8 ((nx',AO.cells (exE r))::(nx',.cells [.int .u8 0,.int .i64 0,.int .u64 0,.str [],.int .u8 0,.nilS])::heap) n2 z (.lst 1 [[.int .i64 (exW p kn r).2]])=some (z',h3,n3):=ea
   simp -implicitDefEqProofs only [RA,aa,zp,↓reduceIte,reduceCtorEq,zq,zr,zs,zt,g0,g3,g6,g14,g15,g16,he,f1,ea']
   have hzn:aw z≠some nx:=fun e=>by have:=hzb nx e;omega
   have hz2:(a9 p kn (s.take (i+1))).1=0:=by rw [ok]
   have how:aF 3 1 h3 n3 z' ((a9 p kn (s.take (i+1))).2.map inE):=by
    rw [ok];simp only [Hk,List.map_cons,List.map_nil];exact ow
   have gx2:=hk3 nx _ (by omega) (gk2 nx _ (by omega) gx) hzn
   have gk3:∀ b o,b<nx→af h b=some o→af h3 b=some o:=fun b o hb hg=>hk3 b o (by omega) (gk2 b o (by omega) (gk b o hb hg)) fun e=>by have:=hzb b e;omega
   have hzb2:∀ b,aw z'=some b→nx<b:=fun b hb=>by
    rcases hb3 b hb with h|h
    ·omega
    ·exact hzb b h
   refine ⟨s.length-(i+1),by omega,i+1,z',?_⟩
   repeat' apply And.intro
   all_goals first|assumption|rfl|omega|(simp [ab, *];done)
  have hti:s.take i=s:=Ha (by omega)
  rw [hti] at hz ho
  have hll:=iY p kn s hz
  have es:exW p kn (.mk k w b n op s)=exK p kn k w n op (a9 p kn s).2:=by rw [exW,if_pos hz]
  rw [es]
  generalize (a9 p kn s).2=ws at ho hll
  unfold exK
  by_cases h2:k=2
  case pos =>
   subst h2
   simp only [if_true]
   simp -implicitDefEqProofs only [RA,aa,zp,↓reduceIte,reduceCtorEq,zq,zr,zs,zt,jC,gM,g0,g3,g6,g14,g15,g16,hc,gx,Ie]
   refine (w82 p f v kn c n heap nx' gc2 (by omega) hv2 (by omega)).mono ?_
   rintro y h3 n2 ⟨rfl,rfl,hn2⟩
   rcases ah (kw kn n=0) with ⟨d1',d1⟩|⟨d1',d1⟩
   ·simp -implicitDefEqProofs only [RA,aa,zp,↓reduceIte,reduceCtorEq,zq,zr,zs,zt,g0,g3,gx,d1,R39]
    exact gk
   ·simp -implicitDefEqProofs only [RA,aa,zp,↓reduceIte,reduceCtorEq,zq,zr,zs,zt,g0,g3,gx,d1,R39]
    exact gk
  have k2:(k=2)=False:=eq_false h2
  by_cases h3:k=3
  case pos =>
   subst h3
   have hs1:=hsl.1 (.inl rfl)
   obtain ⟨a,rfl⟩:∃ a,ws=[a]:=Hq.1 (by omega)
   simp only [Ie,if_true,if_false,List.getD_cons_zero]
   obtain ⟨bz,rfl,hbz⟩:=qg ho
   have i0:=qi bz 0
   have hbn:=hzb bz rfl
   have nb:(bz=nx)=False:=eq_false (by omega)
   simp only [chk] at gc2
   simp -implicitDefEqProofs only [RA,aa,zp,↓reduceIte,reduceCtorEq,zq,zr,zs,zt,jC,gM,g0,g3,g6,g14,g15,g16,hc,gx,gc2,Ie]
   refine (w83 p n hal).use fun n2 hn2=>?_
   rcases ah (arI p n<0) with ⟨d1',d1⟩|⟨d1',d1⟩
   ·simp -implicitDefEqProofs only [RA,aa,zp,↓reduceIte,reduceCtorEq,zq,zr,zs,zt,g0,g3,gx,gc2,d1,R39]
    exact gk
   obtain ⟨j,ar,e1,e2,e3⟩:=iw d1'
   have ix:=cO e2
   have ae:=dB ar
   simp -implicitDefEqProofs only [RA,aa,zp,↓reduceIte,reduceCtorEq,zq,zr,zs,zt,g0,g3,g6,gx,gc2,d1,i0,hbz]
   refine (C4 _ _).mono ?_
   rintro y h3 n3 ⟨bm,rfl,hn3,hbm,hk3⟩
   have hb2:=hk3 _ _ hbz
   have hg2:=hk3 _ _ gc2
   have lk:fB h3 .str (.int .i64 0) false (.mp bm) (.str [119,111,114,100])=some (.int .i64 32):=by
    simp [fB,jx,hbm,ci,eI,dk,eqC]
   rcases ah (a=32) with ⟨d2',d2⟩|⟨d2',d2⟩
   ·rw [if_pos d2',e3]
    simp -implicitDefEqProofs only [RA,aa,zp,↓reduceIte,reduceCtorEq,zq,zr,zs,zt,g0,g3,g6,gx,hg2,d1,i0,hb2,lk,d2,e1,ix,ae,eR,R39]
    exact fun b o hb ho=>hk3 b o (gk b o hb ho)
   ·rw [if_neg d2']
    simp -implicitDefEqProofs only [RA,aa,zp,↓reduceIte,reduceCtorEq,zq,zr,zs,zt,g0,g3,g6,gx,hg2,d1,i0,hb2,lk,d2,eR,R39]
    exact fun b o hb ho=>hk3 b o (gk b o hb ho)
  have k3:(k=3)=False:=eq_false h3
  by_cases h4:k=4
  case pos =>
   subst h4
   have hs1:=hsl.1 (.inr (.inl rfl))
   obtain ⟨a,rfl⟩:∃ a,ws=[a]:=Hq.1 (by omega)
   simp only [Ie,if_true,if_false,List.getD_cons_zero,true_or]
   obtain ⟨bz,rfl,hbz⟩:=qg ho
   have i0:=qi bz 0
   simp -implicitDefEqProofs only [RA,aa,zp,↓reduceIte,reduceCtorEq,zq,zr,zs,zt,jC,gM,g0,g3,g6,g14,g15,g16,hc,gx,Ie,i0,hbz,R39]
   exact gk
  have k4:(k=4)=False:=eq_false h4
  by_cases h5:k=5
  case pos =>
   subst h5
   have hs1:=hsl.1 (.inr (.inr rfl))
   obtain ⟨a,rfl⟩:∃ a,ws=[a]:=Hq.1 (by omega)
   simp only [Ie,if_true,if_false,List.getD_cons_zero,or_true]
   obtain ⟨bz,rfl,hbz⟩:=qg ho
   have i0:=qi bz 0
   simp -implicitDefEqProofs only [RA,aa,zp,↓reduceIte,reduceCtorEq,zq,zr,zs,zt,jC,gM,g0,g3,g6,g14,g15,g16,hc,gx,Ie,i0,hbz,R39]
   exact gk
  have k5:(k=5)=False:=eq_false h5
  by_cases h6:k=6
  case pos =>
   subst h6
   have hs1:=hsl.2 rfl
   obtain ⟨a,d,rfl⟩:∃ a d,ws=[a,d]:=wL (by omega)
   simp only [Ie,if_true,if_false,List.getD_cons_zero,List.getD_cons_succ,or_self]
   obtain ⟨bz,rfl,hbz⟩:=wm ho
   have i0:=qi bz 1
   have i1:=DB bz
   rcases ah (a=d) with ⟨d1',d1⟩|⟨d1',d1⟩
   case inr =>
    rw [if_neg d1']
    simp -implicitDefEqProofs only [RA,aa,zp,↓reduceIte,reduceCtorEq,zq,zr,zs,zt,jC,gM,g0,g3,g6,g14,g15,g16,hc,gx,Ie,i0,i1,hbz,d1,R39]
    exact gk
   rw [if_pos d1']
   rcases ah (16≤op) with ⟨d2',d2⟩|⟨d2',d2⟩
   ·rw [if_pos d2']
    simp -implicitDefEqProofs only [RA,aa,zp,↓reduceIte,reduceCtorEq,zq,zr,zs,zt,jC,gM,g0,g3,g6,g14,g15,g16,hc,gx,Ie,i0,i1,hbz,d1,d2,R39]
    exact gk
   ·rw [if_neg d2']
    simp -implicitDefEqProofs only [RA,aa,zp,↓reduceIte,reduceCtorEq,zq,zr,zs,zt,jC,gM,g0,g3,g6,g14,g15,g16,hc,gx,Ie,i0,i1,hbz,d1,d2,R39]
    exact gk
  have k6:(k=6)=False:=eq_false h6
  rw [if_neg h2,if_neg h3,if_neg (by omega),if_neg h6]
  simp -implicitDefEqProofs only [RA,aa,zp,↓reduceIte,reduceCtorEq,zq,zr,zs,zt,jC,gM,g0,g3,g6,g14,g15,g16,hc,gx,k2,k3,k4,k5,k6,R39]
  exact gk
def WdP (p:Pr) (i0:Int) (v:AV) (c:Nat) (e:Int) (a:Int × Int) (h:Heap) (nx:Nat) (y:AE) (h':Heap) (n':Nat):Prop :=
 ∃ r,y=.ret (.int .i64 r)∧(e=0→a.1=0→r=a.2)∧af h' c=some (.cells (scp p i0 v (if e=0 then a.1 else e)))∧(∀ b o,b<nx→b≠c→af h b=some o→af h' b=some o)∧nx≤n'
theorem Rd.keepC {h h':Heap} {nx nx' c:Nat} {v:AV} {l:List Pm} (hr:Rd h nx v l) (hvc:aw v≠some c) (hle:nx≤nx') (hk:∀ b o,b<nx→b≠c→af h b=some o→af h' b=some o):Rd h' nx' v l:=by
 rcases hr with rfl|ho
 ·exact .inl rfl
 ·exact .inr (ho.keep hle fun b o hb hg=>hk b o (ho.blk hb).2.2 (fun e=>hvc (by rw [← e];exact hb)) hg)
theorem qB {p:Pr} {kn:List Pm} {l:List Ex} {i:Nat} {x:Ex} (hx:l[i]?=some x):(a9 p kn (l.take (i+1))).1=if (a9 p kn (l.take i)).1=0 then (exW p kn x).1 else (a9 p kn (l.take i)).1:=by
 rw [az hx]
 split
 ·rename_i h
  rw [ka p kn _ _ h]
  simp only [a9]
  split
  ·rename_i h2;rw [h2]
  ·rfl
 ·rename_i h
  generalize l.take i=a at h
  induction a with
  | nil=>simp [a9] at h
  | cons y a ih =>
   simp only [HE,a9] at h ⊢
   split
   ·rename_i h2
    rw [if_pos h2] at h
    exact ih h
   ·rfl
theorem w48 (p:Pr) (i0:Int) (v:AV) (kn:List Pm) (c:Nat) (hl:kn.length≤1000000) (hal:p.arrays.length≤4611686018427387904) (hvc:aw v≠some c):∀ (m:Nat) (x:Ex),bM x≤m→bM x≤1000000→wfE x=true→∀ (e:Int) (h:Heap) (nx:Nat),af h c=some (.cells (scp p i0 v e))→c<nx→Rd h nx v kn →
  AC Tryz.prog 48 [.op c 0,.agg (exE x)] h nx (WdP p i0 v c e (exW p kn x) h nx):=by
 intro m
 induction m with
 | zero=>intro x hx;have:=cV x;omega
 | succ m ih =>
  rintro ⟨k,w,b,n,op,s⟩ hm hB hwf e h nx gc hcn hv
  have hsl:=nR hwf
  have hsub:=mc hwf
  simp only [bM] at hm hB
  have hlen:=aE s
  refine AC.go aj is48 (by simp) ?_
  have lv:=aP s
  rw [dE]
  have nc:(nx=c)=False:=eq_false (by omega)
  simp -implicitDefEqProofs only [RA,aa,zp,↓reduceIte,reduceCtorEq,zq,zr,zs,zt,A48,FW,lv,↓aT,↓aS]
  refine aq (fun q st=>∃ (i:Nat) (z:AV) (ws:List Int),q=s.length-i∧i≤s.length∧ws.length=i∧(e=0→(a9 p kn (s.take i)).1=0→ws=(a9 p kn (s.take i)).2)∧ab st.env 0=some (.op c 0)∧ab st.env 3=some (.op nx 0)∧ab st.env 5=some z∧ab st.env 6=some (.int .i64 i)∧aF 3 1 st.heap st.nx z (ws.map inE)∧(∀ b,aw z=some b→nx<b)∧af st.heap nx=some (.cells [.int .u8 k,.int .i64 w,.int .u64 b,.str n,.int .u8 op,aR s])∧af st.heap c=some (.cells (scp p i0 v (if e=0 then (a9 p kn (s.take i)).1 else e)))∧(∀ b o,b<nx→b≠c→af h b=some o→af st.heap b=some o)∧nx<st.nx∧st.dm=[]) (n:=s.length) aj
   ⟨0,.nilS,[],rfl,by omega,rfl,fun _ _=>by simp [a9],by simp [ab],by simp [ab],by simp [ab],by simp [ab],.inl ⟨rfl,rfl⟩,by simp [aw],by simp [af],by
    rw [ai,if_neg (by omega),gc]
    simp only [List.take_zero,a9]
    split
    ·rename_i h0;rw [h0]
    ·rfl,fun b o hb hbc ho=>by rw [ai,if_neg (by omega)];exact ho,by simp,rfl⟩ ?_
  rintro q ⟨env,heap,nx',dm⟩ ⟨i,z,ws,rfl,hi,hwl,hws,g0,g3,g5,g6,ho,hzb,gx,gc2,gk,hnx,hdm⟩
  simp only at g0 g3 g5 g6 ho gx gc2 gk hnx hdm
  subst hdm
  have f1:=wS (i:=i) (by omega)
  have hv2:=hv.keepC (nx':=nx') hvc (by omega) gk
  by_cases hc:(i:Int)<(s.length:Int)
  case pos =>
   have hr:=G7 (show i<s.length by omega)
   generalize s[i]=r at hr
   have ix:=bA hr
   have hmem:=G8 hr
   have m1:=bL hmem
   have rl:=bI r
   have rt:=bC r
   simp -implicitDefEqProofs only [RA,aa,zp,↓reduceIte,reduceCtorEq,zq,zr,zs,zt,kz,iB,lv,g0,g3,g5,g6,hc,gx,ix,rl,rt]
   refine (ih r (by omega) (by omega) (hsub r hmem) _ heap nx' gc2 (by omega) hv2).mono ?_
   rintro y h2 n2 ⟨rv,rfl,hrv,gc3,gk2,hn2⟩
   have ho2:aF 3 1 h2 n2 z (ws.map inE):=ho.keep (by omega) fun b o hb hg=>gk2 b o (ho.blk hb).2.2 (by have:=hzb b hb;omega) hg
   obtain ⟨z',h3,n3,ea,ow,hn3,hk3,hb3⟩:=ho2.grw (bytes:=8) (ns:=[inE rv]) (eq _) (by simp [inE]) (by simp only [He,Hc,Hd];omega) (by simp only [He,Hc,Hd,maxLen];omega)
   have ea':eC 3 1 8 h2 n2 z (.lst 1 [[.int .i64 rv]])=some (z',h3,n3):=ea
   simp -implicitDefEqProofs only [RA,aa,zp,↓reduceIte,reduceCtorEq,zq,zr,zs,zt,g0,g3,g5,g6,f1,ea']
   have how:aF 3 1 h3 n3 z' ((ws++[rv]).map inE):=by
    simp only [Hk,List.map_cons,List.map_nil];exact ow
   have hzn:aw z≠some nx:=fun e=>by have:=hzb nx e;omega
   have hzc:aw z≠some c:=fun e=>by have:=hzb c e;omega
   have gx2:=hk3 nx _ (by omega) (gk2 nx _ (by omega) (by omega) gx) hzn
   have e1:=qB (p:=p) (kn:=kn) hr
   have gc4:af h3 c=some (.cells (scp p i0 v (if e=0 then (a9 p kn (s.take (i+1))).1 else e))):=by
    rw [hk3 c _ (by omega) gc3 hzc,e1]
    by_cases h0:e=0
    ·simp only [h0,if_true]
    ·simp only [h0,if_false]
   have gk3:∀ b o,b<nx→b≠c→af h b=some o→af h3 b=some o:=fun b o hb hbc hg=>hk3 b o (by omega) (gk2 b o (by omega) hbc (gk b o hb hbc hg)) fun e=>by have:=hzb b e;omega
   have hzb2:∀ b,aw z'=some b→nx<b:=fun b hb=>by
    rcases hb3 b hb with h|h
    ·omega
    ·exact hzb b h
   have hwl2:(ws++[rv]).length=i+1:=by rw [List.length_append,hwl];rfl
   have hws2:e=0→(a9 p kn (s.take (i+1))).1=0→ws++[rv]=(a9 p kn (s.take (i+1))).2:=by
    intro h0 h1
    rw [e1] at h1
    split at h1
    ·rename_i h2
     rw [lP hr h2 h1,← hws h0 h2,hrv (by rw [if_pos h0];exact h2) h1]
    ·rename_i h2;exact absurd h1 h2
   refine ⟨s.length-(i+1),by omega,i+1,z',ws++[rv],rfl,by omega,hwl2,hws2,?_⟩
   repeat' apply And.intro
   all_goals first|assumption|rfl|omega|(simp [ab, *];done)
  have hti:s.take i=s:=Ha (by omega)
  rw [hti] at hws gc2
  have fin:∀ (r:Int) (h':Heap) (n':Nat),((e=0→(exW p kn (.mk k w b n op s)).1=0→r=(exW p kn (.mk k w b n op s)).2))→af h' c=some (.cells (scp p i0 v (if e=0 then (exW p kn (.mk k w b n op s)).1 else e)))→(∀ b o,b≠c→af heap b=some o→af h' b=some o)→nx'≤n'→WdP p i0 v c e (exW p kn (.mk k w b n op s)) h nx (.ret (.int .i64 r)) h' n' :=
   fun r h' n' h1 h2 h3 h4=>⟨r,rfl,h1,h2,fun b o hb hbc ho=>h3 b o hbc (gk b o hb hbc ho),by omega⟩
  by_cases he:(if e=0 then (a9 p kn s).1 else e)=0
  case neg =>
   have he2:((if e=0 then (a9 p kn s).1 else e)=0)=False:=eq_false he
   have es:e=0→(exW p kn (.mk k w b n op s)).1=(a9 p kn s).1∧(a9 p kn s).1≠0:=by
    intro h0
    rw [if_pos h0] at he
    rw [exW,if_neg he];exact ⟨rfl,he⟩
   have gc3:=gc2
   simp only [scp] at gc3
   simp -implicitDefEqProofs only [RA,aa,zp,↓reduceIte,reduceCtorEq,zq,zr,zs,zt,kz,iB,lv,g0,g3,g5,g6,hc,gx,gc3,he2,R48]
   refine fin 0 heap nx' (fun h0 h1=>absurd h1 (by rw [(es h0).1];exact (es h0).2)) ?_ (fun b o _ ho=>ho) (H4 _)
   rw [gc2]
   by_cases h0:e=0
   ·rw [if_pos h0,if_pos h0,(es h0).1]
   ·rw [if_neg h0,if_neg h0]
  rw [he] at gc2
  have he0:e=0∧(a9 p kn s).1=0:=by
   by_cases h0:e=0
   ·rw [if_pos h0] at he;exact ⟨h0,he⟩
   ·rw [if_neg h0] at he;exact absurd he h0
  obtain ⟨he1,hz⟩:=he0
  have es:exW p kn (.mk k w b n op s)=exK p kn k w n op ws:=by rw [exW,if_pos hz,hws he1 hz]
  rw [es] at fin ⊢
  subst he1
  simp only [if_true] at fin
  have gc3:=gc2
  simp only [scp] at gc3
  generalize hre:exK p kn k w n op ws=re at fin ⊢
  unfold exK at hre
  have hbz0:∀ b,aw z=some b→b≠c:=fun b hb=>by have:=hzb b hb;omega
  by_cases h2:k=2
  case pos =>
   subst h2
   simp only [if_true] at hre
   simp -implicitDefEqProofs only [RA,aa,zp,↓reduceIte,reduceCtorEq,zq,zr,zs,zt,kz,iB,lv,g0,g3,g5,g6,hc,gx,gc3,Ie]
   refine (mg p i0 v 0 kn c n heap nx' gc2 hv2 (by omega)).mono ?_
   rintro y h3 n2 ⟨rfl,rfl,hn2⟩
   simp -implicitDefEqProofs only [RA,aa,zp,↓reduceIte,reduceCtorEq,zq,zr,zs,zt,g0,g3,g5,g6,hc,gx,gc3,Ie]
   refine (w99 p i0 v 0 16 (decide (kw kn n=0)) c _ n2 gc2).mono ?_
   rintro y h4 n4 ⟨rfl,rfl,gc4,hk4⟩
   have gx4:=hk4 nx _ (by omega) gx
   have hv4:Rd h4 n4 v kn:=hv2.keepC hvc hn2 fun b o _ hbc ho=>hk4 b o hbc ho
   simp -implicitDefEqProofs only [RA,aa,zp,↓reduceIte,reduceCtorEq,zq,zr,zs,zt,g0,g3,gx4]
   refine (mg p i0 v _ kn c n h4 n4 gc4 hv4 (by omega)).mono ?_
   rintro y h5 n5 ⟨rfl,rfl,hn5⟩
   simp -implicitDefEqProofs only [RA,aa,zp,↓reduceIte,reduceCtorEq,zq,zr,zs,zt,R48]
   refine fin _ _ _ ?_ ?_ hk4 (by omega)
   ·intro _ h1
    rw [← hre] at h1 ⊢
    split at h1
    ·simp at h1
    ·rename_i h2;rw [if_neg h2]
   ·rw [gc4,← hre]
    by_cases hk0:kw kn n=0
    ·simp [hk0]
    ·simp [hk0]
  have k2:(k=2)=False:=eq_false h2
  by_cases h3:k=3
  case pos =>
   subst h3
   have hs1:=hsl.1 (.inl rfl)
   obtain ⟨a,rfl⟩:∃ a,ws=[a]:=Hq.1 (by omega)
   simp only [Ie,if_true,if_false,List.getD_cons_zero] at hre
   obtain ⟨bz,rfl,hbz⟩:=qg ho
   have i1:=qi bz 0
   have hbn:=hzb bz rfl
   simp -implicitDefEqProofs only [RA,aa,zp,↓reduceIte,reduceCtorEq,zq,zr,zs,zt,kz,iB,lv,g0,g3,g5,g6,hc,gx,gc3,Ie]
   refine (w53 p n hal).use fun n2 hn2=>?_
   rcases ah (arI p n<0) with ⟨d1',d1⟩|⟨d1',d1⟩
   ·simp -implicitDefEqProofs only [RA,aa,zp,↓reduceIte,reduceCtorEq,zq,zr,zs,zt,g0,g3,gx,gc3,d1]
    refine (w99 p i0 v 0 16 true c heap n2 gc2).mono ?_
    rintro y h4 n4 ⟨rfl,rfl,gc4,hk4⟩
    simp -implicitDefEqProofs only [RA,aa,zp,↓reduceIte,reduceCtorEq,zq,zr,zs,zt,R48]
    refine fin _ _ _ ?_ ?_ hk4 hn2
    ·intro _ h1;rw [← hre,if_pos d1'] at h1;simp at h1
    ·rw [gc4,← hre,if_pos d1'];simp
   obtain ⟨j,ar,e1,e2,e3⟩:=iw d1'
   have ix:=cO e2
   have ae:=dB ar
   rw [if_neg d1'] at hre
   simp -implicitDefEqProofs only [RA,aa,zp,↓reduceIte,reduceCtorEq,zq,zr,zs,zt,g0,g3,g5,gx,gc3,d1,i1,hbz]
   refine (w99 p i0 v 0 14 (!decide (a=32)) c heap n2 gc2).mono ?_
   rintro y h4 n4 ⟨rfl,rfl,gc4,hk4⟩
   have gc5:=gc4
   simp only [scp] at gc5
   simp -implicitDefEqProofs only [RA,aa,zp,↓reduceIte,reduceCtorEq,zq,zr,zs,zt,g0,g3,g5,gc5,e1,ix,ae,R48]
   refine fin _ _ _ ?_ ?_ hk4 hn2
   ·intro _ h1
    rw [← hre] at h1 ⊢
    split at h1
    ·rename_i h2;rw [if_pos h2,e3]
    ·simp at h1
   ·rw [gc4,← hre]
    by_cases hk0:a=32
    ·simp [hk0]
    ·simp [hk0]
  have k3:(k=3)=False:=eq_false h3
  by_cases h4:k=4
  case pos =>
   subst h4
   have hs1:=hsl.1 (.inr (.inl rfl))
   obtain ⟨a,rfl⟩:∃ a,ws=[a]:=Hq.1 (by omega)
   simp only [Ie,if_true,if_false,List.getD_cons_zero,true_or] at hre
   obtain ⟨bz,rfl,hbz⟩:=qg ho
   have i1:=qi bz 0
   simp -implicitDefEqProofs only [RA,aa,zp,↓reduceIte,reduceCtorEq,zq,zr,zs,zt,kz,iB,lv,g0,g3,g5,g6,hc,gx,gc3,Ie,i1,hbz,R48]
   exact fin _ _ _ (fun _ _=>by rw [← hre]) (by rw [← hre];exact gc2) (fun b o _ ho=>ho) (H4 _)
  have k4:(k=4)=False:=eq_false h4
  by_cases h5:k=5
  case pos =>
   subst h5
   have hs1:=hsl.1 (.inr (.inr rfl))
   obtain ⟨a,rfl⟩:∃ a,ws=[a]:=Hq.1 (by omega)
   simp only [Ie,if_true,if_false,List.getD_cons_zero,or_true] at hre
   obtain ⟨bz,rfl,hbz⟩:=qg ho
   have i1:=qi bz 0
   simp -implicitDefEqProofs only [RA,aa,zp,↓reduceIte,reduceCtorEq,zq,zr,zs,zt,kz,iB,lv,g0,g3,g5,g6,hc,gx,gc3,Ie,i1,hbz,R48]
   exact fin _ _ _ (fun _ _=>by rw [← hre]) (by rw [← hre];exact gc2) (fun b o _ ho=>ho) (H4 _)
  have k5:(k=5)=False:=eq_false h5
  by_cases h6:k=6
  case pos =>
   subst h6
   have hs1:=hsl.2 rfl
   obtain ⟨a,d,rfl⟩:∃ a d,ws=[a,d]:=wL (by omega)
   simp only [Ie,if_true,if_false,List.getD_cons_zero,List.getD_cons_succ,or_self] at hre
   obtain ⟨bz,rfl,hbz⟩:=wm ho
   have i1:=qi bz 1
   have i2:=DB bz
   have hbn:=hzb bz rfl
   simp -implicitDefEqProofs only [RA,aa,zp,↓reduceIte,reduceCtorEq,zq,zr,zs,zt,kz,iB,lv,g0,g3,g5,g6,hc,gx,gc3,Ie,i1,i2,hbz]
   refine (w99 p i0 v 0 14 (!decide (a=d)) c heap nx' gc2).mono ?_
   rintro y h4 n4 ⟨rfl,rfl,gc4,hk4⟩
   have gx4:=hk4 nx _ (by omega) gx
   have hbz4:=hk4 bz _ (by omega) hbz
   have gc5:af h4 c=some (.cells (scp p i0 v re.1)):=by
    rw [gc4,← hre]
    by_cases hk0:a=d
    ·subst hk0;by_cases hk1:16≤op <;> simp [hk1]
    ·simp [hk0]
   rcases ah (16≤op) with ⟨d2',d2⟩|⟨d2',d2⟩
   ·simp -implicitDefEqProofs only [RA,aa,zp,↓reduceIte,reduceCtorEq,zq,zr,zs,zt,g0,g3,g5,gx4,d2,R48]
    refine fin _ _ _ ?_ gc5 hk4 (H4 _)
    intro _ h1
    rw [← hre] at h1 ⊢
    split at h1
    ·rename_i h2;rw [if_pos h2,if_pos d2']
    ·simp at h1
   ·simp -implicitDefEqProofs only [RA,aa,zp,↓reduceIte,reduceCtorEq,zq,zr,zs,zt,g0,g3,g5,gx4,d2,i1,hbz4,R48]
    refine fin _ _ _ ?_ gc5 hk4 (H4 _)
    intro _ h1
    rw [← hre] at h1 ⊢
    split at h1
    ·rename_i h2;rw [if_pos h2,if_neg d2']
    ·simp at h1
  have k6:(k=6)=False:=eq_false h6
  rw [if_neg h2,if_neg h3,if_neg (by omega),if_neg h6] at hre
  simp -implicitDefEqProofs only [RA,aa,zp,↓reduceIte,reduceCtorEq,zq,zr,zs,zt,kz,iB,lv,g0,g3,g5,g6,hc,gx,gc3,k2,k3,k4,k5,k6,R48]
  exact fin _ _ _ (fun _ _=>by rw [← hre]) (by rw [← hre];exact gc2) (fun b o _ ho=>ho) (H4 _)
end Go.Proofs.YtgeieafamocnhaaGreatDoor
