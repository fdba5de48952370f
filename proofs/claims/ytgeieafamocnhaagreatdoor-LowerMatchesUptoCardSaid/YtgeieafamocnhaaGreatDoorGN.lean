/- Checking a program. -/
import Derived.Test.YtgeieafamocnhaaGreatDoorGM
namespace Go.Proofs.YtgeieafamocnhaaGreatDoor
open List renaming getElem?_eq_getElem → G7, mem_of_getElem? → G8, getElem?_eq_some_iff → G9, take_of_length_le → Ha, drop_of_length_le → Hb, length_cons → Hc, length_nil → Hd, length_map → He, length_take → Hf, all_eq_true → Hh, length_append → Hj, map_append → Hk, mem_cons → Hl, map_cons → Hy
open Bool renaming and_eq_true → HR
set_option maxHeartbeats 64000000
open Go Go.Ab Go.Proofs
open Nat renaming reduceEqDiff → zp, reduceAdd → zq, reduceLeDiff → zr, reduceLT → zs, reduceBEq → zt
set_option linter.unusedVariables false
set_option linter.unusedSimpArgs false
set_option maxRecDepth 20000
structure OkP (p:Pr):Prop where
 al:p.arrays.length≤20
 fl:p.funcs.length≤20
 an:∀ a∈p.arrays,a.name.length≤5000
 fp:∀ f∈p.funcs,f.params.length≤50
 fn:∀ f∈p.funcs,f.name.length≤5000
 pn:∀ f∈p.funcs,∀ v∈f.params,v.1.length≤5000
 fb:∀ f∈p.funcs,bS f.body≤5000
def cR (p:Pr):List Nm:=p.arrays.map Ar.name++p.funcs.map Fu.name
def fsE (p:Pr):List Fu→Int
 | []=>0
 | f::r=>if (fnW p f).1=0 then fsE p r else (fnW p f).1
def ckE (p:Pr):Int :=
 if hvP p=true then 4 else if wfR p=true then (if (cR p).Nodup then fsE p p.funcs else 18) else 8
def ins (K:List Nm) (n:Nm):List Nm:=if n∈K then K else K++[n]
def js (n:Nm):AV × AV:=(.str n,.bool true)
theorem tJ (n:Nm):∀ (K:List Nm) (i:Nat),n∈K→∃ j,dk .str (.str n) (K.map js) i=some (some (i+j,.bool true))∧K[j]?=some n
 | [],i,h=>by simp at h
 | m::K,i,h=>by
  by_cases e:n=m
  ·subst e
   exact ⟨0,by simp [dk,js,eqC],rfl⟩
  ·have hk:n∈K:=by
    rcases Hl.1 h with h|h
    ·exact absurd h e
    ·exact h
   obtain ⟨j,h1,h2⟩:=tJ n K (i+1) hk
   refine ⟨j+1,?_,by simpa using h2⟩
   have ne:(n==m)=false:=by simpa using e
   simp only [Hy,dk,js,eqC,ne]
   rw [show i+(j+1)=i+1+j by omega]
   exact h1
theorem qz (n:Nm):∀ (K:List Nm) (i:Nat),n∉K→dk .str (.str n) (K.map js) i=some none
 | [],i,h=>rfl
 | m::K,i,h=>by
  have e:¬ n=m:=fun e=>h (by simp [e])
  have hk:n∉K:=fun hk=>h (by simp [hk])
  have ne:(n==m)=false:=by simpa using e
  simp only [Hy,dk,js,eqC,ne]
  exact qz n K (i+1) hk
theorem tw {h:Heap} {b:Nat} {K:List Nm} {st:List Nat} {ck:Nat} (hb:af h b=some (.map (K.map js) st ck)) (n:Nm):∃ st' ck',dV h .str (.mp b) (.str n) (.bool true)=some (bO h b (.map ((ins K n).map js) st' ck')):=by
 by_cases hn:n∈K
 ·obtain ⟨j,h1,h2⟩:=tJ n K 0 hn
  refine ⟨st,ck,?_⟩
  simp only [dV,hb,eI,if_true,h1,Nat.zero_add,ins,if_pos hn]
  congr 3
  have:(K.map js)[j]?=some (js n):=by rw [List.getElem?_map,h2];rfl
  apply List.ext_getElem?
  intro t
  rw [List.getElem?_set]
  split
  ·rename_i e;subst e
   have hlt:=(G9.1 this).1
   rw [if_pos hlt,this];rfl
  ·rfl
 ·refine ⟨st++[ck],ck+1,?_⟩
  simp only [dV,hb,eI,if_true,qz n K 0 hn,ins,if_neg hn,Hk,Hy,List.map_nil,js]
def fG (K L:List Nm):List Nm:=L.foldl ins K
theorem qu:∀ (L K:List Nm),(fG K L).length≤K.length+L.length∧((fG K L).length=K.length+L.length↔(L.Nodup∧∀ n∈L,n∉K))
 | [],K=>by simp [fG]
 | n::L,K=>by
  have h:=qu L (ins K n)
  have e:fG K (n::L)=fG (ins K n) L:=rfl
  rw [e]
  by_cases hn:n∈K
  ·have e2:ins K n=K:=if_pos hn
   rw [e2] at h ⊢
   refine ⟨by simp only [Hc];omega,⟨fun h3=>?_,fun h3=>absurd hn (h3.2 n (by simp))⟩⟩
   simp only [Hc] at h3;omega
  ·have e2:ins K n=K++[n]:=if_neg hn
   rw [e2] at h ⊢
   simp only [Hj,Hc,Hd] at h ⊢
   refine ⟨by omega,?_⟩
   rw [show K.length+(L.length+1)=K.length+(0+1)+L.length by omega,h.2,List.nodup_cons]
   constructor
   ·rintro ⟨h1,h2⟩
    refine ⟨⟨fun hnl=>?_,h1⟩,fun m hm=>?_⟩
    ·exact h2 n hnl (by simp)
    ·rcases Hl.1 hm with rfl|hm
     ·exact hn
     ·exact fun hk=>h2 m hm (by simp [hk])
   ·rintro ⟨⟨h1,h2⟩,h3⟩
    refine ⟨h2,fun m hm=>?_⟩
    intro hk
    rcases List.mem_append.1 hk with hk|hk
    ·exact h3 m (by simp [hm]) hk
    ·simp at hk;subst hk;exact h1 hm
theorem wU (L:List Nm):((fG [] L).length<L.length)↔¬ L.Nodup:=by
 have h:=qu L []
 simp only [Hd,Nat.zero_add,List.not_mem_nil,not_false_eq_true,implies_true,and_true] at h
 rw [← h.2];omega
theorem qv (K A B:List Nm):fG K (A++B)=fG (fG K A) B:=List.foldl_append
theorem nE {α:Type} {g:α→Nm} {l:List α} {i:Nat} {x:α} (K:List Nm) (h:l[i]?=some x):fG K ((l.take (i+1)).map g)=ins (fG K ((l.take i).map g)) (g x):=by
 rw [az h,Hk,qv];rfl
theorem jN {f:Fu} (h:wfF f=true):∀ x∈f.body,wfS x=true:=by
 unfold wfF at h
 simp only [HR] at h
 exact Hh.1 h.2
theorem wX {p:Pr} (o:OkP p):∀ f∈p.funcs,f.params.length≤1152921504606846976∧aL f.body≤1152921504606846976∧kD f.body:=fun f hf=>by
 have h1:=o.fp f hf
 have h2:=o.fb f hf
 have h3:=cF f.body
 exact ⟨by omega,by omega,lG _ (by omega)⟩
theorem w40 (p:Pr) (o:OkP p):Pure Tryz.prog 40 [.agg (prE p)] (.int .i64 (ckE p)):=by
 refine Pure.of fun nx=>AC.go aj is40 (by simp) ?_
 have oal:=o.al
 have ofl:=o.fl
 have hpe:=ct p
 rw [hpe]
 have la:=eV p.arrays
 have lf:=cZ p.funcs
 have c23:=w85 p (by omega) (by omega) (wX o)
 rw [hpe] at c23
 obtain ⟨R,hR⟩:∃ R,ckE p=R:=⟨_,rfl⟩
 rw [hR]
 unfold ckE at hR
 simp -implicitDefEqProofs only [RA,aa,zp,↓reduceIte,reduceCtorEq,zq,zr,zs,zt,A40,F3,la,lf,↓bf,↓bc,↓be,↓ba]
 refine c23.use fun n2 hn2=>?_
 cases hhv:hvP p with
 | true =>
  rw [if_pos hhv] at hR
  simp -implicitDefEqProofs only [RA,aa,zp,↓reduceIte,reduceCtorEq,zq,zr,zs,zt,hR,R40]
 | false =>
 rw [hhv,if_neg (by simp)] at hR
 have z0:((p.funcs.length:Int)=0)∨¬ ((p.funcs.length:Int)=0):=Classical.em _
 have c24:=w86 wfA p.arrays (by omega) fun a ha=>w87 a (by have:=o.an a ha;omega)
 have c26:=w88 wfF p.funcs (by omega) fun f hf=>w89 f (by have:=o.fn f hf;omega) (fun v hv=>by have:=o.pn f hf v hv;omega) (by have:=o.fp f hf;omega) (by have:=o.fb f hf;have:=cF f.body;have:=bW f.body;omega) fun x hx=>w127 _ x (Nat.le_refl _) (by have:=o.fb f hf;have:=bH hx;have:=mw x;omega) (rh x (by have:=o.fb f hf;have:=bH hx;omega))
 rcases ah ((p.funcs.length:Int)=0) with ⟨d1',d1⟩|⟨d1',d1⟩
 case inl =>
  have e1:wfR p=false:=by
   simp only [wfR,Bool.and_eq_false_iff,decide_eq_false_iff_not];right;omega
  rw [e1,if_neg (by simp)] at hR
  simp -implicitDefEqProofs only [RA,aa,zp,↓reduceIte,reduceCtorEq,zq,zr,zs,zt,la,lf,d1,hR,R40]
 have e0:decide (0<p.funcs.length)=true:=decide_eq_true (by omega)
 cases ha:p.arrays.all wfA with
 | false =>
  rw [ha] at c24
  have e1:wfR p=false:=by simp [wfR,ha]
  rw [e1,if_neg (by simp)] at hR
  simp -implicitDefEqProofs only [RA,aa,zp,↓reduceIte,reduceCtorEq,zq,zr,zs,zt,la,lf,d1]
  refine c24.use fun n3 hn3=>?_
  simp -implicitDefEqProofs only [RA,aa,zp,↓reduceIte,reduceCtorEq,zq,zr,zs,zt,la,lf,d1,unA,hR,R40]
 | true =>
 rw [ha] at c24
 cases hf:p.funcs.all wfF with
 | false =>
  rw [hf] at c26
  have e1:wfR p=false:=by simp [wfR,hf]
  rw [e1,if_neg (by simp)] at hR
  simp -implicitDefEqProofs only [RA,aa,zp,↓reduceIte,reduceCtorEq,zq,zr,zs,zt,la,lf,d1]
  refine c24.use fun n3 hn3=>?_
  simp -implicitDefEqProofs only [RA,aa,zp,↓reduceIte,reduceCtorEq,zq,zr,zs,zt,la,lf,d1,unA]
  refine c26.use fun n4 hn4=>?_
  simp -implicitDefEqProofs only [RA,aa,zp,↓reduceIte,reduceCtorEq,zq,zr,zs,zt,la,lf,d1,unA,hR,R40]
 | true =>
 rw [hf] at c26
 have e1:wfR p=true:=by simp only [wfR,ha,hf,e0,Bool.and_self]
 rw [e1,if_pos rfl] at hR
 have hwff:=Hh.1 hf
 simp -implicitDefEqProofs only [RA,aa,zp,↓reduceIte,reduceCtorEq,zq,zr,zs,zt,la,lf,d1]
 refine c24.use fun n3 hn3=>?_
 simp -implicitDefEqProofs only [RA,aa,zp,↓reduceIte,reduceCtorEq,zq,zr,zs,zt,la,lf,d1,unA]
 refine c26.use fun n4 hn4=>?_
 have n4n:(n4=nx)=False:=eq_false (by omega)
 simp -implicitDefEqProofs only [RA,aa,zp,↓reduceIte,reduceCtorEq,zq,zr,zs,zt,la,lf,d1,unA,n4n]
 have n4n':(n4=nx)→False:=fun e=>by omega
 refine aq (fun q st=>∃ (i:Nat) (s1:List Nat) (ck:Nat),q=p.arrays.length-i∧i≤p.arrays.length∧ab st.env 1=some (.op nx 0)∧ab st.env 3=some (.mp n4)∧ab st.env 32=some (bU p.arrays)∧ab st.env 33=some (.int .i64 p.arrays.length)∧ab st.env 34=some (.int .i64 i)∧af st.heap nx=some (.cells [bU p.arrays,bR p.funcs])∧af st.heap n4=some (.map ((fG [] ((p.arrays.take i).map Ar.name)).map js) s1 ck)∧n4<st.nx∧st.dm=[]) (n:=p.arrays.length) aj
  ⟨0,[],0,rfl,by omega,by simp [ab],by simp [ab],by simp [ab],by simp [ab],by simp [ab],by simp [af,n4n],by simp [af,fG],by simp,rfl⟩ ?_
 rintro q ⟨env,heap,nx',dm⟩ ⟨i,s1,ck,rfl,hi,g1,g3,g32,g33,g34,gx,gm,hnx,hdm⟩
 simp only at g1 g3 g32 g33 g34 gx gm hnx hdm
 subst hdm
 have f1:=wS (i:=i) (by omega)
 have m1:(nx'=nx)=False:=eq_false (by omega)
 have m2:(nx'=n4)=False:=eq_false (by omega)
 by_cases hc:(i:Int)<(p.arrays.length:Int)
 case pos =>
  have hr:=G7 (show i<p.arrays.length by omega)
  generalize p.arrays[i]=r at hr
  have ix:=cO hr
  have re:=dB r
  obtain ⟨s2,ck2,bO⟩:=tw (h:=(nx',AO.cells [.str r.name,.int .i64 r.width,.int .i64 r.len])::(nx',.cells [.str [],.int .i64 0,.int .i64 0])::heap) (b:=n4) (K:=fG [] ((p.arrays.take i).map Ar.name)) (st:=s1) (ck:=ck) (by simp only [af,m2,if_false];exact gm) r.name
  rw [← nE (g:=Ar.name) [] hr] at bO
  simp -implicitDefEqProofs only [RA,aa,zp,↓reduceIte,reduceCtorEq,zq,zr,zs,zt,x9,sm,g1,g3,g32,g33,g34,hc,ix,re,bO,f1]
  refine ⟨p.arrays.length-(i+1),by omega,i+1,s2,ck2,?_⟩
  repeat' apply And.intro
  all_goals first|assumption|rfl|omega|(simp [ab,af, *];done)
 replace gm:af heap n4=some (.map ((fG [] (p.arrays.map Ar.name)).map js) s1 ck):=by
  rw [show p.arrays.take i=p.arrays from Ha (by omega)] at gm;exact gm
 simp -implicitDefEqProofs only [RA,aa,zp,↓reduceIte,reduceCtorEq,zq,zr,zs,zt,x9,sm,g1,g3,g32,g33,g34,hc,gx,lf]
 clear g32 g33 g34 hc f1 m1 m2
 refine aq (fun q st=>∃ (i:Nat) (s1:List Nat) (ck:Nat),q=p.funcs.length-i∧i≤p.funcs.length∧ab st.env 1=some (.op nx 0)∧ab st.env 3=some (.mp n4)∧ab st.env 43=some (bR p.funcs)∧ab st.env 44=some (.int .i64 p.funcs.length)∧ab st.env 45=some (.int .i64 i)∧af st.heap nx=some (.cells [bU p.arrays,bR p.funcs])∧af st.heap n4=some (.map ((fG (fG [] (p.arrays.map Ar.name)) ((p.funcs.take i).map Fu.name)).map js) s1 ck)∧n4<st.nx∧st.dm=[]) (n:=p.funcs.length) aj
  ⟨0,s1,ck,rfl,by omega,by simp [ab,g1],by simp [ab,g3],by simp [ab],by simp [ab],by simp [ab],gx,by simpa [fG] using gm,hnx,rfl⟩ ?_
 clear g1 g3 gx gm hnx hi env heap nx' i s1 ck
 rintro q ⟨env,heap,nx',dm⟩ ⟨i,s1,ck,rfl,hi,g1,g3,g43,g44,g45,gx,gm,hnx,hdm⟩
 simp only at g1 g3 g43 g44 g45 gx gm hnx hdm
 subst hdm
 have f1:=wS (i:=i) (by omega)
 have m1:(nx'=nx)=False:=eq_false (by omega)
 have m2:(nx'=n4)=False:=eq_false (by omega)
 by_cases hc:(i:Int)<(p.funcs.length:Int)
 case pos =>
  have hr:=G7 (show i<p.funcs.length by omega)
  generalize p.funcs[i]=r at hr
  have ix:=cJ hr
  have re:=dG r
  obtain ⟨s2,ck2,bO⟩:=tw (h:=(nx',AO.cells [.str r.name,bw r.params,.int .i64 r.result,ay r.body])::(nx',.cells [.str [],.nilS,.int .i64 0,.nilS])::heap) (b:=n4) (K:=fG (fG [] (p.arrays.map Ar.name)) ((p.funcs.take i).map Fu.name)) (st:=s1) (ck:=ck) (by simp only [af,m2,if_false];exact gm) r.name
  rw [← nE (g:=Fu.name) _ hr] at bO
  simp -implicitDefEqProofs only [RA,aa,zp,↓reduceIte,reduceCtorEq,zq,zr,zs,zt,tZ,pr,g1,g3,g43,g44,g45,hc,ix,re,bO,f1,↓aY,↓aX,↓aB,↓aA]
  refine ⟨p.funcs.length-(i+1),by omega,i+1,s2,ck2,?_⟩
  repeat' apply And.intro
  all_goals first|assumption|rfl|omega|(simp [ab,af, *];done)
 replace gm:af heap n4=some (.map ((fG [] (cR p)).map js) s1 ck):=by
  rw [show p.funcs.take i=p.funcs from Ha (by omega),← qv] at gm;exact gm
 have hmo:jx heap (.mp n4)=some ((fG [] (cR p)).map js):=by simp only [jx,gm]
 have hml:(((fG [] (cR p)).map js).length:Int)=((fG [] (cR p)).length:Int):=by rw [He]
 have a1:IntKind.i64.wrap ((p.arrays.length:Int)+(p.funcs.length:Int))=((cR p).length:Int):=by
  rw [w64 (by omega) (by omega)];simp [cR]
 have hdup:=wU (cR p)
 rcases ah (((fG [] (cR p)).length:Int)<((cR p).length:Int)) with ⟨d2',d2⟩|⟨d2',d2⟩
 case inl =>
  rw [if_neg (hdup.1 (by omega))] at hR
  simp -implicitDefEqProofs only [RA,aa,zp,↓reduceIte,reduceCtorEq,zq,zr,zs,zt,tZ,pr,g1,g3,g43,g44,g45,hc,gx,la,lf,hmo,hml,a1,d2,hR,R40]
 have hnd:(cR p).Nodup:=Classical.byContradiction fun hn=>d2' (by have:=hdup.2 hn;omega)
 rw [if_pos hnd] at hR
 simp -implicitDefEqProofs only [RA,aa,zp,↓reduceIte,reduceCtorEq,zq,zr,zs,zt,tZ,pr,g1,g3,g43,g44,g45,hc,gx,la,lf,hmo,hml,a1,d2]
 clear g43 g44 g45 hc f1 m1 m2 gm hmo g3
 refine aq (fun q st=>∃ (i:Nat),q=p.funcs.length-i∧i≤p.funcs.length∧R=fsE p (p.funcs.drop i)∧ab st.env 1=some (.op nx 0)∧ab st.env 64=some (bR p.funcs)∧ab st.env 65=some (.int .i64 p.funcs.length)∧ab st.env 66=some (.int .i64 i)∧af st.heap nx=some (.cells [bU p.arrays,bR p.funcs])∧nx<st.nx∧st.dm=[]) (n:=p.funcs.length) aj
  ⟨0,rfl,by omega,hR.symm,by simp [ab,g1],by simp [ab],by simp [ab],by simp [ab],gx,(show nx<nx' by omega),rfl⟩ ?_
 clear g1 gx hnx hi env heap nx' i s1 ck
 rintro q ⟨env,heap,nx',dm⟩ ⟨i,rfl,hi,hRi,g1,g64,g65,g66,gx,hnx,hdm⟩
 simp only at g1 g64 g65 g66 gx hnx hdm
 subst hdm
 have f1:=wS (i:=i) (by omega)
 have m1:(nx'=nx)=False:=eq_false (by omega)
 by_cases hc:(i:Int)<(p.funcs.length:Int)
 case neg =>
  have hd:p.funcs.drop i=[]:=Hb (by omega)
  rw [hd,fsE] at hRi
  simp -implicitDefEqProofs only [RA,aa,zp,↓reduceIte,reduceCtorEq,zq,zr,zs,zt,x8,sk,g1,g64,g65,g66,hc,hRi,R40]
 have hr:=G7 (show i<p.funcs.length by omega)
 generalize p.funcs[i]=r at hr
 have ix:=cJ hr
 have re:=dG r
 have hmem:=G8 hr
 rw [cG hr,fsE] at hRi
 have c14:=w76 p r (by omega) (by omega) (fun g hg=>by have:=o.fp g hg;omega) (by have:=o.fp r hmem;omega) (o.fb r hmem) (jN (hwff r hmem)) ((nx',AO.cells [.str r.name,bw r.params,.int .i64 r.result,ay r.body])::(nx',.cells [.str [],.nilS,.int .i64 0,.nilS])::heap) (nx'+1)
 rw [hpe,re] at c14
 simp -implicitDefEqProofs only [RA,aa,zp,↓reduceIte,reduceCtorEq,zq,zr,zs,zt,x8,sk,g1,g64,g65,g66,hc,ix,re,gx,m1,↓aY,↓aX,↓aB,↓aA]
 refine c14.mono ?_
 rintro y h2 m2 ⟨vv,kn',rfl,ho,_,hm2,hk2⟩
 have gx2:=hk2 nx (.cells [bU p.arrays,bR p.funcs]) (by omega) (by simp only [af,m1,if_false];exact gx)
 rcases ah ((fnW p r).1=0) with ⟨d3',d3⟩|⟨d3',d3⟩
 case inr =>
  rw [if_neg d3'] at hRi
  simp -implicitDefEqProofs only [RA,aa,zp,↓reduceIte,reduceCtorEq,zq,zr,zs,zt,g1,g64,g65,g66,d3,hRi,R40]
 rw [if_pos d3'] at hRi
 simp -implicitDefEqProofs only [RA,aa,zp,↓reduceIte,reduceCtorEq,zq,zr,zs,zt,g1,g64,g65,g66,d3,f1]
 refine ⟨p.funcs.length-(i+1),by omega,i+1,?_⟩
 repeat' apply And.intro
 all_goals first|assumption|rfl|omega|(simp [ab, *];done)
def m6 (s:Nm):List AV:=[.str s]
theorem mu (l:List Nm):∀ z∈l.map m6,z.length=1:=fun z hz=>by
 obtain ⟨r,_,rfl⟩:=List.mem_map.1 hz;rfl
def oZ (L:List Nm) (i:Nat):Prop:=∀ a b x y,a<b→b<i→L[a]?=some x→L[b]?=some y→x≠y
theorem rU {L:List Nm} {i:Nat} (hi:L.length≤i) (h:oZ L i):L.Nodup:=by
 rw [List.Nodup,List.pairwise_iff_getElem]
 intro a b ha hb hab
 exact h a b _ _ hab (by omega) (G7 ha) (G7 hb)
theorem qO {L:List Nm} {i:Nat} {x:Nm} (hx:L[i]?=some x) (h:oZ L i) (hk:∀ a y,a<i→L[a]?=some y→y≠x):oZ L (i+1):=fun a b y z hab hb hy hz=>by
 by_cases e:b=i
 ·subst e
  rw [hx] at hz;injection hz with hz;subst hz
  exact hk a y hab hy
 ·exact h a b y z hab (by omega) hy hz
theorem rV {L:List Nm} {a i:Nat} {x:Nm} (ha:L[a]?=some x) (hi:L[i]?=some x) (hai:a<i):¬ L.Nodup:=fun h=>by
 rw [List.Nodup,List.pairwise_iff_getElem] at h
 have h1:=(G9.1 ha)
 have h2:=(G9.1 hi)
 obtain ⟨ha1,ha2⟩:=h1
 obtain ⟨hi1,hi2⟩:=h2
 exact h a i ha1 hi1 hai (by rw [ha2,hi2])
theorem w25 (p:Pr) (o:OkP p):Pure Tryz.prog 25 [.agg (prE p)] (.int .i64 (ckE p)):=by
 refine Pure.of fun nx=>AC.go aj is25 (by simp) ?_
 have oal:=o.al
 have ofl:=o.fl
 have hpe:=ct p
 rw [hpe]
 have la:=eV p.arrays
 have lf:=cZ p.funcs
 have c30:=w56 p (by omega) (by omega) (wX o)
 rw [hpe] at c30
 obtain ⟨R,hR⟩:∃ R,ckE p=R:=⟨_,rfl⟩
 rw [hR]
 unfold ckE at hR
 simp -implicitDefEqProofs only [RA,aa,zp,↓reduceIte,reduceCtorEq,zq,zr,zs,zt,A25,Gj,la,lf,↓bf,↓bc,↓be,↓ba]
 refine c30.use fun n2 hn2=>?_
 cases hhv:hvP p with
 | true =>
  rw [if_pos hhv] at hR
  simp -implicitDefEqProofs only [RA,aa,zp,↓reduceIte,reduceCtorEq,zq,zr,zs,zt,hR,R25]
 | false =>
 rw [hhv,if_neg (by simp)] at hR
 have c31:=w57 p (fun a ha=>by have:=o.an a ha;omega) (by omega) (by omega) fun f hf=>⟨by have:=o.fn f hf;omega,fun v hv=>by have:=o.pn f hf v hv;omega,by have:=o.fp f hf;omega,BP f.body (by have:=o.fb f hf;have:=cF f.body;have:=bW f.body;omega) fun x hx=>w131 _ x (Nat.le_refl _) (by have:=o.fb f hf;have:=bH hx;have:=mw x;omega) (rh x (by have:=o.fb f hf;have:=bH hx;omega))⟩
 rw [hpe] at c31
 simp -implicitDefEqProofs only [RA,aa,zp,↓reduceIte,reduceCtorEq,zq,zr,zs,zt,la,lf]
 refine c31.use fun n3 hn3=>?_
 cases hwr:wfR p with
 | false =>
  rw [hwr,if_neg (by simp)] at hR
  simp -implicitDefEqProofs only [RA,aa,zp,↓reduceIte,reduceCtorEq,zq,zr,zs,zt,unA,hR,R25]
 | true =>
 rw [if_pos hwr] at hR
 have hwff:∀ x∈p.funcs,wfF x=true:=by
  unfold wfR at hwr
  simp only [HR] at hwr
  exact Hh.1 hwr.1.2
 simp -implicitDefEqProofs only [RA,aa,zp,↓reduceIte,reduceCtorEq,zq,zr,zs,zt,unA]
 refine aq (fun q st=>∃ (i:Nat) (z:AV),q=p.arrays.length-i∧i≤p.arrays.length∧ab st.env 1=some (.op nx 0)∧ab st.env 3=some z∧ab st.env 4=some (.int .i64 i)∧af st.heap nx=some (.cells [bU p.arrays,bR p.funcs])∧aF 9 1 st.heap st.nx z (((p.arrays.take i).map Ar.name).map m6)∧(∀ b,aw z=some b→nx<b)∧nx<st.nx∧st.dm=[]) (n:=p.arrays.length) aj
  ⟨0,.nilS,rfl,by omega,by simp [ab],by simp [ab],by simp [ab],by simp [af],.inl ⟨rfl,rfl⟩,by simp [aw],(show nx<n3 by omega),rfl⟩ ?_
 rintro q ⟨env,heap,nx',dm⟩ ⟨i,z,rfl,hi,g1,g3,g4,gx,ho,hzb,hnx,hdm⟩
 simp only at g1 g3 g4 gx ho hnx hdm
 subst hdm
 have f1:=wS (i:=i) (by omega)
 have hzn:aw z≠some nx:=fun e=>by have:=hzb nx e;omega
 by_cases hc:(i:Int)<(p.arrays.length:Int)
 case pos =>
  have hr:=G7 (show i<p.arrays.length by omega)
  generalize p.arrays[i]=r at hr
  have ix:=cO hr
  have re:=dB r
  have hlt:(p.arrays.take i).length≤p.arrays.length:=by rw [Hf];omega
  obtain ⟨z',h3,n4,ea,ow,hn4,hk3,hb3⟩:=ho.grw (bytes:=16) (ns:=[m6 r.name]) (mu _) (by simp [m6]) (by simp only [He,Hc,Hd];omega) (by simp only [He,Hc,Hd,maxLen];omega)
  have ea':eC 9 1 16 heap nx' z (.lst 1 [[.str r.name]])=some (z',h3,n4):=ea
  simp -implicitDefEqProofs only [RA,aa,zp,↓reduceIte,reduceCtorEq,zq,zr,zs,zt,yo,sE,g1,g3,g4,gx,la,hc,ix,re,ea',f1]
  have how:aF 9 1 h3 n4 z' (((p.arrays.take (i+1)).map Ar.name).map m6):=by
   rw [az hr,Hk,Hk];exact ow
  have gx2:=hk3 nx _ hnx gx hzn
  have hzb2:∀ b,aw z'=some b→nx<b:=fun b hb=>by
   rcases hb3 b hb with h|h
   ·omega
   ·exact hzb b h
  refine ⟨p.arrays.length-(i+1),by omega,i+1,z',?_⟩
  repeat' (first|exact how|apply And.intro)
  all_goals first|assumption|rfl|omega|(simp [ab, *];done)
 rw [show p.arrays.take i=p.arrays from Ha (by omega)] at ho
 simp -implicitDefEqProofs only [RA,aa,zp,↓reduceIte,reduceCtorEq,zq,zr,zs,zt,yo,sE,g1,g3,g4,hc,gx,la]
 clear g4 hc f1
 refine fq (fun q st=>∃ (i:Nat) (z:AV),q=p.funcs.length-i∧i≤p.funcs.length∧ab st.env 1=some (.op nx 0)∧ab st.env 3=some z∧ab st.env 5=some (.int .i64 i)∧af st.heap nx=some (.cells [bU p.arrays,bR p.funcs])∧aF 9 1 st.heap st.nx z ((p.arrays.map Ar.name++(p.funcs.take i).map Fu.name).map m6)∧(∀ b,aw z=some b→nx<b)∧nx<st.nx∧st.dm=[]) 2
  (fun st=>∃ (z:AV),ab st.env 1=some (.op nx 0)∧ab st.env 3=some z∧af st.heap nx=some (.cells [bU p.arrays,bR p.funcs])∧aF 9 1 st.heap st.nx z ((cR p).map m6)∧(∀ b,aw z=some b→nx<b)∧nx<st.nx∧st.dm=[]) (n:=p.funcs.length) aj
  ⟨0,z,rfl,by omega,by simp [ab,g1],by simp [ab,g3],by simp [ab],gx,by simpa using ho,hzb,hnx,rfl⟩ ?_ ?_
 ·clear g1 g3 gx ho hzb hzn hnx hi env heap nx' i z
  rintro q ⟨env,heap,nx',dm⟩ ⟨i,z,rfl,hi,g1,g3,g5,gx,ho,hzb,hnx,hdm⟩
  simp only at g1 g3 g5 gx ho hnx hdm
  subst hdm
  have f1:=wS (i:=i) (by omega)
  have hzn:aw z≠some nx:=fun e=>by have:=hzb nx e;omega
  by_cases hc:(i:Int)<(p.funcs.length:Int)
  case pos =>
   have hr:=G7 (show i<p.funcs.length by omega)
   generalize p.funcs[i]=r at hr
   have ix:=cJ hr
   have re:=dG r
   have hlt:(p.funcs.take i).length≤p.funcs.length:=by rw [Hf];omega
   obtain ⟨z',h3,n4,ea,ow,hn4,hk3,hb3⟩:=ho.grw (bytes:=16) (ns:=[m6 r.name]) (mu _) (by simp [m6]) (by simp only [He,Hj,Hc,Hd];omega) (by simp only [He,Hj,Hc,Hd,maxLen];omega)
   have ea':eC 9 1 16 heap nx' z (.lst 1 [[.str r.name]])=some (z',h3,n4):=ea
   simp -implicitDefEqProofs only [RA,aa,zp,↓reduceIte,reduceCtorEq,zq,zr,zs,zt,cr,cL,cM,cN,yn,sD,g1,g3,g5,gx,lf,hc,ix,re,ea',f1]
   have how:aF 9 1 h3 n4 z' ((p.arrays.map Ar.name++(p.funcs.take (i+1)).map Fu.name).map m6):=by
    have e:p.arrays.map Ar.name++(p.funcs.take (i+1)).map Fu.name=(p.arrays.map Ar.name++(p.funcs.take i).map Fu.name)++[r.name]:=by rw [az hr,Hk,← List.append_assoc];rfl
    rw [e,Hk];exact ow
   have gx2:=hk3 nx _ hnx gx hzn
   have hzb2:∀ b,aw z'=some b→nx<b:=fun b hb=>by
    rcases hb3 b hb with h|h
    ·omega
    ·exact hzb b h
   refine ⟨p.funcs.length-(i+1),by omega,i+1,z',?_⟩
   repeat' (first|exact how|apply And.intro)
   all_goals first|assumption|rfl|omega|(simp [ab, *];done)
  rw [show p.funcs.take i=p.funcs from Ha (by omega)] at ho
  simp -implicitDefEqProofs only [RA,aa,zp,↓reduceIte,reduceCtorEq,zq,zr,zs,zt,cr,cL,cM,cN,yn,sD,g1,g3,g5,hc,gx,lf]
  repeat' (first|exact ho|apply And.intro)
  all_goals first|assumption|rfl|omega|(simp [ab, *];done)
 clear g1 g3 gx ho hzb hzn hnx hi env heap nx' i z
 rintro ⟨env,hp0,nx',dm⟩ ⟨z,g1,g3,gx0,ho,hzb,hnx,hdm⟩
 simp only at g1 g3 gx0 ho hnx hdm
 subst hdm
 obtain ⟨heap,hfz,hk4⟩:=ho.frz2 (mu _)
 have gx:=hk4 nx _ gx0 fun y e=>by
  have:=hzb nx (by rw [e];rfl)
  omega
 refine ⟨3,z,iH (cR p),heap,g3,hfz,?_⟩
 clear hk4 hfz ho hzb gx0 g3
 have ls:=mt (cR p)
 have hnl:(cR p).length=p.arrays.length+p.funcs.length:=by simp [cR]
 simp -implicitDefEqProofs only [RA,aa,zp,↓reduceIte,reduceCtorEq,zq,zr,zs,zt]
 refine aq (fun q st=>∃ (i:Nat),q=(cR p).length-i∧i≤(cR p).length∧oZ (cR p) i∧ab st.env 1=some (.op nx 0)∧ab st.env 3=some (iH (cR p))∧ab st.env 6=some (.int .i64 i)∧af st.heap nx=some (.cells [bU p.arrays,bR p.funcs])∧nx<st.nx∧st.dm=[]) (n:=(cR p).length) aj
  ⟨0,rfl,by omega,fun a b x y h1 h2=>by omega,by simp [ab,g1],by simp [ab],by simp [ab],gx,hnx,rfl⟩ ?_
 clear g1 gx hnx env heap nx'
 rintro q ⟨env,heap,nx',dm⟩ ⟨i,rfl,hi,hap,g1,g3,g6,gx,hnx,hdm⟩
 simp only at g1 g3 g6 gx hnx hdm
 subst hdm
 have f1:=wS (i:=i) (by omega)
 by_cases hc:(i:Int)<((cR p).length:Int)
 case pos =>
  have hr:=G7 (show i<(cR p).length by omega)
  generalize (cR p)[i]=r at hr
  have ix:=jQ hr
  simp -implicitDefEqProofs only [RA,aa,zp,↓reduceIte,reduceCtorEq,zq,zr,zs,zt,ym,sC,g1,g3,g6,ls,hc]
  refine aq (fun q st=>∃ (k:Nat),q=i-k∧k≤i∧(∀ a y,a<k→(cR p)[a]?=some y→y≠r)∧ab st.env 1=some (.op nx 0)∧ab st.env 3=some (iH (cR p))∧ab st.env 6=some (.int .i64 i)∧ab st.env 7=some (.int .i64 k)∧af st.heap nx=some (.cells [bU p.arrays,bR p.funcs])∧nx<st.nx∧st.dm=[]) (n:=i) aj
   ⟨0,rfl,by omega,fun a y h1=>by omega,by simp [ab,g1],by simp [ab,g3],by simp [ab,g6],by simp [ab],gx,hnx,rfl⟩ ?_
  clear g1 g3 g6 gx hnx env heap nx'
  rintro q ⟨env,heap,nx',dm⟩ ⟨k,rfl,hk,hne,g1,g3,g6,g7,gx,hnx,hdm⟩
  simp only at g1 g3 g6 g7 gx hnx hdm
  subst hdm
  have k1:=wS (i:=k) (by omega)
  by_cases hck:(k:Int)<(i:Int)
  case neg =>
   have hap2:=qO hr hap fun a y ha hy=>hne a y (by omega) hy
   simp -implicitDefEqProofs only [RA,aa,zp,↓reduceIte,reduceCtorEq,zq,zr,zs,zt,ua,py,g1,g3,g6,g7,hck,f1]
   refine ⟨(cR p).length-(i+1),by omega,i+1,?_⟩
   repeat' (first|exact hap2|apply And.intro)
   all_goals first|assumption|rfl|omega|(simp [ab, *];done)
  have hr2:=G7 (show k<(cR p).length by omega)
  generalize (cR p)[k]=r2 at hr2
  have ix2:=jQ hr2
  cases hq:(r2==r) with
  | true =>
   have e:=eq_of_beq hq
   subst e
   rw [if_neg (rV hr2 hr (by omega))] at hR
   simp -implicitDefEqProofs only [RA,aa,zp,↓reduceIte,reduceCtorEq,zq,zr,zs,zt,ua,py,g1,g3,g6,g7,hck,ix,ix2,aG,aU,hq,hR,R25]
  | false =>
   have hne2:∀ a y,a<k+1→(cR p)[a]?=some y→y≠r:=fun a y ha hy=>by
    by_cases e:a=k
    ·subst e
     rw [hr2] at hy;injection hy with hy;subst hy
     intro e2;subst e2;simp at hq
    ·exact hne a y (by omega) hy
   simp -implicitDefEqProofs only [RA,aa,zp,↓reduceIte,reduceCtorEq,zq,zr,zs,zt,ua,py,g1,g3,g6,g7,hck,ix,ix2,aG,aU,hq,k1]
   refine ⟨i-(k+1),by omega,k+1,?_⟩
   repeat' (first|exact hne2|apply And.intro)
   all_goals first|assumption|rfl|omega|(simp [ab, *];done)
 have hnd:=rU (by omega) hap
 rw [if_pos hnd] at hR
 simp -implicitDefEqProofs only [RA,aa,zp,↓reduceIte,reduceCtorEq,zq,zr,zs,zt,ym,sC,g1,g3,g6,ls,hc]
 clear g3 g6 hc f1
 refine aq (fun q st=>∃ (i:Nat),q=p.funcs.length-i∧i≤p.funcs.length∧R=fsE p (p.funcs.drop i)∧ab st.env 1=some (.op nx 0)∧ab st.env 8=some (.int .i64 i)∧af st.heap nx=some (.cells [bU p.arrays,bR p.funcs])∧nx<st.nx∧st.dm=[]) (n:=p.funcs.length) aj
  ⟨0,rfl,by omega,hR.symm,by simp [ab,g1],by simp [ab],gx,hnx,rfl⟩ ?_
 clear g1 gx hnx hi hap env heap nx' i
 rintro q ⟨env,heap,nx',dm⟩ ⟨i,rfl,hi,hRi,g1,g8,gx,hnx,hdm⟩
 simp only at g1 g8 gx hnx hdm
 subst hdm
 have f1:=wS (i:=i) (by omega)
 by_cases hc:(i:Int)<(p.funcs.length:Int)
 case neg =>
  have hd:p.funcs.drop i=[]:=Hb (by omega)
  rw [hd,fsE] at hRi
  simp -implicitDefEqProofs only [RA,aa,zp,↓reduceIte,reduceCtorEq,zq,zr,zs,zt,yk,sB,g1,g8,gx,lf,hc,hRi,R25]
 have hr:=G7 (show i<p.funcs.length by omega)
 generalize p.funcs[i]=r at hr
 have hmem:=G8 hr
 rw [cG hr,fsE] at hRi
 have c16:=w49 p i r hr (by omega) (by omega) (fun g hg=>by have:=o.fp g hg;omega) (by have:=o.fp r hmem;omega) (o.fb r hmem) (jN (hwff r hmem)) heap nx'
 rw [hpe] at c16
 simp -implicitDefEqProofs only [RA,aa,zp,↓reduceIte,reduceCtorEq,zq,zr,zs,zt,yk,sB,g1,g8,gx,lf,hc]
 refine c16.mono ?_
 rintro y h2 m2 ⟨vv,kn',rfl,ho,_,hm2,hk2⟩
 have gx2:=hk2 nx _ hnx gx
 rcases ah ((fnW p r).1=0) with ⟨d3',d3⟩|⟨d3',d3⟩
 case inr =>
  rw [if_neg d3'] at hRi
  simp -implicitDefEqProofs only [RA,aa,zp,↓reduceIte,reduceCtorEq,zq,zr,zs,zt,g1,g8,d3,hRi,R25]
 rw [if_pos d3'] at hRi
 simp -implicitDefEqProofs only [RA,aa,zp,↓reduceIte,reduceCtorEq,zq,zr,zs,zt,g1,g8,d3,f1]
 refine ⟨p.funcs.length-(i+1),by omega,i+1,?_⟩
 repeat' apply And.intro
 all_goals first|assumption|rfl|omega|(simp [ab, *];done)
def vaW (p:Pr) (i:Int):Int × List Pm :=
 if ckE p=0 then (if 0≤i∧i<p.funcs.length then (match p.funcs[i.toNat]? with|some f=>(0,(fnW p f).2)|none=>(2,[])) else (2,[])) else (ckE p,[])
def VaP (r:Int × List Pm) (h:Heap) (nx:Nat) (y:AE) (h':Heap) (n':Nat):Prop:=∃ (vv:AV),y=.ret (.tup [vv,.int .i64 r.1])∧aF 64 2 h' n' vv (r.2.map pmE)∧nx≤n'∧(∀ k o,k<nx→af h k=some o→af h' k=some o)
theorem VaP.nil {e:Int} {h h':Heap} {nx n':Nat} (hle:nx≤n') (hk:∀ k o,k<nx→af h k=some o→af h' k=some o):VaP (e,[]) h nx (.ret (.tup [.nilS,.int .i64 e])) h' n':=⟨.nilS,rfl,.inl ⟨rfl,rfl⟩,hle,hk⟩
theorem qw (p:Pr):∀ l:List Fu,fsE p l=0→∀ f∈l,(fnW p f).1=0
 | [],_,f,hf=>by simp at hf
 | g::r,h,f,hf=>by
  rw [fsE] at h
  by_cases hg:(fnW p g).1=0
  ·rw [if_pos hg] at h
   rcases Hl.1 hf with rfl|hf
   ·exact hg
   ·exact qw p r h f hf
  ·rw [if_neg hg] at h;exact absurd h hg
theorem kh {p:Pr} (h:ckE p=0):(∀ f∈p.funcs,wfF f=true)∧∀ f∈p.funcs,(fnW p f).1=0:=by
 unfold ckE at h
 split at h
 ·omega
 split at h
 ·rename_i hw
  split at h
  ·refine ⟨?_,qw p _ h⟩
   unfold wfR at hw
   simp only [HR] at hw
   exact Hh.1 hw.1.2
  ·omega
 ·omega
theorem w36 (p:Pr) (i:Int) (o:OkP p) (h:Heap) (nx:Nat):AC Tryz.prog 36 [.agg (prE p),.int .i64 i] h nx (VaP (vaW p i) h nx):=by
 refine AC.go aj is36 (by simp) ?_
 have oal:=o.al
 have ofl:=o.fl
 have hpe:=ct p
 have c13:=w40 p o
 rw [hpe] at c13 ⊢
 have lf:=cZ p.funcs
 have gk0:∀ k o,k<nx→af h k=some o→af ((nx,AO.cells [bU p.arrays,bR p.funcs])::h) k=some o:=fun k o hk ho=>by rw [ai,if_neg (by omega)];exact ho
 simp -implicitDefEqProofs only [RA,aa,zp,↓reduceIte,reduceCtorEq,zq,zr,zs,zt,A36,F6,lf,↓bf,↓bc,↓be,↓ba]
 refine c13.use fun n2 hn2=>?_
 rcases ah (ckE p=0) with ⟨d1',d1⟩|⟨d1',d1⟩
 case inr =>
  have e1:vaW p i=(ckE p,[]):=by rw [vaW,if_neg d1']
  rw [e1]
  simp -implicitDefEqProofs only [RA,aa,zp,↓reduceIte,reduceCtorEq,zq,zr,zs,zt,d1,lf,R36]
  exact VaP.nil (by omega) gk0
 rcases ah (i<0) with ⟨d2',d2⟩|⟨d2',d2⟩
 case inl =>
  have e1:vaW p i=(2,[]):=by rw [vaW,if_pos d1',if_neg (by omega)]
  rw [e1]
  simp -implicitDefEqProofs only [RA,aa,zp,↓reduceIte,reduceCtorEq,zq,zr,zs,zt,d1,d2,lf,R36]
  exact VaP.nil (by omega) gk0
 rcases ah ((p.funcs.length:Int)≤i) with ⟨d3',d3⟩|⟨d3',d3⟩
 case inl =>
  have e1:vaW p i=(2,[]):=by rw [vaW,if_pos d1',if_neg (by omega)]
  rw [e1]
  simp -implicitDefEqProofs only [RA,aa,zp,↓reduceIte,reduceCtorEq,zq,zr,zs,zt,d1,d2,d3,lf,R36]
  exact VaP.nil (by omega) gk0
 obtain ⟨j,rfl⟩:∃ j:Nat,i=(j:Int):=⟨i.toNat,by omega⟩
 have hr:=G7 (show j<p.funcs.length by omega)
 generalize p.funcs[j]=f at hr
 have hmem:=G8 hr
 obtain ⟨hwf,hfn⟩:=kh d1'
 have ef:=hfn f hmem
 have e1:vaW p j=(0,(fnW p f).2):=by rw [vaW,if_pos d1',if_pos (by omega)];simp [hr]
 rw [e1]
 have ix:=cJ hr
 have re:=dG f
 have c14:=w76 p f (by omega) (by omega) (fun g hg=>by have:=o.fp g hg;omega) (by have:=o.fp f hmem;omega) (o.fb f hmem) (jN (hwf f hmem)) ((nx,AO.cells [bU p.arrays,bR p.funcs])::h) n2
 rw [hpe,re] at c14
 simp -implicitDefEqProofs only [RA,aa,zp,↓reduceIte,reduceCtorEq,zq,zr,zs,zt,d1,d2,d3,lf,ix,re]
 refine c14.mono ?_
 rintro y h2 m2 ⟨vv,kn',rfl,ho,hkn,hm2,hk2⟩
 rw [hkn ef] at ho
 simp -implicitDefEqProofs only [RA,aa,zp,↓reduceIte,reduceCtorEq,zq,zr,zs,zt,ef,R36]
 exact ⟨vv,rfl,ho,by omega,fun k o hk hg=>hk2 k o (by omega) (gk0 k o hk hg)⟩
theorem w23 (p:Pr) (i:Int) (o:OkP p) (h:Heap) (nx:Nat):AC Tryz.prog 23 [.agg (prE p),.int .i64 i] h nx (VaP (vaW p i) h nx):=by
 refine AC.go aj is23 (by simp) ?_
 have oal:=o.al
 have ofl:=o.fl
 have hpe:=ct p
 have c15:=w25 p o
 rw [hpe] at c15 ⊢
 have lf:=cZ p.funcs
 have gk0:∀ k o,k<nx→af h k=some o→af ((nx,AO.cells [bU p.arrays,bR p.funcs])::h) k=some o:=fun k o hk ho=>by rw [ai,if_neg (by omega)];exact ho
 have z2:((2:Int)=0)=False:=eq_false (by omega)
 simp -implicitDefEqProofs only [RA,aa,zp,↓reduceIte,reduceCtorEq,zq,zr,zs,zt,A23,Gl,lf,↓bf,↓bc,↓be,↓ba]
 refine c15.use fun n2 hn2=>?_
 rcases ah (ckE p=0) with ⟨d1',d1⟩|⟨d1',d1⟩
 case inr =>
  have e1:vaW p i=(ckE p,[]):=by rw [vaW,if_neg d1']
  rw [e1]
  simp -implicitDefEqProofs only [RA,aa,zp,↓reduceIte,reduceCtorEq,zq,zr,zs,zt,d1,lf,R23]
  exact VaP.nil (by omega) gk0
 rcases ah (i<0) with ⟨d2',d2⟩|⟨d2',d2⟩
 case inl =>
  have e1:vaW p i=(2,[]):=by rw [vaW,if_pos d1',if_neg (by omega)]
  rw [e1]
  simp -implicitDefEqProofs only [RA,aa,zp,↓reduceIte,reduceCtorEq,zq,zr,zs,zt,d1,d2,lf,z2,R23]
  exact VaP.nil (by omega) gk0
 rcases ah ((p.funcs.length:Int)≤i) with ⟨d3',d3⟩|⟨d3',d3⟩
 case inl =>
  have e1:vaW p i=(2,[]):=by rw [vaW,if_pos d1',if_neg (by omega)]
  rw [e1]
  simp -implicitDefEqProofs only [RA,aa,zp,↓reduceIte,reduceCtorEq,zq,zr,zs,zt,d1,d2,d3,lf,z2,R23]
  exact VaP.nil (by omega) gk0
 obtain ⟨j,rfl⟩:∃ j:Nat,i=(j:Int):=⟨i.toNat,by omega⟩
 have hr:=G7 (show j<p.funcs.length by omega)
 generalize p.funcs[j]=f at hr
 have hmem:=G8 hr
 obtain ⟨hwf,hfn⟩:=kh d1'
 have ef:=hfn f hmem
 have e1:vaW p j=(0,(fnW p f).2):=by rw [vaW,if_pos d1',if_pos (by omega)];simp [hr]
 rw [e1]
 have c16:=w49 p j f hr (by omega) (by omega) (fun g hg=>by have:=o.fp g hg;omega) (by have:=o.fp f hmem;omega) (o.fb f hmem) (jN (hwf f hmem)) ((nx,AO.cells [bU p.arrays,bR p.funcs])::h) n2
 rw [hpe] at c16
 simp -implicitDefEqProofs only [RA,aa,zp,↓reduceIte,reduceCtorEq,zq,zr,zs,zt,d1,d2,d3,lf]
 refine c16.mono ?_
 rintro y h2 m2 ⟨vv,kn',rfl,ho,hkn,hm2,hk2⟩
 rw [hkn ef] at ho
 simp -implicitDefEqProofs only [RA,aa,zp,↓reduceIte,reduceCtorEq,zq,zr,zs,zt,ef,R23]
 exact ⟨vv,rfl,ho,by omega,fun k o hk hg=>hk2 k o (by omega) (gk0 k o hk hg)⟩
theorem oO {p:Pr} {f:Fu}:(fnW p f).2.length≤f.params.length+bS f.body:=by
 have h1:=lH p f.params []
 have h2:=bD p f.result f.body (prW p f.params []).2 false
 have h3:=dD f.body
 have h4:=cF f.body
 simp only [Hd] at h1
 unfold fnW
 split
 ·omega
 ·simp
end Go.Proofs.YtgeieafamocnhaaGreatDoor
