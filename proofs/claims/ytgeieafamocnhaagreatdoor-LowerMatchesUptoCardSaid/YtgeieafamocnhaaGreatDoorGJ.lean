/- Well-formed arrays, functions and programs. -/
import Derived.Test.YtgeieafamocnhaaGreatDoorGI
namespace Go.Proofs.YtgeieafamocnhaaGreatDoor
open List renaming getElem?_eq_getElem → G7, mem_of_getElem? → G8, take_of_length_le → Ha, cons_append → HE
open Option renaming map_some → HN
open Nat renaming le_refl → H4
set_option maxHeartbeats 64000000
open Go Go.Ab Go.Proofs
open Nat renaming reduceEqDiff → zp, reduceAdd → zq, reduceLeDiff → zr, reduceLT → zs, reduceBEq → zt
set_option linter.unusedVariables false
set_option linter.unusedSimpArgs false
set_option maxRecDepth 20000
def oU (x y:Int):Int:=IntKind.i64.wrap ((BitVec.ofInt 64 x &&& BitVec.ofInt 64 y).toNat:Int)
theorem bh (x y:Int):iD .and .i64 x y=some (oU x y):=rfl
def wfA (a:Ar):Bool:=du a.name&&cm a.width&&decide (1<a.width)&&decide (1≤a.len)&&decide (a.len≤64)&&decide (oU a.len (IntKind.i64.wrap (a.len-1))=0)
def wfP (v:Pm):Bool:=du v.1&&cm v.2
def wfF (f:Fu):Bool:=f.params.all wfP&&du f.name&&(decide (f.result=0)||cm f.result)&&f.body.all wfS
theorem dB (a:Ar):arE a=[.str a.name,.int .i64 a.width,.int .i64 a.len]:=rfl
theorem dG (f:Fu):fuE f=[.str f.name,bw f.params,.int .i64 f.result,ay f.body]:=rfl
theorem eu (v:Pm):pmE v=[.str v.1,.int .i64 v.2]:=rfl
theorem ct (p:Pr):prE p=[bU p.arrays,bR p.funcs]:=rfl
theorem w87 (a:Ar) (hn:a.name.length≤100000):Pure Tryz.prog 87 [.agg (arE a)] (.bool (wfA a)):=by
 refine Pure.of fun nx=>AC.go aj is87 (by simp) ?_
 rw [dB]
 cases h1:(du a.name) with
 | false =>
  have ee:wfA a=false:=by simp [wfA,h1]
  simp -implicitDefEqProofs only [RA,aa,zp,↓reduceIte,reduceCtorEq,zq,zr,zs,zt,A87,qU,cj,bh,HN,h1]
  refine (w80 _ hn).use fun n2 _=>?_
  simp -implicitDefEqProofs only [RA,aa,zp,↓reduceIte,reduceCtorEq,zq,zr,zs,zt,cj,bh,HN,h1,ee,R87]
 | true =>
  cases h2:(cm a.width) with
  | false =>
   have ee:wfA a=false:=by simp [wfA,h1,h2]
   simp -implicitDefEqProofs only [RA,aa,zp,↓reduceIte,reduceCtorEq,zq,zr,zs,zt,A87,qU,cj,bh,HN,h1,h2]
   refine (w80 _ hn).use fun n2 _=>?_
   simp -implicitDefEqProofs only [RA,aa,zp,↓reduceIte,reduceCtorEq,zq,zr,zs,zt,cj,bh,HN,h1,h2]
   refine (w78 _).use fun n2 _=>?_
   simp -implicitDefEqProofs only [RA,aa,zp,↓reduceIte,reduceCtorEq,zq,zr,zs,zt,cj,bh,HN,h1,h2,ee,R87]
  | true =>
   rcases ah (1<a.width) with ⟨h3',h3⟩|⟨h3',h3⟩
   case inr =>
    have ee:wfA a=false:=by simp [wfA,h1,h2,h3]
    simp -implicitDefEqProofs only [RA,aa,zp,↓reduceIte,reduceCtorEq,zq,zr,zs,zt,A87,qU,cj,bh,HN,h1,h2,h3]
    refine (w80 _ hn).use fun n2 _=>?_
    simp -implicitDefEqProofs only [RA,aa,zp,↓reduceIte,reduceCtorEq,zq,zr,zs,zt,cj,bh,HN,h1,h2,h3]
    refine (w78 _).use fun n2 _=>?_
    simp -implicitDefEqProofs only [RA,aa,zp,↓reduceIte,reduceCtorEq,zq,zr,zs,zt,cj,bh,HN,h1,h2,h3,ee,R87]
   rcases ah (1≤a.len) with ⟨h4',h4⟩|⟨h4',h4⟩
   case inr =>
    have ee:wfA a=false:=by simp [wfA,h1,h2,h3,h4]
    simp -implicitDefEqProofs only [RA,aa,zp,↓reduceIte,reduceCtorEq,zq,zr,zs,zt,A87,qU,cj,bh,HN,h1,h2,h3,h4]
    refine (w80 _ hn).use fun n2 _=>?_
    simp -implicitDefEqProofs only [RA,aa,zp,↓reduceIte,reduceCtorEq,zq,zr,zs,zt,cj,bh,HN,h1,h2,h3,h4]
    refine (w78 _).use fun n2 _=>?_
    simp -implicitDefEqProofs only [RA,aa,zp,↓reduceIte,reduceCtorEq,zq,zr,zs,zt,cj,bh,HN,h1,h2,h3,h4,ee,R87]
   rcases ah (a.len≤64) with ⟨h5',h5⟩|⟨h5',h5⟩
   case inr =>
    have ee:wfA a=false:=by simp [wfA,h1,h2,h3,h4,h5]
    simp -implicitDefEqProofs only [RA,aa,zp,↓reduceIte,reduceCtorEq,zq,zr,zs,zt,A87,qU,cj,bh,HN,h1,h2,h3,h4,h5]
    refine (w80 _ hn).use fun n2 _=>?_
    simp -implicitDefEqProofs only [RA,aa,zp,↓reduceIte,reduceCtorEq,zq,zr,zs,zt,cj,bh,HN,h1,h2,h3,h4,h5]
    refine (w78 _).use fun n2 _=>?_
    simp -implicitDefEqProofs only [RA,aa,zp,↓reduceIte,reduceCtorEq,zq,zr,zs,zt,cj,bh,HN,h1,h2,h3,h4,h5,ee,R87]
   rcases ah (oU a.len (IntKind.i64.wrap (a.len-1))=0) with ⟨h6',h6⟩|⟨h6',h6⟩
   case inr =>
    have ee:wfA a=false:=by simp [wfA,h1,h2,h3,h4,h5,h6]
    simp -implicitDefEqProofs only [RA,aa,zp,↓reduceIte,reduceCtorEq,zq,zr,zs,zt,A87,qU,cj,bh,HN,h1,h2,h3,h4,h5,h6]
    refine (w80 _ hn).use fun n2 _=>?_
    simp -implicitDefEqProofs only [RA,aa,zp,↓reduceIte,reduceCtorEq,zq,zr,zs,zt,cj,bh,HN,h1,h2,h3,h4,h5,h6]
    refine (w78 _).use fun n2 _=>?_
    simp -implicitDefEqProofs only [RA,aa,zp,↓reduceIte,reduceCtorEq,zq,zr,zs,zt,cj,bh,HN,h1,h2,h3,h4,h5,h6,ee,R87]
   have ee:wfA a=true:=by simp [wfA,h1,h2,h3,h4,h5,h6]
   simp -implicitDefEqProofs only [RA,aa,zp,↓reduceIte,reduceCtorEq,zq,zr,zs,zt,A87,qU,cj,bh,HN,h1,h2,h3,h4,h5,h6]
   refine (w80 _ hn).use fun n2 _=>?_
   simp -implicitDefEqProofs only [RA,aa,zp,↓reduceIte,reduceCtorEq,zq,zr,zs,zt,cj,bh,HN,h1,h2,h3,h4,h5,h6]
   refine (w78 _).use fun n2 _=>?_
   simp -implicitDefEqProofs only [RA,aa,zp,↓reduceIte,reduceCtorEq,zq,zr,zs,zt,cj,bh,HN,h1,h2,h3,h4,h5,h6,ee,R87]
theorem w125 (v:Pm) (hn:v.1.length≤100000):Pure Tryz.prog 125 [.agg (pmE v)] (.bool (wfP v)):=by
 refine Pure.of fun nx=>AC.go aj D3 (by simp) ?_
 rw [eu]
 cases h1:(du v.1) with
 | false =>
  have ee:wfP v=false:=by simp [wfP,h1]
  simp -implicitDefEqProofs only [RA,aa,zp,↓reduceIte,reduceCtorEq,zq,zr,zs,zt,Am,uf,h1]
  refine (w80 _ hn).use fun n2 _=>?_
  simp -implicitDefEqProofs only [RA,aa,zp,↓reduceIte,reduceCtorEq,zq,zr,zs,zt,h1,ee,zW]
 | true =>
  cases h2:(cm v.2) with
  | false =>
   have ee:wfP v=false:=by simp [wfP,h1,h2]
   simp -implicitDefEqProofs only [RA,aa,zp,↓reduceIte,reduceCtorEq,zq,zr,zs,zt,Am,uf,h1,h2]
   refine (w80 _ hn).use fun n2 _=>?_
   simp -implicitDefEqProofs only [RA,aa,zp,↓reduceIte,reduceCtorEq,zq,zr,zs,zt,h1,h2]
   refine (w78 _).use fun n2 _=>?_
   simp -implicitDefEqProofs only [RA,aa,zp,↓reduceIte,reduceCtorEq,zq,zr,zs,zt,h1,h2,ee,zW]
  | true =>
   have ee:wfP v=true:=by simp [wfP,h1,h2]
   simp -implicitDefEqProofs only [RA,aa,zp,↓reduceIte,reduceCtorEq,zq,zr,zs,zt,Am,uf,h1,h2]
   refine (w80 _ hn).use fun n2 _=>?_
   simp -implicitDefEqProofs only [RA,aa,zp,↓reduceIte,reduceCtorEq,zq,zr,zs,zt,h1,h2]
   refine (w78 _).use fun n2 _=>?_
   simp -implicitDefEqProofs only [RA,aa,zp,↓reduceIte,reduceCtorEq,zq,zr,zs,zt,h1,h2,ee,zW]
theorem w89 (f:Fu) (hn:f.name.length≤100000) (hp1:∀ v∈f.params,v.1.length≤100000) (hpl:f.params.length≤4611686018427387904) (hbl:f.body.length≤4611686018427387904) (hb:∀ x∈f.body,Pure Tryz.prog 127 [.agg (smE x)] (.bool (wfS x))):Pure Tryz.prog 89 [.agg (fuE f)] (.bool (wfF f)):=by
 refine Pure.of fun nx=>AC.go aj is89 (by simp) ?_
 rw [dG]
 have c55:=w124 wfP f.params hpl fun x hx=>w125 x (hp1 x hx)
 have c57:=BO wfS f.body hbl hb
 cases h1:(du f.name) with
 | false =>
  have ee:wfF f=false:=by simp [wfF,h1]
  simp -implicitDefEqProofs only [RA,aa,zp,↓reduceIte,reduceCtorEq,zq,zr,zs,zt,A89,qT,↓aY,↓aX,↓aB,↓aA,h1]
  refine c55.use fun n2 _=>?_
  simp -implicitDefEqProofs only [RA,aa,zp,↓reduceIte,reduceCtorEq,zq,zr,zs,zt,↓aY,↓aX,↓aB,↓aA,h1]
  refine (w80 _ hn).use fun n2 _=>?_
  simp -implicitDefEqProofs only [RA,aa,zp,↓reduceIte,reduceCtorEq,zq,zr,zs,zt,↓aY,↓aX,↓aB,↓aA,h1,ee,R89]
 | true =>
  cases h0:(f.params.all wfP) with
  | false =>
   have ee:wfF f=false:=by simp [wfF,h1,h0]
   simp -implicitDefEqProofs only [RA,aa,zp,↓reduceIte,reduceCtorEq,zq,zr,zs,zt,A89,qT,↓aY,↓aX,↓aB,↓aA,h1,h0]
   refine c55.use fun n2 _=>?_
   simp -implicitDefEqProofs only [RA,aa,zp,↓reduceIte,reduceCtorEq,zq,zr,zs,zt,↓aY,↓aX,↓aB,↓aA,h1,h0]
   refine (w80 _ hn).use fun n2 _=>?_
   simp -implicitDefEqProofs only [RA,aa,zp,↓reduceIte,reduceCtorEq,zq,zr,zs,zt,↓aY,↓aX,↓aB,↓aA,h1,h0,ee,R89]
  | true =>
   rcases ah (f.result=0) with ⟨h2',h2⟩|⟨h2',h2⟩
   case inl =>
    cases h4:(f.body.all wfS) with
    | false =>
     have ee:wfF f=false:=by simp [wfF,h1,h0,h2,h4]
     simp -implicitDefEqProofs only [RA,aa,zp,↓reduceIte,reduceCtorEq,zq,zr,zs,zt,A89,qT,↓aY,↓aX,↓aB,↓aA,h1,h0,h2,h4]
     refine c55.use fun n2 _=>?_
     simp -implicitDefEqProofs only [RA,aa,zp,↓reduceIte,reduceCtorEq,zq,zr,zs,zt,↓aY,↓aX,↓aB,↓aA,h1,h0,h2,h4]
     refine (w80 _ hn).use fun n2 _=>?_
     simp -implicitDefEqProofs only [RA,aa,zp,↓reduceIte,reduceCtorEq,zq,zr,zs,zt,↓aY,↓aX,↓aB,↓aA,h1,h0,h2,h4]
     refine c57.use fun n2 _=>?_
     simp -implicitDefEqProofs only [RA,aa,zp,↓reduceIte,reduceCtorEq,zq,zr,zs,zt,↓aY,↓aX,↓aB,↓aA,h1,h0,h2,h4,ee,R89]
    | true =>
     have ee:wfF f=true:=by simp [wfF,h1,h0,h2,h4]
     simp -implicitDefEqProofs only [RA,aa,zp,↓reduceIte,reduceCtorEq,zq,zr,zs,zt,A89,qT,↓aY,↓aX,↓aB,↓aA,h1,h0,h2,h4]
     refine c55.use fun n2 _=>?_
     simp -implicitDefEqProofs only [RA,aa,zp,↓reduceIte,reduceCtorEq,zq,zr,zs,zt,↓aY,↓aX,↓aB,↓aA,h1,h0,h2,h4]
     refine (w80 _ hn).use fun n2 _=>?_
     simp -implicitDefEqProofs only [RA,aa,zp,↓reduceIte,reduceCtorEq,zq,zr,zs,zt,↓aY,↓aX,↓aB,↓aA,h1,h0,h2,h4]
     refine c57.use fun n2 _=>?_
     simp -implicitDefEqProofs only [RA,aa,zp,↓reduceIte,reduceCtorEq,zq,zr,zs,zt,↓aY,↓aX,↓aB,↓aA,h1,h0,h2,h4,ee,R89]
   cases h3:(cm f.result) with
   | false =>
    have ee:wfF f=false:=by simp [wfF,h1,h0,h2,h3]
    simp -implicitDefEqProofs only [RA,aa,zp,↓reduceIte,reduceCtorEq,zq,zr,zs,zt,A89,qT,↓aY,↓aX,↓aB,↓aA,h1,h0,h2,h3]
    refine c55.use fun n2 _=>?_
    simp -implicitDefEqProofs only [RA,aa,zp,↓reduceIte,reduceCtorEq,zq,zr,zs,zt,↓aY,↓aX,↓aB,↓aA,h1,h0,h2,h3]
    refine (w80 _ hn).use fun n2 _=>?_
    simp -implicitDefEqProofs only [RA,aa,zp,↓reduceIte,reduceCtorEq,zq,zr,zs,zt,↓aY,↓aX,↓aB,↓aA,h1,h0,h2,h3]
    refine (w78 _).use fun n2 _=>?_
    simp -implicitDefEqProofs only [RA,aa,zp,↓reduceIte,reduceCtorEq,zq,zr,zs,zt,↓aY,↓aX,↓aB,↓aA,h1,h0,h2,h3,ee,R89]
   | true =>
    cases h4:(f.body.all wfS) with
    | false =>
     have ee:wfF f=false:=by simp [wfF,h1,h0,h2,h3,h4]
     simp -implicitDefEqProofs only [RA,aa,zp,↓reduceIte,reduceCtorEq,zq,zr,zs,zt,A89,qT,↓aY,↓aX,↓aB,↓aA,h1,h0,h2,h3,h4]
     refine c55.use fun n2 _=>?_
     simp -implicitDefEqProofs only [RA,aa,zp,↓reduceIte,reduceCtorEq,zq,zr,zs,zt,↓aY,↓aX,↓aB,↓aA,h1,h0,h2,h3,h4]
     refine (w80 _ hn).use fun n2 _=>?_
     simp -implicitDefEqProofs only [RA,aa,zp,↓reduceIte,reduceCtorEq,zq,zr,zs,zt,↓aY,↓aX,↓aB,↓aA,h1,h0,h2,h3,h4]
     refine (w78 _).use fun n2 _=>?_
     simp -implicitDefEqProofs only [RA,aa,zp,↓reduceIte,reduceCtorEq,zq,zr,zs,zt,↓aY,↓aX,↓aB,↓aA,h1,h0,h2,h3,h4]
     refine c57.use fun n2 _=>?_
     simp -implicitDefEqProofs only [RA,aa,zp,↓reduceIte,reduceCtorEq,zq,zr,zs,zt,↓aY,↓aX,↓aB,↓aA,h1,h0,h2,h3,h4,ee,R89]
    | true =>
     have ee:wfF f=true:=by simp [wfF,h1,h0,h2,h3,h4]
     simp -implicitDefEqProofs only [RA,aa,zp,↓reduceIte,reduceCtorEq,zq,zr,zs,zt,A89,qT,↓aY,↓aX,↓aB,↓aA,h1,h0,h2,h3,h4]
     refine c55.use fun n2 _=>?_
     simp -implicitDefEqProofs only [RA,aa,zp,↓reduceIte,reduceCtorEq,zq,zr,zs,zt,↓aY,↓aX,↓aB,↓aA,h1,h0,h2,h3,h4]
     refine (w80 _ hn).use fun n2 _=>?_
     simp -implicitDefEqProofs only [RA,aa,zp,↓reduceIte,reduceCtorEq,zq,zr,zs,zt,↓aY,↓aX,↓aB,↓aA,h1,h0,h2,h3,h4]
     refine (w78 _).use fun n2 _=>?_
     simp -implicitDefEqProofs only [RA,aa,zp,↓reduceIte,reduceCtorEq,zq,zr,zs,zt,↓aY,↓aX,↓aB,↓aA,h1,h0,h2,h3,h4]
     refine c57.use fun n2 _=>?_
     simp -implicitDefEqProofs only [RA,aa,zp,↓reduceIte,reduceCtorEq,zq,zr,zs,zt,↓aY,↓aX,↓aB,↓aA,h1,h0,h2,h3,h4,ee,R89]
def wfR (p:Pr):Bool:=p.arrays.all wfA&&p.funcs.all wfF&&decide (0<p.funcs.length)
theorem ko {α:Type} {g:α→Bool} {l:List α} {i:Nat} {r:α} (hr:l[i]?=some r) (h:(l.take i).all g=true) (hg:g r=true):(l.take (i+1)).all g=true:=by
 rw [az hr,List.all_append,h];simp [hg]
theorem o0 {α:Type} {g:α→Bool} {l:List α} {i:Nat} (hi:l.length≤i) (h:(l.take i).all g=true):l.all g=true:=by
 rwa [Ha hi] at h
theorem dH {α:Type} {g:α→Bool} {l:List α} {i:Nat} {r:α} (hr:l[i]?=some r) (hg:g r=false):l.all g=false:=by
 rw [List.all_eq_false];exact ⟨r,G8 hr,by simp [hg]⟩
theorem w57 (p:Pr) (ha:∀ a∈p.arrays,a.name.length≤100000) (hal:p.arrays.length≤4611686018427387904) (hfl:p.funcs.length≤4611686018427387904) (hf:∀ f∈p.funcs,f.name.length≤100000∧(∀ v∈f.params,v.1.length≤100000)∧f.params.length≤4611686018427387904∧Pure Tryz.prog 104 [ay f.body] (.bool (f.body.all wfS))):Pure Tryz.prog 57 [.agg (prE p)] (.bool (wfR p)):=by
 refine Pure.of fun nx=>AC.go aj is57 (by simp) ?_
 rw [ct]
 have la:=eV p.arrays
 have lf:=cZ p.funcs
 simp -implicitDefEqProofs only [RA,aa,zp,↓reduceIte,reduceCtorEq,zq,zr,zs,zt,A57,FP,la,lf,↓bf,↓bc,↓be,↓ba]
 refine aq (fun q st=>∃ i:Nat,q=p.arrays.length-i∧i≤p.arrays.length∧(p.arrays.take i).all wfA=true∧ab st.env 1=some (.op nx 0)∧ab st.env 3=some (.int .i64 i)∧af st.heap nx=some (.cells [bU p.arrays,bR p.funcs])∧nx<st.nx∧st.dm=[]) (n:=p.arrays.length) aj
  ⟨0,rfl,by omega,by simp,by simp [ab],by simp [ab],by simp [af],by simp,rfl⟩ ?_
 rintro q ⟨env,heap,nx',dm⟩ ⟨i,rfl,hi,hall,g1,g3,gh,hnx,hdm⟩
 simp only at g1 g3 gh hnx hdm
 subst hdm
 have f1:=wS (i:=i) (by omega)
 have nn:(nx'=nx)=False:=eq_false (by omega)
 by_cases hc:(i:Int)<(p.arrays.length:Int)
 case pos =>
  have hr:=G7 (show i<p.arrays.length by omega)
  generalize p.arrays[i]=a at hr
  have ix:=cO hr
  have hmem:=G8 hr
  have hn:=ha a hmem
  have rl:=oW a
  have rt:=lS a
  have ae:=dB a
  cases h1:(du a.name) with
  | false =>
   have eb:wfA a=false:=by simp [wfA,h1]
   have ee:wfR p=false:=by simp [wfR,dH hr eb]
   simp -implicitDefEqProofs only [RA,aa,zp,↓reduceIte,reduceCtorEq,zq,zr,zs,zt,kv,iA,↓bf,↓bc,↓be,↓ba,cj,bh,HN,unA,g1,g3,gh,nn,la,hc,ix,rl,rt,ae,h1]
   refine (w97 _ hn).use fun n2 _=>?_
   simp -implicitDefEqProofs only [RA,aa,zp,↓reduceIte,reduceCtorEq,zq,zr,zs,zt,cj,bh,HN,unA,g1,g3,gh,nn,la,hc,ix,rl,rt,ae,h1,ee,R57]
  | true =>
   rcases ah (a.width=1) with ⟨h3',h3⟩|⟨h3',h3⟩
   case inl =>
    have eb:wfA a=false:=by simp [wfA,h3']
    have ee:wfR p=false:=by simp [wfR,dH hr eb]
    simp -implicitDefEqProofs only [RA,aa,zp,↓reduceIte,reduceCtorEq,zq,zr,zs,zt,kv,iA,↓bf,↓bc,↓be,↓ba,cj,bh,HN,unA,g1,g3,gh,nn,la,hc,ix,rl,rt,ae,h1,h3]
    refine (w97 _ hn).use fun n2 _=>?_
    simp -implicitDefEqProofs only [RA,aa,zp,↓reduceIte,reduceCtorEq,zq,zr,zs,zt,cj,bh,HN,unA,g1,g3,gh,nn,la,hc,ix,rl,rt,ae,h1,h3,ee,R57]
   cases h2:(cm a.width) with
   | false =>
    have eb:wfA a=false:=by simp [wfA,h2]
    have ee:wfR p=false:=by simp [wfR,dH hr eb]
    simp -implicitDefEqProofs only [RA,aa,zp,↓reduceIte,reduceCtorEq,zq,zr,zs,zt,kv,iA,↓bf,↓bc,↓be,↓ba,cj,bh,HN,unA,g1,g3,gh,nn,la,hc,ix,rl,rt,ae,h1,h3,h2]
    refine (w97 _ hn).use fun n2 _=>?_
    simp -implicitDefEqProofs only [RA,aa,zp,↓reduceIte,reduceCtorEq,zq,zr,zs,zt,cj,bh,HN,unA,g1,g3,gh,nn,la,hc,ix,rl,rt,ae,h1,h3,h2]
    refine (w96 _).use fun n2 _=>?_
    simp -implicitDefEqProofs only [RA,aa,zp,↓reduceIte,reduceCtorEq,zq,zr,zs,zt,cj,bh,HN,unA,g1,g3,gh,nn,la,hc,ix,rl,rt,ae,h1,h3,h2,ee,R57]
   | true =>
    rcases ah (a.len<1) with ⟨h4',h4⟩|⟨h4',h4⟩
    case inl =>
     have eb:wfA a=false:=by simp only [wfA,Bool.and_eq_false_iff,decide_eq_false_iff_not];omega
     have ee:wfR p=false:=by simp [wfR,dH hr eb]
     simp -implicitDefEqProofs only [RA,aa,zp,↓reduceIte,reduceCtorEq,zq,zr,zs,zt,kv,iA,↓bf,↓bc,↓be,↓ba,cj,bh,HN,unA,g1,g3,gh,nn,la,hc,ix,rl,rt,ae,h1,h3,h2,h4]
     refine (w97 _ hn).use fun n2 _=>?_
     simp -implicitDefEqProofs only [RA,aa,zp,↓reduceIte,reduceCtorEq,zq,zr,zs,zt,cj,bh,HN,unA,g1,g3,gh,nn,la,hc,ix,rl,rt,ae,h1,h3,h2,h4]
     refine (w96 _).use fun n2 _=>?_
     simp -implicitDefEqProofs only [RA,aa,zp,↓reduceIte,reduceCtorEq,zq,zr,zs,zt,cj,bh,HN,unA,g1,g3,gh,nn,la,hc,ix,rl,rt,ae,h1,h3,h2,h4,ee,R57]
    rcases ah ((64:Int)<a.len) with ⟨h5',h5⟩|⟨h5',h5⟩
    case inl =>
     have eb:wfA a=false:=by simp only [wfA,Bool.and_eq_false_iff,decide_eq_false_iff_not];omega
     have ee:wfR p=false:=by simp [wfR,dH hr eb]
     simp -implicitDefEqProofs only [RA,aa,zp,↓reduceIte,reduceCtorEq,zq,zr,zs,zt,kv,iA,↓bf,↓bc,↓be,↓ba,cj,bh,HN,unA,g1,g3,gh,nn,la,hc,ix,rl,rt,ae,h1,h3,h2,h4,h5]
     refine (w97 _ hn).use fun n2 _=>?_
     simp -implicitDefEqProofs only [RA,aa,zp,↓reduceIte,reduceCtorEq,zq,zr,zs,zt,cj,bh,HN,unA,g1,g3,gh,nn,la,hc,ix,rl,rt,ae,h1,h3,h2,h4,h5]
     refine (w96 _).use fun n2 _=>?_
     simp -implicitDefEqProofs only [RA,aa,zp,↓reduceIte,reduceCtorEq,zq,zr,zs,zt,cj,bh,HN,unA,g1,g3,gh,nn,la,hc,ix,rl,rt,ae,h1,h3,h2,h4,h5,ee,R57]
    rcases ah (oU a.len (IntKind.i64.wrap (a.len-1))=0) with ⟨h6',h6⟩|⟨h6',h6⟩
    case inr =>
     have eb:wfA a=false:=by simp [wfA,h6]
     have ee:wfR p=false:=by simp [wfR,dH hr eb]
     simp -implicitDefEqProofs only [RA,aa,zp,↓reduceIte,reduceCtorEq,zq,zr,zs,zt,kv,iA,↓bf,↓bc,↓be,↓ba,cj,bh,HN,unA,g1,g3,gh,nn,la,hc,ix,rl,rt,ae,h1,h3,h2,h4,h5,h6]
     refine (w97 _ hn).use fun n2 _=>?_
     simp -implicitDefEqProofs only [RA,aa,zp,↓reduceIte,reduceCtorEq,zq,zr,zs,zt,cj,bh,HN,unA,g1,g3,gh,nn,la,hc,ix,rl,rt,ae,h1,h3,h2,h4,h5,h6]
     refine (w96 _).use fun n2 _=>?_
     simp -implicitDefEqProofs only [RA,aa,zp,↓reduceIte,reduceCtorEq,zq,zr,zs,zt,cj,bh,HN,unA,g1,g3,gh,nn,la,hc,ix,rl,rt,ae,h1,h3,h2,h4,h5,h6,ee,R57]
    have ew:1<a.width:=by simp only [cm,Bool.or_eq_true,decide_eq_true_iff] at h2;omega
    have eb:wfA a=true:=by simp only [wfA,h1,h2,h6,decide_true,Bool.and_true,Bool.true_and,Bool.and_eq_true,decide_eq_true_iff];omega
    simp -implicitDefEqProofs only [RA,aa,zp,↓reduceIte,reduceCtorEq,zq,zr,zs,zt,kv,iA,↓bf,↓bc,↓be,↓ba,cj,bh,HN,unA,g1,g3,gh,nn,la,hc,ix,rl,rt,ae,h1,h3,h2,h4,h5,h6]
    refine (w97 _ hn).use fun n2 _=>?_
    simp -implicitDefEqProofs only [RA,aa,zp,↓reduceIte,reduceCtorEq,zq,zr,zs,zt,cj,bh,HN,unA,g1,g3,gh,nn,la,hc,ix,rl,rt,ae,h1,h3,h2,h4,h5,h6]
    refine (w96 _).use fun n2 _=>?_
    simp -implicitDefEqProofs only [RA,aa,zp,↓reduceIte,reduceCtorEq,zq,zr,zs,zt,cj,bh,HN,unA,g1,g3,gh,nn,la,hc,ix,rl,rt,ae,h1,h3,h2,h4,h5,h6,f1]
    refine ⟨p.arrays.length-(i+1),by omega,i+1,?_⟩
    have hall2:=ko hr hall eb
    repeat' apply And.intro
    all_goals first|assumption|rfl|omega|(simp [ab,af, *];done)
 replace hall:=o0 (by omega) hall
 simp -implicitDefEqProofs only [RA,aa,zp,↓reduceIte,reduceCtorEq,zq,zr,zs,zt,kv,iA,↓bf,↓bc,↓be,↓ba,g1,g3,gh,la,hc]
 clear g3 hc f1 nn
 refine aq (fun q st=>∃ i:Nat,q=p.funcs.length-i∧i≤p.funcs.length∧(p.funcs.take i).all wfF=true∧ab st.env 1=some (.op nx 0)∧ab st.env 5=some (.int .i64 i)∧af st.heap nx=some (.cells [bU p.arrays,bR p.funcs])∧nx<st.nx∧st.dm=[]) (n:=p.funcs.length) aj
  ⟨0,rfl,by omega,by simp,by simp [ab,g1],by simp [ab],gh,hnx,rfl⟩ ?_
 clear g1 gh hnx env heap nx' hi i
 rintro q ⟨env,heap,nx',dm⟩ ⟨i,rfl,hi,hal2,g1,g5,gh,hnx,hdm⟩
 simp only at g1 g5 gh hnx hdm
 subst hdm
 have f1:=wS (i:=i) (by omega)
 have nn:(nx'=nx)=False:=eq_false (by omega)
 by_cases hc:(i:Int)<(p.funcs.length:Int)
 case neg =>
  replace hal2:=o0 (by omega) hal2
  have ee:decide ((0:Int)<(p.funcs.length:Int))=wfR p:=by
   simp only [wfR,hall,hal2,Bool.true_and]
   apply decide_eq_decide.2;omega
  simp -implicitDefEqProofs only [RA,aa,zp,↓reduceIte,reduceCtorEq,zq,zr,zs,zt,x6,si,↓bf,↓bc,↓be,↓ba,g1,g5,gh,lf,hc,ee,R57]
 have hr:=G7 (show i<p.funcs.length by omega)
 generalize p.funcs[i]=f at hr
 have ix:=cJ hr
 have hmem:=G8 hr
 obtain ⟨hn,hp1,hpl,c61⟩:=hf f hmem
 have rl:=mO f
 have rt:=jZ f
 have fe:=dG f
 have lp:=cq f.params
 simp -implicitDefEqProofs only [RA,aa,zp,↓reduceIte,reduceCtorEq,zq,zr,zs,zt,x6,si,↓bf,↓bc,↓be,↓ba,↓aY,↓aX,↓aB,↓aA,g1,g5,gh,lf,hc,ix,rl,rt,fe,nn,lp]
 refine aq (fun q st=>∃ k:Nat,q=f.params.length-k∧k≤f.params.length∧(f.params.take k).all wfP=true∧ab st.env 1=some (.op nx 0)∧ab st.env 5=some (.int .i64 i)∧ab st.env 6=some (.op nx' 0)∧ab st.env 7=some (.int .i64 k)∧af st.heap nx=some (.cells [bU p.arrays,bR p.funcs])∧af st.heap nx'=some (.cells [.str f.name,bw f.params,.int .i64 f.result,ay f.body])∧nx'<st.nx∧st.dm=[]) (n:=f.params.length) aj
  ⟨0,rfl,by omega,by simp,by simp [ab,g1],by simp [ab,g5],by simp [ab],by simp [ab],by simp [af,nn,gh],by simp [af],by simp,rfl⟩ ?_
 clear g1 g5 gh env heap
 rintro q ⟨env,heap,nx2,dm⟩ ⟨k,rfl,hk,hkall,g1,g5,g6,g7,gh,gh2,hnx2,hdm⟩
 simp only at g1 g5 g6 g7 gh gh2 hnx2 hdm
 subst hdm
 have k1:=wS (i:=k) (by omega)
 by_cases hck:(k:Int)<(f.params.length:Int)
 case pos =>
  have hv:=G7 (show k<f.params.length by omega)
  generalize f.params[k]=v at hv
  have iv:=dj hv
  have hvm:=hp1 v (G8 hv)
  have ve:=eu v
  cases h1:(du v.1) with
  | false =>
   have eb:wfP v=false:=by simp [wfP,h1]
   have ee:wfR p=false:=by simp [wfR,dH hr (show wfF f=false by simp [wfF,dH hv eb])]
   simp -implicitDefEqProofs only [RA,aa,zp,↓reduceIte,reduceCtorEq,zq,zr,zs,zt,jB,gL,unA,g1,g5,g6,g7,gh,gh2,lp,hck,iv,ve,h1]
   refine (w97 _ hvm).use fun n2 _=>?_
   simp -implicitDefEqProofs only [RA,aa,zp,↓reduceIte,reduceCtorEq,zq,zr,zs,zt,unA,g1,g5,g6,g7,gh,gh2,lp,hck,iv,ve,h1,ee,R57]
  | true =>
   cases h2:(cm v.2) with
   | false =>
    have eb:wfP v=false:=by simp [wfP,h1,h2]
    have ee:wfR p=false:=by simp [wfR,dH hr (show wfF f=false by simp [wfF,dH hv eb])]
    simp -implicitDefEqProofs only [RA,aa,zp,↓reduceIte,reduceCtorEq,zq,zr,zs,zt,jB,gL,unA,g1,g5,g6,g7,gh,gh2,lp,hck,iv,ve,h1,h2]
    refine (w97 _ hvm).use fun n2 _=>?_
    simp -implicitDefEqProofs only [RA,aa,zp,↓reduceIte,reduceCtorEq,zq,zr,zs,zt,unA,g1,g5,g6,g7,gh,gh2,lp,hck,iv,ve,h1,h2]
    refine (w96 _).use fun n2 _=>?_
    simp -implicitDefEqProofs only [RA,aa,zp,↓reduceIte,reduceCtorEq,zq,zr,zs,zt,unA,g1,g5,g6,g7,gh,gh2,lp,hck,iv,ve,h1,h2,ee,R57]
   | true =>
    have eb:wfP v=true:=by simp [wfP,h1,h2]
    simp -implicitDefEqProofs only [RA,aa,zp,↓reduceIte,reduceCtorEq,zq,zr,zs,zt,jB,gL,unA,g1,g5,g6,g7,gh,gh2,lp,hck,iv,ve,h1,h2]
    refine (w97 _ hvm).use fun n2 _=>?_
    simp -implicitDefEqProofs only [RA,aa,zp,↓reduceIte,reduceCtorEq,zq,zr,zs,zt,unA,g1,g5,g6,g7,gh,gh2,lp,hck,iv,ve,h1,h2]
    refine (w96 _).use fun n2 _=>?_
    simp -implicitDefEqProofs only [RA,aa,zp,↓reduceIte,reduceCtorEq,zq,zr,zs,zt,unA,g1,g5,g6,g7,gh,gh2,lp,hck,iv,ve,h1,h2,k1]
    refine ⟨f.params.length-(k+1),by omega,k+1,?_⟩
    have hall2:=ko hv hkall eb
    repeat' apply And.intro
    all_goals first|assumption|rfl|omega|(simp [ab,af, *];done)
 have h0:=o0 (by omega) hkall
 cases h1:(du f.name) with
 | false =>
  have eb:wfF f=false:=by simp [wfF,h1,h0]
  have ee:wfR p=false:=by simp [wfR,dH hr eb]
  simp -implicitDefEqProofs only [RA,aa,zp,↓reduceIte,reduceCtorEq,zq,zr,zs,zt,jB,gL,unA,g1,g5,g6,g7,gh,gh2,lp,hck,h1]
  refine (w97 _ hn).use fun n2 _=>?_
  simp -implicitDefEqProofs only [RA,aa,zp,↓reduceIte,reduceCtorEq,zq,zr,zs,zt,unA,g1,g5,g6,g7,gh,gh2,lp,hck,h1,ee,R57]
 | true =>
  rcases ah (f.result=0) with ⟨h2',h2⟩|⟨h2',h2⟩
  case inl =>
   cases h4:(f.body.all wfS) with
   | false =>
    have eb:wfF f=false:=by simp [wfF,h1,h2,h4,h0]
    have ee:wfR p=false:=by simp [wfR,dH hr eb]
    simp -implicitDefEqProofs only [RA,aa,zp,↓reduceIte,reduceCtorEq,zq,zr,zs,zt,jB,gL,unA,g1,g5,g6,g7,gh,gh2,lp,hck,h1,h2,h4]
    refine (w97 _ hn).use fun n2 _=>?_
    simp -implicitDefEqProofs only [RA,aa,zp,↓reduceIte,reduceCtorEq,zq,zr,zs,zt,unA,g1,g5,g6,g7,gh,gh2,lp,hck,h1,h2,h4]
    refine c61.use fun n2 _=>?_
    simp -implicitDefEqProofs only [RA,aa,zp,↓reduceIte,reduceCtorEq,zq,zr,zs,zt,unA,g1,g5,g6,g7,gh,gh2,lp,hck,h1,h2,h4,ee,R57]
   | true =>
    have eb:wfF f=true:=by simp [wfF,h1,h2,h4,h0]
    simp -implicitDefEqProofs only [RA,aa,zp,↓reduceIte,reduceCtorEq,zq,zr,zs,zt,jB,gL,unA,g1,g5,g6,g7,gh,gh2,lp,hck,h1,h2,h4]
    refine (w97 _ hn).use fun n2 _=>?_
    simp -implicitDefEqProofs only [RA,aa,zp,↓reduceIte,reduceCtorEq,zq,zr,zs,zt,unA,g1,g5,g6,g7,gh,gh2,lp,hck,h1,h2,h4]
    refine c61.use fun n2 _=>?_
    simp -implicitDefEqProofs only [RA,aa,zp,↓reduceIte,reduceCtorEq,zq,zr,zs,zt,unA,g1,g5,g6,g7,gh,gh2,lp,hck,h1,h2,h4,f1]
    refine ⟨p.funcs.length-(i+1),by omega,i+1,?_⟩
    have hall2:=ko hr hal2 eb
    repeat' apply And.intro
    all_goals first|assumption|rfl|omega|(simp [ab,af, *];done)
  cases h3:(cm f.result) with
  | false =>
   have eb:wfF f=false:=by simp [wfF,h1,h2,h3,h0]
   have ee:wfR p=false:=by simp [wfR,dH hr eb]
   simp -implicitDefEqProofs only [RA,aa,zp,↓reduceIte,reduceCtorEq,zq,zr,zs,zt,jB,gL,unA,g1,g5,g6,g7,gh,gh2,lp,hck,h1,h2,h3]
   refine (w97 _ hn).use fun n2 _=>?_
   simp -implicitDefEqProofs only [RA,aa,zp,↓reduceIte,reduceCtorEq,zq,zr,zs,zt,unA,g1,g5,g6,g7,gh,gh2,lp,hck,h1,h2,h3]
   refine (w96 _).use fun n2 _=>?_
   simp -implicitDefEqProofs only [RA,aa,zp,↓reduceIte,reduceCtorEq,zq,zr,zs,zt,unA,g1,g5,g6,g7,gh,gh2,lp,hck,h1,h2,h3,ee,R57]
  | true =>
   cases h4:(f.body.all wfS) with
   | false =>
    have eb:wfF f=false:=by simp [wfF,h1,h2,h3,h4,h0]
    have ee:wfR p=false:=by simp [wfR,dH hr eb]
    simp -implicitDefEqProofs only [RA,aa,zp,↓reduceIte,reduceCtorEq,zq,zr,zs,zt,jB,gL,unA,g1,g5,g6,g7,gh,gh2,lp,hck,h1,h2,h3,h4]
    refine (w97 _ hn).use fun n2 _=>?_
    simp -implicitDefEqProofs only [RA,aa,zp,↓reduceIte,reduceCtorEq,zq,zr,zs,zt,unA,g1,g5,g6,g7,gh,gh2,lp,hck,h1,h2,h3,h4]
    refine (w96 _).use fun n2 _=>?_
    simp -implicitDefEqProofs only [RA,aa,zp,↓reduceIte,reduceCtorEq,zq,zr,zs,zt,unA,g1,g5,g6,g7,gh,gh2,lp,hck,h1,h2,h3,h4]
    refine c61.use fun n2 _=>?_
    simp -implicitDefEqProofs only [RA,aa,zp,↓reduceIte,reduceCtorEq,zq,zr,zs,zt,unA,g1,g5,g6,g7,gh,gh2,lp,hck,h1,h2,h3,h4,ee,R57]
   | true =>
    have eb:wfF f=true:=by simp [wfF,h1,h2,h3,h4,h0]
    simp -implicitDefEqProofs only [RA,aa,zp,↓reduceIte,reduceCtorEq,zq,zr,zs,zt,jB,gL,unA,g1,g5,g6,g7,gh,gh2,lp,hck,h1,h2,h3,h4]
    refine (w97 _ hn).use fun n2 _=>?_
    simp -implicitDefEqProofs only [RA,aa,zp,↓reduceIte,reduceCtorEq,zq,zr,zs,zt,unA,g1,g5,g6,g7,gh,gh2,lp,hck,h1,h2,h3,h4]
    refine (w96 _).use fun n2 _=>?_
    simp -implicitDefEqProofs only [RA,aa,zp,↓reduceIte,reduceCtorEq,zq,zr,zs,zt,unA,g1,g5,g6,g7,gh,gh2,lp,hck,h1,h2,h3,h4]
    refine c61.use fun n2 _=>?_
    simp -implicitDefEqProofs only [RA,aa,zp,↓reduceIte,reduceCtorEq,zq,zr,zs,zt,unA,g1,g5,g6,g7,gh,gh2,lp,hck,h1,h2,h3,h4,f1]
    refine ⟨p.funcs.length-(i+1),by omega,i+1,?_⟩
    have hall2:=ko hr hal2 eb
    repeat' apply And.intro
    all_goals first|assumption|rfl|omega|(simp [ab,af, *];done)
theorem my (x:Sm):ff x=aL x.body+aL x.els+1:=by cases x;simp [ff,Sm.body,Sm.els]
theorem nU (x:Sm):vars x=bg x.body+bg x.els+(if x.kind=1 then 1 else 0):=by cases x;rw [vars,Sm.body,Sm.els,Sm.kind]
theorem oN (x:Sm):wY x=max (bJ x.body) (bJ x.els)+1:=by cases x;simp [wY,Sm.body,Sm.els]
theorem qp (x:Sm):tG x=(x.exprs.any big||bF x.body||bF x.els):=by cases x;simp [tG,Sm.body,Sm.els,Sm.exprs]
theorem jD:∀ (a b:List Sm),aL (a++b)=aL a+aL b
 | [],b=>by simp [aL]
 | x::a,b=>by simp only [HE,aL,jD a b];omega
theorem nr:∀ (a b:List Sm),bg (a++b)=bg a+bg b
 | [],b=>by simp [bg]
 | x::a,b=>by simp only [HE,bg,nr a b];omega
theorem nF:∀ (a b:List Sm),bJ (a++b)=max (bJ a) (bJ b)
 | [],b=>by simp [bJ]
 | x::a,b=>by simp only [HE,bJ,nF a b];omega
theorem mM:∀ (a b:List Sm),bF (a++b)=(bF a||bF b)
 | [],b=>by simp [bF]
 | x::a,b=>by simp only [HE,bF,mM a b,Bool.or_assoc]
theorem kW {l:List Sm} {i:Nat} {r:Sm} (h:l[i]?=some r):aL (l.take (i+1))=aL (l.take i)+ff r:=by
 rw [az h,jD];simp [aL]
theorem mh {l:List Sm} {i:Nat} {r:Sm} (h:l[i]?=some r):bg (l.take (i+1))=bg (l.take i)+vars r:=by
 rw [az h,nr];simp [bg]
theorem mN {l:List Sm} {i:Nat} {r:Sm} (h:l[i]?=some r):bJ (l.take (i+1))=max (bJ (l.take i)) (wY r):=by
 rw [az h,nF];simp [bJ]
theorem lm {l:List Sm} {i:Nat} {r:Sm} (h:l[i]?=some r):bF (l.take (i+1))=(bF (l.take i)||tG r):=by
 rw [az h,mM];simp [bF]
theorem nt {l:List Sm} (i:Nat):aL (l.take i)≤aL l:=by
 have:=jD (l.take i) (l.drop i)
 rw [List.take_append_drop] at this
 omega
theorem oH:∀ (n:Nat) (x:Sm),ff x≤n→vars x≤ff x∧wY x≤ff x:=by
 intro n
 induction n with
 | zero=>intro x hx;have:=jg x;omega
 | succ n ih =>
  intro x hx
  rw [nU,oN,my] at *
  have key:∀ l:List Sm,aL l≤n→bg l≤aL l∧bJ l≤aL l:=by
   intro l
   induction l with
   | nil=>intro _;simp [bg,bJ]
   | cons y l ihl =>
    intro hl
    simp only [aL,bg,bJ] at hl ⊢
    have:=ih y (by omega)
    have:=ihl (by omega)
    omega
  have h1:=key x.body (by omega)
  have h2:=key x.els (by omega)
  split <;> omega
theorem dD:∀ (l:List Sm),bg l≤aL l∧bJ l≤aL l
 | []=>by simp [bg,bJ]
 | x::l=>by
  have:=dD l
  have:=oH _ x (H4 _)
  simp only [aL,bg,bJ];omega
theorem At {x:Sm} (h:shS x):uH x.exprs∧aN x.exprs≤1152921504606846976∧kD x.body∧kD x.els:=by
 cases x;simp only [shS] at h;exact ⟨h.2.2.1,h.2.2.2.1,h.2.2.2.2.1,h.2.2.2.2.2⟩
theorem oG (a b:Nat):(if (b:Int) > (a:Int) then (b:Int) else (a:Int))=((max a b:Nat):Int):=by split <;> omega
theorem w119:∀ (m:Nat) (l:List Sm),aL l≤m→kD l→∀ (a v hg d b:Nat) (lg:Bool) (h:Heap) (nx:Nat),a+aL l≤4611686018427387904→v≤a→hg≤a→d≤hg→b<nx→af h b=some (.cells [.int .i64 a,.int .i64 v,.int .i64 hg,.bool lg]) →
  AC Tryz.prog 119 [.op b 0,ay l,.int .i64 ((d+1:Nat):Int)] h nx fun y h' n'=>y=.ret (.tup [])∧nx≤n'∧af h' b=some (.cells [.int .i64 ((a+aL l:Nat):Int),.int .i64 ((v+bg l:Nat):Int),.int .i64 ((max hg (d+bJ l):Nat):Int),.bool (lg||bF l)])∧∀ c o,c<nx→c≠b→af h c=some o→af h' c=some o:=by
 intro m
 induction m with
 | zero =>
  intro l hl0 hsh a v hg d b lg h nx hB hv hh hd hb hbc
  have:l.length≤0:=by have:=bW l;omega
  have:l=[]:=List.eq_nil_of_length_eq_zero (by omega)
  subst this
  refine AC.go aj Ay (by simp) ?_
  have lv:=aO []
  have e:(max hg (d+0))=hg:=by omega
  simp -implicitDefEqProofs only [RA,aa,zp,↓reduceIte,reduceCtorEq,zq,zr,zs,zt,C0,yI,lv]
  refine aq (fun q st=>st.heap=h∧nx≤st.nx∧ab st.env 9=some (.int .i64 0)∧ab st.env 10=some (.int .i64 0)∧st.dm=[]) (n:=0) aj ⟨rfl,by simp,by simp [ab],by simp [ab],rfl⟩ ?_
  rintro q ⟨env,heap,nx',dm⟩ ⟨h1,h2,g9,g10,hdm⟩
  simp only at h1 h2 g9 g10 hdm
  subst hdm;subst h1
  simp -implicitDefEqProofs only [RA,aa,zp,↓reduceIte,reduceCtorEq,zq,zr,zs,zt,m5,kA,g9,g10,Int.lt_irrefl,CC]
  exact ⟨h2,by rw [show max hg (d+bJ [])=hg by simp only [bJ];omega];simpa [aL,bg,bF] using hbc,fun c o _ _ hc=>hc⟩
 | succ m ih =>
  intro l hlm hsh a v hg d b lg h nx hB hv hh hd hb hbc
  refine AC.go aj Ay (by simp) ?_
  have lv:=aO l
  have hlen:=bW l
  simp -implicitDefEqProofs only [RA,aa,zp,↓reduceIte,reduceCtorEq,zq,zr,zs,zt,C0,yI,lv]
  refine aq (fun q st=>∃ i:Nat,q=l.length-i∧i≤l.length∧ab st.env 0=some (.op b 0)∧ab st.env 2=some (.int .i64 ((d+1:Nat):Int))∧ab st.env 8=some (ay l)∧ab st.env 9=some (.int .i64 l.length)∧ab st.env 10=some (.int .i64 i)∧af st.heap b=some (.cells [.int .i64 ((a+aL (l.take i):Nat):Int),.int .i64 ((v+bg (l.take i):Nat):Int),.int .i64 ((max hg (d+bJ (l.take i)):Nat):Int),.bool (lg||bF (l.take i))])∧(∀ c o,c<nx→c≠b→af h c=some o→af st.heap c=some o)∧nx≤st.nx∧st.dm=[]) (n:=l.length) aj
   ⟨0,rfl,by omega,by simp [ab],by simp [ab],by simp [ab],by simp [ab],by simp [ab],by rw [show max hg (d+bJ (List.take 0 l))=hg by simp only [List.take_zero,bJ];omega];simpa [aL,bg,bF] using hbc,fun c o _ _ hc=>hc,by simp,rfl⟩ ?_
  rintro q ⟨env,heap,nx',dm⟩ ⟨i,rfl,hi,g0,g2,g8,g9,g10,gb,gk,hnx,hdm⟩
  simp only at g0 g2 g8 g9 g10 gb gk hnx hdm
  subst hdm
  have f1:=wS (i:=i) (by omega)
  by_cases hc:(i:Int)<(l.length:Int)
  case neg =>
   have ht:l.take i=l:=Ha (by omega)
   rw [ht] at gb
   simp -implicitDefEqProofs only [RA,aa,zp,↓reduceIte,reduceCtorEq,zq,zr,zs,zt,m5,kA,g9,g10,hc,CC]
   exact ⟨hnx,gb,gk⟩
  have hr:=G7 (show i<l.length by omega)
  generalize l[i]=s at hr
  have ix:=eQ hr
  have hmem:=G8 hr
  have rl:=iL s
  have rt:=jS s
  have se:=mA s
  have t1:=kW hr
  have t2:=mh hr
  have t3:=mN hr
  have t4:=lm hr
  have t5:=nt (l:=l) (i+1)
  have t6:=dD (l.take i)
  have t7:=oH _ s (H4 _)
  have e1:=my s
  have e2:=nU s
  have e3:=oN s
  have e4:=qp s
  obtain ⟨x1,x2,x3,x4⟩:=At (fN hsh s hmem)
  have m1:=dD s.body
  have m2:=dD s.els
  have nb:(b=nx')=False:=eq_false (by omega)
  have nb':(nx'=b)=False:=eq_false (by omega)
  have c69:∀ (h:Heap) (n:Nat),AC Tryz.prog 116 [aR s.exprs,.fn (.func 37) []] h n fun y h' n'=>y=.ret (.bool (s.exprs.any big))∧h'=h∧n≤n':=fun h n=>Dq big s.exprs h n (by have:=aE s.exprs;omega) fun x hx n' _=>w37 x (by have:=bL hx;omega) h n'
  have a1:IntKind.i64.wrap (((a+aL (l.take i):Nat):Int)+1)=((a+aL (l.take i)+1:Nat):Int):=by rw [w64 (by omega) (by omega)];omega
  have a2:IntKind.i64.wrap (((v+bg (l.take i):Nat):Int)+1)=((v+bg (l.take i)+1:Nat):Int):=by rw [w64 (by omega) (by omega)];omega
  have a3:=oG (max hg (d+bJ (l.take i))) (d+1)
  have a4:IntKind.i64.wrap (((d+1:Nat):Int)+1)=((d+1+1:Nat):Int):=by rw [w64 (by omega) (by omega)];omega
  have fin1:∀ (vv:Nat) (lg2:Bool) (hp:Heap) (n0:Nat),vv=v+bg (l.take i)+(if s.kind=1 then 1 else 0)→lg2=(lg||bF (l.take i)||s.exprs.any big)→nx'<n0→af hp b=some (.cells [.int .i64 ((a+aL (l.take i)+1:Nat):Int),.int .i64 (vv:Int),.int .i64 ((max (max hg (d+bJ (l.take i))) (d+1):Nat):Int),.bool lg2])→AC Tryz.prog 119 [.op b 0,ay s.body,.int .i64 ((d+1+1:Nat):Int)] hp n0 fun y h' n'=>y=.ret (.tup [])∧n0≤n'∧(∃ (v3 g3:Nat) (lg3:Bool),af h' b=some (.cells [.int .i64 ((a+aL (l.take i)+1+aL s.body:Nat):Int),.int .i64 (v3:Int),.int .i64 (g3:Int),.bool lg3])∧AC Tryz.prog 119 [.op b 0,ay s.els,.int .i64 ((d+1+1:Nat):Int)] h' n' fun y h'' n''=>y=.ret (.tup [])∧n'≤n''∧af h'' b=some (.cells [.int .i64 ((a+aL (l.take (i+1)):Nat):Int),.int .i64 ((v+bg (l.take (i+1)):Nat):Int),.int .i64 ((max hg (d+bJ (l.take (i+1))):Nat):Int),.bool (lg||bF (l.take (i+1)))])∧∀ c o,c<n'→c≠b→af h' c=some o→af h'' c=some o)∧∀ c o,c<n0→c≠b→af hp c=some o→af h' c=some o:=by
   intro vv lg2 hp n0 hvv hlg2 hn0 hpb
   refine (ih s.body (by omega) x3 _ _ _ (d+1) b _ hp n0 (by omega) (by split at hvv <;> omega) (by omega) (by omega) (by omega) hpb).mono ?_
   rintro y h' n' ⟨rfl,hn',hb',hk'⟩
   refine ⟨rfl,hn',⟨_,_,_,hb',?_⟩,hk'⟩
   refine (ih s.els (by omega) x4 _ _ _ (d+1) b _ h' n' (by omega) (by split at hvv <;> omega) (by omega) (by omega) (by omega) hb').mono ?_
   rintro y h'' n'' ⟨rfl,hn'',hb'',hk''⟩
   refine ⟨rfl,hn'',?_,hk''⟩
   rw [hb'']
   have q1:a+aL (l.take i)+1+aL s.body+aL s.els=a+aL (l.take (i+1)):=by omega
   have q2:vv+bg s.body+bg s.els=v+bg (l.take (i+1)):=by omega
   have q3:max (max (max (max hg (d+bJ (l.take i))) (d+1)) (d+1+bJ s.body)) (d+1+bJ s.els)=max hg (d+bJ (l.take (i+1))):=by omega
   have q4:(lg2||bF s.body||bF s.els)=(lg||bF (l.take (i+1))):=by
    rw [hlg2,t4,e4];simp only [Bool.or_assoc]
   rw [q1,q2,q3,q4]
  rcases ah (s.kind=1) with ⟨hk',hk⟩|⟨hk',hk⟩
  all_goals
   cases hlg:(lg||bF (l.take i)) with
   | true =>
    simp only [hlg] at gb fin1
    simp -implicitDefEqProofs only [RA,aa,zp,↓reduceIte,reduceCtorEq,zq,zr,zs,zt,m5,kA,g0,g2,g8,g9,g10,gb,hc,ix,rl,rt,se,nb,nb',hk,a1,a2,a3,a4,↓aT,↓aS,↓aB,↓aA]
    refine (fin1 (v+bg (l.take i)+(if s.kind=1 then 1 else 0)) true _ _ rfl (by simp) (by omega) (by simp [af,hk'])).mono ?_
    rintro y h' n' ⟨rfl,hn',⟨v3,g3,lg3,hb',c2⟩,hk1⟩
    have gs:=hk1 nx' _ (by omega) (by omega) (by simp [af,nb];rfl)
    simp -implicitDefEqProofs only [RA,aa,zp,↓reduceIte,reduceCtorEq,zq,zr,zs,zt,g0,g2,g8,g9,g10,gs,hb',a4]
    refine c2.mono ?_
    rintro y h'' n'' ⟨rfl,hn'',hb'',hk2⟩
    simp -implicitDefEqProofs only [RA,aa,zp,↓reduceIte,reduceCtorEq,zq,zr,zs,zt,g10,f1]
    refine ⟨l.length-(i+1),by omega,i+1,rfl,by omega,?_⟩
    have hgk:∀ c o,c<nx→c≠b→af h c=some o→af h'' c=some o:=by
     intro c o hcn hcb hho
     refine hk2 c o (by omega) hcb (hk1 c o (by omega) hcb ?_)
     have q1:b≠c:=fun e=>hcb e.symm
     have q2:nx'≠c:=by omega
     simp [af,q1,q2,gk c o hcn hcb hho]
    repeat' apply And.intro
    all_goals first|assumption|rfl|omega|(simp [ab, *];done)
   | false =>
    simp only [hlg] at gb fin1
    simp -implicitDefEqProofs only [RA,aa,zp,↓reduceIte,reduceCtorEq,zq,zr,zs,zt,m5,kA,g0,g2,g8,g9,g10,gb,hc,ix,rl,rt,se,nb,nb',hk,a1,a2,a3,a4,↓aT,↓aS,↓aB,↓aA]
    refine (c69 _ _).mono ?_
    rintro y h' n0 ⟨rfl,rfl,hn0⟩
    simp -implicitDefEqProofs only [RA,aa,zp,↓reduceIte,reduceCtorEq,zq,zr,zs,zt,g0,g2,g8,g9,g10,gb,hc,ix,rl,rt,se,nb,nb',hk,a1,a2,a3,a4,↓aT,↓aS,↓aB,↓aA]
    refine (fin1 (v+bg (l.take i)+(if s.kind=1 then 1 else 0)) (s.exprs.any big) _ _ rfl (by simp) (by omega) (by simp [af,hk'])).mono ?_
    rintro y h' n' ⟨rfl,hn',⟨v3,g3,lg3,hb',c2⟩,hk1⟩
    have gs:=hk1 nx' _ (by omega) (by omega) (by simp [af,nb];rfl)
    simp -implicitDefEqProofs only [RA,aa,zp,↓reduceIte,reduceCtorEq,zq,zr,zs,zt,g0,g2,g8,g9,g10,gs,hb',a4]
    refine c2.mono ?_
    rintro y h'' n'' ⟨rfl,hn'',hb'',hk2⟩
    simp -implicitDefEqProofs only [RA,aa,zp,↓reduceIte,reduceCtorEq,zq,zr,zs,zt,g10,f1]
    refine ⟨l.length-(i+1),by omega,i+1,rfl,by omega,?_⟩
    have hgk:∀ c o,c<nx→c≠b→af h c=some o→af h'' c=some o:=by
     intro c o hcn hcb hho
     refine hk2 c o (by omega) hcb (hk1 c o (by omega) hcb ?_)
     have q1:b≠c:=fun e=>hcb e.symm
     have q2:nx'≠c:=by omega
     simp [af,q1,q2,gk c o hcn hcb hho]
    repeat' apply And.intro
    all_goals first|assumption|rfl|omega|(simp [ab, *];done)
def hvF (f:Fu):Bool:=decide (8<f.params.length)||decide (40<f.params.length+bg f.body)||decide (100<aL f.body)||decide (8<bJ f.body)||bF f.body
def hvP (p:Pr):Bool:=decide (8<p.arrays.length)||decide (16<p.funcs.length)||p.funcs.any hvF
theorem nq (l:List Sm) (hl:aL l≤4611686018427387904) (hs:kD l) (b:Nat) (h:Heap) (nx:Nat) (hb:b<nx) (hc:af h b=some (.cells [.int .i64 0,.int .i64 0,.int .i64 0,.bool false])) :
  AC Tryz.prog 119 [.op b 0,ay l,.int .i64 1] h nx fun y h' n'=>y=.ret (.tup [])∧nx≤n'∧af h' b=some (.cells [.int .i64 (aL l),.int .i64 (bg l),.int .i64 (bJ l),.bool (bF l)])∧∀ c o,c<nx→c≠b→af h c=some o→af h' c=some o:=by
 have:=w119 _ l (H4 _) hs 0 0 0 0 b false h nx (by omega) (by omega) (by omega) (by omega) hb (by simpa using hc)
 refine this.mono ?_
 rintro y h' n' ⟨h1,h2,h3,h4⟩
 refine ⟨h1,h2,?_,h4⟩
 rw [h3]
 simp
theorem mV {α:Type} {g:α→Bool} {l:List α} {i:Nat} {r:α} (hr:l[i]?=some r) (h:(l.take i).any g=false) (hg:g r=false):(l.take (i+1)).any g=false:=by
 rw [az hr,List.any_append,h];simp [hg]
theorem tQ {α:Type} {g:α→Bool} {l:List α} {i:Nat} (hi:l.length≤i) (h:(l.take i).any g=false):l.any g=false:=by
 rwa [Ha hi] at h
theorem eW {α:Type} {g:α→Bool} {l:List α} {i:Nat} {r:α} (hr:l[i]?=some r) (hg:g r=true):l.any g=true:=by
 rw [List.any_eq_true];exact ⟨r,G8 hr,hg⟩
theorem w85 (p:Pr) (hal:p.arrays.length≤4611686018427387904) (hfl:p.funcs.length≤4611686018427387904) (hf:∀ f∈p.funcs,f.params.length≤1152921504606846976∧aL f.body≤1152921504606846976∧kD f.body):Pure Tryz.prog 85 [.agg (prE p)] (.bool (hvP p)):=by
 refine Pure.of fun nx=>AC.go aj is85 (by simp) ?_
 rw [ct]
 have la:=eV p.arrays
 have lf:=cZ p.funcs
 rcases ah ((8:Int)<(p.arrays.length:Int)) with ⟨b1,d1⟩|⟨b1,d1⟩
 case inl =>
  have ee:hvP p=true:=by simp only [hvP,Bool.or_eq_true,decide_eq_true_iff];omega
  simp -implicitDefEqProofs only [RA,aa,zp,↓reduceIte,reduceCtorEq,zq,zr,zs,zt,A85,Ah,d1,ee,R85,↓bf,↓bc,↓be,↓ba,↓aY,↓aX,↓aB,↓aA,la,lf]
 rcases ah ((16:Int)<(p.funcs.length:Int)) with ⟨b2,d2⟩|⟨b2,d2⟩
 case inl =>
  have ee:hvP p=true:=by simp only [hvP,Bool.or_eq_true,decide_eq_true_iff];omega
  simp -implicitDefEqProofs only [RA,aa,zp,↓reduceIte,reduceCtorEq,zq,zr,zs,zt,A85,Ah,d1,d2,ee,R85,↓bf,↓bc,↓be,↓ba,↓aY,↓aX,↓aB,↓aA,la,lf]
 have c1:decide (8<p.arrays.length)=false:=decide_eq_false_iff_not.2 (by omega)
 have c2:decide (16<p.funcs.length)=false:=decide_eq_false_iff_not.2 (by omega)
 simp -implicitDefEqProofs only [RA,aa,zp,↓reduceIte,reduceCtorEq,zq,zr,zs,zt,A85,Ah,d1,d2,↓bf,↓bc,↓be,↓ba,↓aY,↓aX,↓aB,↓aA,la,lf]
 refine aq (fun q st=>∃ i:Nat,q=p.funcs.length-i∧i≤p.funcs.length∧(p.funcs.take i).any hvF=false∧ab st.env 17=some (bR p.funcs)∧ab st.env 18=some (.int .i64 p.funcs.length)∧ab st.env 19=some (.int .i64 i)∧nx<st.nx∧st.dm=[]) (n:=p.funcs.length) aj
  ⟨0,rfl,by omega,by simp,by simp [ab],by simp [ab],by simp [ab],by simp,rfl⟩ ?_
 rintro q ⟨env,heap,nx',dm⟩ ⟨i,rfl,hi,hany,g17,g18,g19,hnx,hdm⟩
 simp only at g17 g18 g19 hnx hdm
 subst hdm
 have f1:=wS (i:=i) (by omega)
 have nn:(nx'=nx)=False:=eq_false (by omega)
 have nn1:(nx'+1=nx)=False:=eq_false (by omega)
 have nn2:(nx'+1=nx')=False:=eq_false (by omega)
 by_cases hc:(i:Int)<(p.funcs.length:Int)
 case neg =>
  replace hany:=tQ (by omega) hany
  have ee:hvP p=false:=by simp [hvP,c1,c2,hany]
  simp -implicitDefEqProofs only [RA,aa,zp,↓reduceIte,reduceCtorEq,zq,zr,zs,zt,lB,jc,g17,g18,g19,hc,ee,R85,↓bf,↓bc,↓be,↓ba,↓aY,↓aX,↓aB,↓aA,la,lf]
 have hr:=G7 (show i<p.funcs.length by omega)
 generalize p.funcs[i]=f at hr
 have ix:=cJ hr
 have hmem:=G8 hr
 obtain ⟨x1,x2,x3⟩:=hf f hmem
 have rl:=mO f
 have rt:=jZ f
 have fe:=dG f
 have lp:=cq f.params
 have ms:=dD f.body
 have a1:IntKind.i64.wrap ((f.params.length:Int)+(bg f.body:Int))=(f.params.length:Int)+(bg f.body:Int):=by rw [w64 (by omega) (by omega)]
 rcases ah ((8:Int)<(f.params.length:Int)) with ⟨h1',h1⟩|⟨h1',h1⟩
 case inl =>
  have eb:hvF f=true:=by simp only [hvF,Bool.or_eq_true,decide_eq_true_iff];omega
  have ee:hvP p=true:=by simp [hvP,eW hr eb]
  simp -implicitDefEqProofs only [RA,aa,zp,↓reduceIte,reduceCtorEq,zq,zr,zs,zt,lB,jc,nn,nn1,nn2,hc,ix,rl,rt,fe,lp,a1,g17,g18,g19,↓bf,↓bc,↓be,↓ba,↓aY,↓aX,↓aB,↓aA,la,lf,h1]
  refine (nq f.body (by omega) x3 (nx'+1) _ _ (by omega) (by simp [af])).mono ?_
  rintro y h' n' ⟨rfl,hn',hb',hk1⟩
  have gs:=hk1 nx' _ (by omega) (by omega) (by simp [af,nn2];rfl)
  simp -implicitDefEqProofs only [RA,aa,zp,↓reduceIte,reduceCtorEq,zq,zr,zs,zt,nn,nn1,nn2,hc,ix,rl,rt,fe,lp,a1,g17,g18,g19,↓bf,↓bc,↓be,↓ba,↓aY,↓aX,↓aB,↓aA,la,lf,h1,gs,hb',ee,R85]
 rcases ah ((40:Int)<(f.params.length:Int)+(bg f.body:Int)) with ⟨h2',h2⟩|⟨h2',h2⟩
 case inl =>
  have eb:hvF f=true:=by simp only [hvF,Bool.or_eq_true,decide_eq_true_iff];omega
  have ee:hvP p=true:=by simp [hvP,eW hr eb]
  simp -implicitDefEqProofs only [RA,aa,zp,↓reduceIte,reduceCtorEq,zq,zr,zs,zt,lB,jc,nn,nn1,nn2,hc,ix,rl,rt,fe,lp,a1,g17,g18,g19,↓bf,↓bc,↓be,↓ba,↓aY,↓aX,↓aB,↓aA,la,lf,h1,h2]
  refine (nq f.body (by omega) x3 (nx'+1) _ _ (by omega) (by simp [af])).mono ?_
  rintro y h' n' ⟨rfl,hn',hb',hk1⟩
  have gs:=hk1 nx' _ (by omega) (by omega) (by simp [af,nn2];rfl)
  simp -implicitDefEqProofs only [RA,aa,zp,↓reduceIte,reduceCtorEq,zq,zr,zs,zt,nn,nn1,nn2,hc,ix,rl,rt,fe,lp,a1,g17,g18,g19,↓bf,↓bc,↓be,↓ba,↓aY,↓aX,↓aB,↓aA,la,lf,h1,h2,gs,hb',ee,R85]
 rcases ah ((100:Int)<(aL f.body:Int)) with ⟨h3',h3⟩|⟨h3',h3⟩
 case inl =>
  have eb:hvF f=true:=by simp only [hvF,Bool.or_eq_true,decide_eq_true_iff];omega
  have ee:hvP p=true:=by simp [hvP,eW hr eb]
  simp -implicitDefEqProofs only [RA,aa,zp,↓reduceIte,reduceCtorEq,zq,zr,zs,zt,lB,jc,nn,nn1,nn2,hc,ix,rl,rt,fe,lp,a1,g17,g18,g19,↓bf,↓bc,↓be,↓ba,↓aY,↓aX,↓aB,↓aA,la,lf,h1,h2,h3]
  refine (nq f.body (by omega) x3 (nx'+1) _ _ (by omega) (by simp [af])).mono ?_
  rintro y h' n' ⟨rfl,hn',hb',hk1⟩
  have gs:=hk1 nx' _ (by omega) (by omega) (by simp [af,nn2];rfl)
  simp -implicitDefEqProofs only [RA,aa,zp,↓reduceIte,reduceCtorEq,zq,zr,zs,zt,nn,nn1,nn2,hc,ix,rl,rt,fe,lp,a1,g17,g18,g19,↓bf,↓bc,↓be,↓ba,↓aY,↓aX,↓aB,↓aA,la,lf,h1,h2,h3,gs,hb',ee,R85]
 rcases ah ((8:Int)<(bJ f.body:Int)) with ⟨h4',h4⟩|⟨h4',h4⟩
 case inl =>
  have eb:hvF f=true:=by simp only [hvF,Bool.or_eq_true,decide_eq_true_iff];omega
  have ee:hvP p=true:=by simp [hvP,eW hr eb]
  simp -implicitDefEqProofs only [RA,aa,zp,↓reduceIte,reduceCtorEq,zq,zr,zs,zt,lB,jc,nn,nn1,nn2,hc,ix,rl,rt,fe,lp,a1,g17,g18,g19,↓bf,↓bc,↓be,↓ba,↓aY,↓aX,↓aB,↓aA,la,lf,h1,h2,h3,h4]
  refine (nq f.body (by omega) x3 (nx'+1) _ _ (by omega) (by simp [af])).mono ?_
  rintro y h' n' ⟨rfl,hn',hb',hk1⟩
  have gs:=hk1 nx' _ (by omega) (by omega) (by simp [af,nn2];rfl)
  simp -implicitDefEqProofs only [RA,aa,zp,↓reduceIte,reduceCtorEq,zq,zr,zs,zt,nn,nn1,nn2,hc,ix,rl,rt,fe,lp,a1,g17,g18,g19,↓bf,↓bc,↓be,↓ba,↓aY,↓aX,↓aB,↓aA,la,lf,h1,h2,h3,h4,gs,hb',ee,R85]
 cases h5:(bF f.body) with
 | true =>
  have eb:hvF f=true:=by simp only [hvF,Bool.or_eq_true,decide_eq_true_iff];simp [h5]
  have ee:hvP p=true:=by simp [hvP,eW hr eb]
  simp -implicitDefEqProofs only [RA,aa,zp,↓reduceIte,reduceCtorEq,zq,zr,zs,zt,lB,jc,nn,nn1,nn2,hc,ix,rl,rt,fe,lp,a1,g17,g18,g19,↓bf,↓bc,↓be,↓ba,↓aY,↓aX,↓aB,↓aA,la,lf,h1,h2,h3,h4,h5]
  refine (nq f.body (by omega) x3 (nx'+1) _ _ (by omega) (by simp [af])).mono ?_
  rintro y h' n' ⟨rfl,hn',hb',hk1⟩
  have gs:=hk1 nx' _ (by omega) (by omega) (by simp [af,nn2];rfl)
  simp -implicitDefEqProofs only [RA,aa,zp,↓reduceIte,reduceCtorEq,zq,zr,zs,zt,nn,nn1,nn2,hc,ix,rl,rt,fe,lp,a1,g17,g18,g19,↓bf,↓bc,↓be,↓ba,↓aY,↓aX,↓aB,↓aA,la,lf,h1,h2,h3,h4,h5,gs,hb',ee,R85]
 | false =>
  have eb:hvF f=false:=by simp only [hvF,h5,Bool.or_false,Bool.or_eq_false_iff,decide_eq_false_iff_not];omega
  simp -implicitDefEqProofs only [RA,aa,zp,↓reduceIte,reduceCtorEq,zq,zr,zs,zt,lB,jc,nn,nn1,nn2,hc,ix,rl,rt,fe,lp,a1,g17,g18,g19,↓bf,↓bc,↓be,↓ba,↓aY,↓aX,↓aB,↓aA,la,lf,h1,h2,h3,h4,h5]
  refine (nq f.body (by omega) x3 (nx'+1) _ _ (by omega) (by simp [af])).mono ?_
  rintro y h' n' ⟨rfl,hn',hb',hk1⟩
  have gs:=hk1 nx' _ (by omega) (by omega) (by simp [af,nn2];rfl)
  simp -implicitDefEqProofs only [RA,aa,zp,↓reduceIte,reduceCtorEq,zq,zr,zs,zt,nn,nn1,nn2,hc,ix,rl,rt,fe,lp,a1,g17,g18,g19,↓bf,↓bc,↓be,↓ba,↓aY,↓aX,↓aB,↓aA,la,lf,h1,h2,h3,h4,h5,gs,hb',f1]
  refine ⟨p.funcs.length-(i+1),by omega,i+1,?_⟩
  have hall2:=mV hr hany eb
  repeat' apply And.intro
  all_goals first|assumption|rfl|omega|(simp [ab,af, *];done)
theorem vo {l:List Ex} {i:Nat} {r:Ex} (hr:l[i]?=some r):(l.take (i+1)).any big=((l.take i).any big||big r):=by
 rw [az hr,List.any_append];simp
theorem ur:∀ (m:Nat) (l:List Sm),aL l≤m→aL l≤1152921504606846976→kD l→Pure Tryz.prog 103 [ay l] (.tup [.int .i64 (aL l),.int .i64 (bg l),.int .i64 (bJ l),.bool (bF l)]):=by
 intro m
 induction m with
 | zero =>
  intro l hl0 hB hsh
  have:l.length≤0:=by have:=bW l;omega
  have:l=[]:=List.eq_nil_of_length_eq_zero (by omega)
  subst this
  refine Pure.of fun nx=>AC.go aj AA (by simp) ?_
  have lv:=aO []
  simp -implicitDefEqProofs only [RA,aa,zp,↓reduceIte,reduceCtorEq,zq,zr,zs,zt,C3,yM,lv]
  refine aq (fun q st=>ab st.env 0=some (ay [])∧ab st.env 2=some (.int .i64 0)∧ab st.env 3=some (.int .i64 0)∧ab st.env 4=some (.int .i64 0)∧ab st.env 5=some (.bool false)∧ab st.env 6=some (.int .i64 0)∧st.dm=[]) (n:=0) aj ⟨by simp [ab],by simp [ab],by simp [ab],by simp [ab],by simp [ab],by simp [ab],rfl⟩ ?_
  rintro q ⟨env,heap,nx',dm⟩ ⟨g0,g2,g3,g4,g5,g6,hdm⟩
  simp only at g0 g2 g3 g4 g5 g6 hdm
  subst hdm
  simp -implicitDefEqProofs only [RA,aa,zp,↓reduceIte,reduceCtorEq,zq,zr,zs,zt,pR,l6,g0,g2,g3,g4,g5,g6,lv,Int.lt_irrefl,CH,Int.ofNat_zero,aL,bg,bJ,bF]
 | succ m ih =>
  intro l hlm hB hsh
  refine Pure.of fun nx=>AC.go aj AA (by simp) ?_
  have lv:=aO l
  have hlen:=bW l
  simp -implicitDefEqProofs only [RA,aa,zp,↓reduceIte,reduceCtorEq,zq,zr,zs,zt,C3,yM,lv]
  refine aq (fun q st=>∃ i:Nat,q=l.length-i∧i≤l.length∧ab st.env 0=some (ay l)∧ab st.env 2=some (.int .i64 (aL (l.take i)))∧ab st.env 3=some (.int .i64 (bg (l.take i)))∧ab st.env 4=some (.int .i64 (bJ (l.take i)))∧ab st.env 5=some (.bool (bF (l.take i)))∧ab st.env 6=some (.int .i64 i)∧st.dm=[]) (n:=l.length) aj
   ⟨0,rfl,by omega,by simp [ab],by simp [ab,aL],by simp [ab,bg],by simp [ab,bJ],by simp [ab,bF],by simp [ab],rfl⟩ ?_
  rintro q ⟨env,heap,nx',dm⟩ ⟨i,rfl,hi,g0,g2,g3,g4,g5,g6,hdm⟩
  simp only at g0 g2 g3 g4 g5 g6 hdm
  subst hdm
  have f1:=wS (i:=i) (by omega)
  by_cases hc:(i:Int)<(l.length:Int)
  case neg =>
   have ht:l.take i=l:=Ha (by omega)
   rw [ht] at g2 g3 g4 g5
   simp -implicitDefEqProofs only [RA,aa,zp,↓reduceIte,reduceCtorEq,zq,zr,zs,zt,pR,l6,g0,g2,g3,g4,g5,g6,lv,hc,CH]
  have hr:=G7 (show i<l.length by omega)
  generalize l[i]=s at hr
  have ix:=eQ hr
  have hmem:=G8 hr
  have se:=mA s
  have t1:=kW hr
  have t2:=mh hr
  have t3:=mN hr
  have t4:=lm hr
  have t5:=nt (l:=l) (i+1)
  have t6:=dD (l.take i)
  have t7:=oH _ s (H4 _)
  have e1:=my s
  have e2:=nU s
  have e3:=oN s
  have e4:=qp s
  obtain ⟨x1,x2,x3,x4⟩:=At (fN hsh s hmem)
  have m1:=dD s.body
  have m2:=dD s.els
  have le:=aP s.exprs
  have hle:=aE s.exprs
  have a1:IntKind.i64.wrap ((aL (l.take i):Int)+1)=((aL (l.take i)+1:Nat):Int):=by rw [w64 (by omega) (by omega)];omega
  obtain ⟨vv,hvv⟩:∃ vv:Nat,vv=bg (l.take i)+(if s.kind=1 then 1 else 0):=⟨_,rfl⟩
  have hvb:vv≤bg (l.take i)+1:=by split at hvv <;> omega
  have hvs:vv+(bg s.body+bg s.els)=bg (l.take (i+1)):=by split at hvv <;> simp_all <;> omega
  have p1:IntKind.i64.wrap ((aL s.body:Int)+(aL s.els:Int))=((aL s.body+aL s.els:Nat):Int):=by rw [w64 (by omega) (by omega)];omega
  have p2:IntKind.i64.wrap (((aL (l.take i)+1:Nat):Int)+((aL s.body+aL s.els:Nat):Int))=((aL (l.take (i+1)):Nat):Int):=by rw [w64 (by omega) (by omega)];omega
  have p3:IntKind.i64.wrap ((bg s.body:Int)+(bg s.els:Int))=((bg s.body+bg s.els:Nat):Int):=by rw [w64 (by omega) (by omega)];omega
  have p4:IntKind.i64.wrap ((vv:Int)+((bg s.body+bg s.els:Nat):Int))=((bg (l.take (i+1)):Nat):Int):=by rw [w64 (by omega) (by omega)];omega
  have p5:IntKind.i64.wrap (1+(bJ s.body:Int))=((bJ s.body+1:Nat):Int):=by rw [w64 (by omega) (by omega)];omega
  have p6:IntKind.i64.wrap (1+(bJ s.els:Int))=((bJ s.els+1:Nat):Int):=by rw [w64 (by omega) (by omega)];omega
  have p7:max (max (bJ (l.take i)) (bJ s.body+1)) (bJ s.els+1)=bJ (l.take (i+1)):=by omega
  have hy1:=ih s.body (by omega) (by omega) x3
  have hy2:=ih s.els (by omega) (by omega) x4
  have loop:∀ (env:Env) (heap:Heap) (nx1:Nat) (Q:AX→ASt→Prop),True:=fun _ _ _ _=>trivial
  clear loop
  rcases ah (s.kind=1) with ⟨hk',hk⟩|⟨hk',hk⟩
  all_goals
   first|rw [if_pos hk'] at hvv|rw [if_neg hk'] at hvv
   have a2:IntKind.i64.wrap ((bg (l.take i):Int)+1)=(bg (l.take i)+1:Nat):=by rw [w64 (by omega) (by omega)];omega
   try rw [← hvv] at a2
   first|rw [Nat.add_zero] at hvv;rw [← hvv] at g3|skip
   simp -implicitDefEqProofs only [RA,aa,zp,↓reduceIte,reduceCtorEq,zq,zr,zs,zt,pR,l6,g0,g2,g3,g4,g5,g6,lv,hc,ix,se,hk,a1,a2,le,↓aT,↓aS,↓aB,↓aA]
   refine aq (fun q st=>∃ k:Nat,q=s.exprs.length-k∧k≤s.exprs.length∧ab st.env 0=some (ay l)∧ab st.env 2=some (.int .i64 ((aL (l.take i)+1:Nat):Int))∧ab st.env 3=some (.int .i64 vv)∧ab st.env 4=some (.int .i64 (bJ (l.take i)))∧ab st.env 5=some (.bool (bF (l.take i)||(s.exprs.take k).any big))∧ab st.env 6=some (.int .i64 i)∧ab st.env 7=some (.int .i64 k)∧st.dm=[]) (n:=s.exprs.length) aj
    ⟨0,rfl,by omega,by simp [ab, *],by simp [ab],by simp [ab, *],by simp [ab, *],by simp [ab, *],by simp [ab, *],by simp [ab],rfl⟩ ?_
   clear g0 g2 g3 g4 g5 g6 env heap
   rintro q ⟨env,heap,nx2,dm⟩ ⟨k,rfl,hk2,g0,g2,g3,g4,g5,g6,g7,hdm⟩
   simp only at g0 g2 g3 g4 g5 g6 g7 hdm
   subst hdm
   have k1:=wS (i:=k) (by omega)
   by_cases hck:(k:Int)<(s.exprs.length:Int)
   case pos =>
    have hx:=G7 (show k<s.exprs.length by omega)
    generalize s.exprs[k]=x at hx
    have ixx:=bA hx
    have rl:=bI x
    have rt:=bC x
    have bs:=vo hx
    have hnx:=bL (G8 hx)
    cases hlg:(bF (l.take i)||(s.exprs.take k).any big) with
    | true =>
     have bs2:(bF (l.take i)||(s.exprs.take (k+1)).any big)=true:=by rw [bs,← Bool.or_assoc,hlg];rfl
     clear bs
     simp -implicitDefEqProofs only [RA,aa,zp,↓reduceIte,reduceCtorEq,zq,zr,zs,zt,kU,jq,g0,g2,g3,g4,g5,g6,g7,lv,ix,se,le,hck,hlg,k1,↓aT,↓aS,↓aB,↓aA]
     refine ⟨s.exprs.length-(k+1),by omega,k+1,?_⟩
     repeat' apply And.intro
     all_goals first|assumption|rfl|omega|(simp [ab, *];done)
    | false =>
     have bs2:(bF (l.take i)||(s.exprs.take (k+1)).any big)=big x:=by rw [bs,← Bool.or_assoc,hlg];rfl
     clear bs
     simp -implicitDefEqProofs only [RA,aa,zp,↓reduceIte,reduceCtorEq,zq,zr,zs,zt,kU,jq,g0,g2,g3,g4,g5,g6,g7,lv,ix,se,le,hck,hlg,k1,ixx,rl,rt,↓aT,↓aS,↓aB,↓aA]
     refine (w46 x (by omega)).use fun n1 hn1=>?_
     simp -implicitDefEqProofs only [RA,aa,zp,↓reduceIte,reduceCtorEq,zq,zr,zs,zt,kU,jq,g0,g2,g3,g4,g5,g6,g7,lv,ix,se,le,hck,hlg,k1,ixx,rl,rt,↓aT,↓aS,↓aB,↓aA]
     refine ⟨s.exprs.length-(k+1),by omega,k+1,?_⟩
     repeat' apply And.intro
     all_goals first|assumption|rfl|omega|(simp [ab, *];done)
   have hte:s.exprs.take k=s.exprs:=Ha (by omega)
   rw [hte] at g5
   cases hlg:(bF (l.take i)||s.exprs.any big) with
   | true =>
    have fin:bF (l.take (i+1))=true:=by rw [t4,e4,← Bool.or_assoc,← Bool.or_assoc,hlg];rfl
    clear t4 e4
    simp -implicitDefEqProofs only [RA,aa,zp,↓reduceIte,reduceCtorEq,zq,zr,zs,zt,kU,jq,g0,g2,g3,g4,g5,g6,g7,lv,ix,se,le,hck,hlg,↓aT,↓aS,↓aB,↓aA]
    refine hy1.use fun n1 hn1=>?_
    simp -implicitDefEqProofs only [RA,aa,zp,↓reduceIte,reduceCtorEq,zq,zr,zs,zt,g0,g2,g3,g4,g5,g6,g7,lv,ix,se,le,hck,hlg,↓aT,↓aS,↓aB,↓aA]
    refine hy2.use fun n1 hn1=>?_
    simp -implicitDefEqProofs only [RA,aa,zp,↓reduceIte,reduceCtorEq,zq,zr,zs,zt,g0,g2,g3,g4,g5,g6,g7,lv,ix,se,le,hck,hlg,p1,p2,p3,p4,p5,p6,p7,f1,oG,fin]
    refine ⟨l.length-(i+1),by omega,i+1,?_⟩
    repeat' apply And.intro
    all_goals first|assumption|rfl|omega|(simp [ab, *];done)
   | false =>
    have fe:bF (l.take (i+1))=(bF s.body||bF s.els):=by rw [t4,e4,← Bool.or_assoc,← Bool.or_assoc,hlg];rfl
    clear t4 e4
    simp -implicitDefEqProofs only [RA,aa,zp,↓reduceIte,reduceCtorEq,zq,zr,zs,zt,kU,jq,g0,g2,g3,g4,g5,g6,g7,lv,ix,se,le,hck,hlg,↓aT,↓aS,↓aB,↓aA]
    refine hy1.use fun n1 hn1=>?_
    simp -implicitDefEqProofs only [RA,aa,zp,↓reduceIte,reduceCtorEq,zq,zr,zs,zt,g0,g2,g3,g4,g5,g6,g7,lv,ix,se,le,hck,hlg,↓aT,↓aS,↓aB,↓aA]
    refine hy2.use fun n1 hn1=>?_
    cases hb1:bF s.body with
    | true =>
     rw [hb1,Bool.true_or] at fe
     simp -implicitDefEqProofs only [RA,aa,zp,↓reduceIte,reduceCtorEq,zq,zr,zs,zt,g0,g2,g3,g4,g5,g6,g7,lv,ix,se,le,hck,hlg,p1,p2,p3,p4,p5,p6,p7,f1,oG,hb1,fe]
     refine ⟨l.length-(i+1),by omega,i+1,?_⟩
     repeat' apply And.intro
     all_goals first|assumption|rfl|omega|(simp [ab, *];done)
    | false =>
     rw [hb1,Bool.false_or] at fe
     simp -implicitDefEqProofs only [RA,aa,zp,↓reduceIte,reduceCtorEq,zq,zr,zs,zt,g0,g2,g3,g4,g5,g6,g7,lv,ix,se,le,hck,hlg,p1,p2,p3,p4,p5,p6,p7,f1,oG,hb1,fe]
     refine ⟨l.length-(i+1),by omega,i+1,?_⟩
     repeat' apply And.intro
     all_goals first|assumption|rfl|omega|(simp [ab, *];done)
theorem w56 (p:Pr) (hal:p.arrays.length≤4611686018427387904) (hfl:p.funcs.length≤4611686018427387904) (hf:∀ f∈p.funcs,f.params.length≤1152921504606846976∧aL f.body≤1152921504606846976∧kD f.body):Pure Tryz.prog 56 [.agg (prE p)] (.bool (hvP p)):=by
 refine Pure.of fun nx=>AC.go aj is56 (by simp) ?_
 rw [ct]
 have la:=eV p.arrays
 have lf:=cZ p.funcs
 rcases ah ((8:Int)<(p.arrays.length:Int)) with ⟨b1,d1⟩|⟨b1,d1⟩
 case inl =>
  have ee:hvP p=true:=by simp only [hvP,Bool.or_eq_true,decide_eq_true_iff];omega
  simp -implicitDefEqProofs only [RA,aa,zp,↓reduceIte,reduceCtorEq,zq,zr,zs,zt,A56,Aj,d1,ee,R56,↓bf,↓bc,↓be,↓ba,↓aY,↓aX,↓aB,↓aA,la,lf]
 rcases ah ((16:Int)<(p.funcs.length:Int)) with ⟨b2,d2⟩|⟨b2,d2⟩
 case inl =>
  have ee:hvP p=true:=by simp only [hvP,Bool.or_eq_true,decide_eq_true_iff];omega
  simp -implicitDefEqProofs only [RA,aa,zp,↓reduceIte,reduceCtorEq,zq,zr,zs,zt,A56,Aj,d1,d2,ee,R56,↓bf,↓bc,↓be,↓ba,↓aY,↓aX,↓aB,↓aA,la,lf]
 have c1:decide (8<p.arrays.length)=false:=decide_eq_false_iff_not.2 (by omega)
 have c2:decide (16<p.funcs.length)=false:=decide_eq_false_iff_not.2 (by omega)
 simp -implicitDefEqProofs only [RA,aa,zp,↓reduceIte,reduceCtorEq,zq,zr,zs,zt,A56,Aj,d1,d2,↓bf,↓bc,↓be,↓ba,↓aY,↓aX,↓aB,↓aA,la,lf]
 refine aq (fun q st=>∃ i:Nat,q=p.funcs.length-i∧i≤p.funcs.length∧(p.funcs.take i).any hvF=false∧ab st.env 1=some (.op nx 0)∧ab st.env 3=some (.int .i64 i)∧af st.heap nx=some (.cells [bU p.arrays,bR p.funcs])∧nx<st.nx∧st.dm=[]) (n:=p.funcs.length) aj
  ⟨0,rfl,by omega,by simp,by simp [ab],by simp [ab],by simp [af],by simp,rfl⟩ ?_
 rintro q ⟨env,heap,nx',dm⟩ ⟨i,rfl,hi,hany,g1,g3,gh,hnx,hdm⟩
 simp only at g1 g3 gh hnx hdm
 subst hdm
 have f1:=wS (i:=i) (by omega)
 have nn:(nx'=nx)=False:=eq_false (by omega)
 have nn1:(nx'+1=nx)=False:=eq_false (by omega)
 have nn2:(nx'+1=nx')=False:=eq_false (by omega)
 by_cases hc:(i:Int)<(p.funcs.length:Int)
 case neg =>
  replace hany:=tQ (by omega) hany
  have ee:hvP p=false:=by simp [hvP,c1,c2,hany]
  simp -implicitDefEqProofs only [RA,aa,zp,↓reduceIte,reduceCtorEq,zq,zr,zs,zt,lC,jd,g1,g3,gh,hc,ee,R56,↓bf,↓bc,↓be,↓ba,↓aY,↓aX,↓aB,↓aA,la,lf]
 have hr:=G7 (show i<p.funcs.length by omega)
 generalize p.funcs[i]=f at hr
 have ix:=cJ hr
 have hmem:=G8 hr
 obtain ⟨x1,x2,x3⟩:=hf f hmem
 have rl:=mO f
 have rt:=jZ f
 have fe:=dG f
 have lp:=cq f.params
 have ms:=dD f.body
 have a1:IntKind.i64.wrap ((f.params.length:Int)+(bg f.body:Int))=(f.params.length:Int)+(bg f.body:Int):=by rw [w64 (by omega) (by omega)]
 rcases ah ((8:Int)<(f.params.length:Int)) with ⟨h1',h1⟩|⟨h1',h1⟩
 case inl =>
  have eb:hvF f=true:=by simp only [hvF,Bool.or_eq_true,decide_eq_true_iff];omega
  have ee:hvP p=true:=by simp [hvP,eW hr eb]
  simp -implicitDefEqProofs only [RA,aa,zp,↓reduceIte,reduceCtorEq,zq,zr,zs,zt,lC,jd,nn,nn1,nn2,hc,ix,rl,rt,fe,lp,a1,g1,g3,gh,↓bf,↓bc,↓be,↓ba,↓aY,↓aX,↓aB,↓aA,la,lf,h1]
  refine (ur _ f.body (H4 _) (by omega) x3).use fun n2 hn2=>?_
  simp -implicitDefEqProofs only [RA,aa,zp,↓reduceIte,reduceCtorEq,zq,zr,zs,zt,nn,nn1,nn2,hc,ix,rl,rt,fe,lp,a1,g1,g3,gh,↓bf,↓bc,↓be,↓ba,↓aY,↓aX,↓aB,↓aA,la,lf,h1,ee,R56]
 rcases ah ((40:Int)<(f.params.length:Int)+(bg f.body:Int)) with ⟨h2',h2⟩|⟨h2',h2⟩
 case inl =>
  have eb:hvF f=true:=by simp only [hvF,Bool.or_eq_true,decide_eq_true_iff];omega
  have ee:hvP p=true:=by simp [hvP,eW hr eb]
  simp -implicitDefEqProofs only [RA,aa,zp,↓reduceIte,reduceCtorEq,zq,zr,zs,zt,lC,jd,nn,nn1,nn2,hc,ix,rl,rt,fe,lp,a1,g1,g3,gh,↓bf,↓bc,↓be,↓ba,↓aY,↓aX,↓aB,↓aA,la,lf,h1,h2]
  refine (ur _ f.body (H4 _) (by omega) x3).use fun n2 hn2=>?_
  simp -implicitDefEqProofs only [RA,aa,zp,↓reduceIte,reduceCtorEq,zq,zr,zs,zt,nn,nn1,nn2,hc,ix,rl,rt,fe,lp,a1,g1,g3,gh,↓bf,↓bc,↓be,↓ba,↓aY,↓aX,↓aB,↓aA,la,lf,h1,h2,ee,R56]
 rcases ah ((100:Int)<(aL f.body:Int)) with ⟨h3',h3⟩|⟨h3',h3⟩
 case inl =>
  have eb:hvF f=true:=by simp only [hvF,Bool.or_eq_true,decide_eq_true_iff];omega
  have ee:hvP p=true:=by simp [hvP,eW hr eb]
  simp -implicitDefEqProofs only [RA,aa,zp,↓reduceIte,reduceCtorEq,zq,zr,zs,zt,lC,jd,nn,nn1,nn2,hc,ix,rl,rt,fe,lp,a1,g1,g3,gh,↓bf,↓bc,↓be,↓ba,↓aY,↓aX,↓aB,↓aA,la,lf,h1,h2,h3]
  refine (ur _ f.body (H4 _) (by omega) x3).use fun n2 hn2=>?_
  simp -implicitDefEqProofs only [RA,aa,zp,↓reduceIte,reduceCtorEq,zq,zr,zs,zt,nn,nn1,nn2,hc,ix,rl,rt,fe,lp,a1,g1,g3,gh,↓bf,↓bc,↓be,↓ba,↓aY,↓aX,↓aB,↓aA,la,lf,h1,h2,h3,ee,R56]
 rcases ah ((8:Int)<(bJ f.body:Int)) with ⟨h4',h4⟩|⟨h4',h4⟩
 case inl =>
  have eb:hvF f=true:=by simp only [hvF,Bool.or_eq_true,decide_eq_true_iff];omega
  have ee:hvP p=true:=by simp [hvP,eW hr eb]
  simp -implicitDefEqProofs only [RA,aa,zp,↓reduceIte,reduceCtorEq,zq,zr,zs,zt,lC,jd,nn,nn1,nn2,hc,ix,rl,rt,fe,lp,a1,g1,g3,gh,↓bf,↓bc,↓be,↓ba,↓aY,↓aX,↓aB,↓aA,la,lf,h1,h2,h3,h4]
  refine (ur _ f.body (H4 _) (by omega) x3).use fun n2 hn2=>?_
  simp -implicitDefEqProofs only [RA,aa,zp,↓reduceIte,reduceCtorEq,zq,zr,zs,zt,nn,nn1,nn2,hc,ix,rl,rt,fe,lp,a1,g1,g3,gh,↓bf,↓bc,↓be,↓ba,↓aY,↓aX,↓aB,↓aA,la,lf,h1,h2,h3,h4,ee,R56]
 cases h5:(bF f.body) with
 | true =>
  have eb:hvF f=true:=by simp only [hvF,Bool.or_eq_true,decide_eq_true_iff];simp [h5]
  have ee:hvP p=true:=by simp [hvP,eW hr eb]
  simp -implicitDefEqProofs only [RA,aa,zp,↓reduceIte,reduceCtorEq,zq,zr,zs,zt,lC,jd,nn,nn1,nn2,hc,ix,rl,rt,fe,lp,a1,g1,g3,gh,↓bf,↓bc,↓be,↓ba,↓aY,↓aX,↓aB,↓aA,la,lf,h1,h2,h3,h4,h5]
  refine (ur _ f.body (H4 _) (by omega) x3).use fun n2 hn2=>?_
  simp -implicitDefEqProofs only [RA,aa,zp,↓reduceIte,reduceCtorEq,zq,zr,zs,zt,nn,nn1,nn2,hc,ix,rl,rt,fe,lp,a1,g1,g3,gh,↓bf,↓bc,↓be,↓ba,↓aY,↓aX,↓aB,↓aA,la,lf,h1,h2,h3,h4,h5,ee,R56]
 | false =>
  have eb:hvF f=false:=by simp only [hvF,h5,Bool.or_false,Bool.or_eq_false_iff,decide_eq_false_iff_not];omega
  simp -implicitDefEqProofs only [RA,aa,zp,↓reduceIte,reduceCtorEq,zq,zr,zs,zt,lC,jd,nn,nn1,nn2,hc,ix,rl,rt,fe,lp,a1,g1,g3,gh,↓bf,↓bc,↓be,↓ba,↓aY,↓aX,↓aB,↓aA,la,lf,h1,h2,h3,h4,h5]
  refine (ur _ f.body (H4 _) (by omega) x3).use fun n2 hn2=>?_
  simp -implicitDefEqProofs only [RA,aa,zp,↓reduceIte,reduceCtorEq,zq,zr,zs,zt,nn,nn1,nn2,hc,ix,rl,rt,fe,lp,a1,g1,g3,gh,↓bf,↓bc,↓be,↓ba,↓aY,↓aX,↓aB,↓aA,la,lf,h1,h2,h3,h4,h5,f1]
  refine ⟨p.funcs.length-(i+1),by omega,i+1,?_⟩
  have hall2:=mV hr hany eb
  repeat' apply And.intro
  all_goals first|assumption|rfl|omega|(simp [ab,af, *];done)
end Go.Proofs.YtgeieafamocnhaaGreatDoor
