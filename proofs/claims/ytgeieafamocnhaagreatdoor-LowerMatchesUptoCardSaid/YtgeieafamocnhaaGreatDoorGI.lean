/- Well-formed statements: the reference's own. -/
import Derived.Test.YtgeieafamocnhaaGreatDoorGH
namespace Go.Proofs.YtgeieafamocnhaaGreatDoor
open List renaming getElem?_eq_getElem → G7, mem_of_getElem? → G8, take_of_length_le → Ha
open Bool renaming false_eq_true → HQ
open Int renaming reduceEq → Ie
set_option maxHeartbeats 64000000
open Go Go.Ab Go.Proofs
open Nat renaming reduceEqDiff → zp, reduceAdd → zq, reduceLeDiff → zr, reduceLT → zs, reduceBEq → zt
set_option linter.unusedVariables false
set_option linter.unusedSimpArgs false
set_option maxRecDepth 20000
theorem BD (w:Int) (n f:Nm) (l:List Ex) (b e:List Sm) (hn1:n.length≤100000) (hf1:f.length≤100000) (hB:aN l≤1152921504606846976) (cE:∀ r∈l,Pure Tryz.prog 47 [.agg (exE r)] (.bool (wfE r))) (cB:Pure Tryz.prog 104 [ay b] (.bool (b.all wfS))) (cC:Pure Tryz.prog 104 [ay e] (.bool (e.all wfS))) :
  Pure Tryz.prog 131 [.agg (smE (.mk 1 n f w l b e))] (.bool (wfS (.mk 1 n f w l b e))):=by
 have hsl:=aE l
 have lv:=aP l
 have lb:=aO b
 have lee:=aO e
 refine Pure.of fun nx=>AC.go aj jy (by simp) ?_
 have gq:True:=trivial
 rw [cH]
 simp -implicitDefEqProofs only [RA,aa,zp,↓reduceIte,reduceCtorEq,zq,zr,zs,zt,mZ,je,lv]
 refine aq (fun q st=>∃ i:Nat,q=l.length-i∧i≤l.length∧(l.take i).all wfE=true∧ab st.env 1=some (.op nx 0)∧ab st.env 3=some (.int .i64 i)∧af st.heap nx=some (.cells [.int .u8 1,.str n,.str f,.int .i64 w,aR l,ay b,ay e])∧st.dm=[]) (n:=l.length) aj
  ⟨0,rfl,by omega,by simp,by simp [ab],by simp [ab],by simp [af],rfl⟩ ?_
 rintro q ⟨env,heap,nx',dm⟩ ⟨i,rfl,hi,hall,g1,g3,gh,hdm⟩
 simp only at g1 g3 gh hdm
 subst hdm
 have f1:=wS (i:=i) (by omega)
 by_cases hc:(i:Int)<(l.length:Int)
 case pos =>
  have hr:=G7 (show i<l.length by omega)
  generalize l[i]=r at hr
  have ix:=bA hr
  have hmem:=G8 hr
  have rl:=bI r
  have rt:=bC r
  simp -implicitDefEqProofs only [RA,aa,zp,↓reduceIte,reduceCtorEq,zq,zr,zs,zt,dc,co,g1,g3,gh,lv,hc,ix,rl,rt]
  refine (cE r hmem).use fun n1 hn1=>?_
  cases hw:wfE r with
  | false =>
   have ee:wfS (.mk 1 n f w l b e)=false:=by
    have:l.all wfE=false:=by rw [List.all_eq_false];exact ⟨r,hmem,by simp [hw]⟩
    simp [bQ,this]
   simp -implicitDefEqProofs only [RA,aa,zp,↓reduceIte,reduceCtorEq,zq,zr,zs,zt,g1,g3,gh,hw,unA,ee,eD]
  | true =>
   have hall2:(l.take (i+1)).all wfE=true:=by rw [az hr,List.all_append,hall];simp [hw]
   simp -implicitDefEqProofs only [RA,aa,zp,↓reduceIte,reduceCtorEq,zq,zr,zs,zt,g1,g3,gh,hw,unA,f1]
   refine ⟨l.length-(i+1),by omega,i+1,?_⟩
   repeat' apply And.intro
   all_goals first|assumption|rfl|omega|(simp [ab, *];done)
 have ha:l.all wfE=true:=by
  have ht:l.take i=l:=Ha (by omega)
  rw [ht] at hall;exact hall
 clear cE
 have i0:=aI l 0 0 rfl
 have i1:=aI l 1 1 rfl
 have i2:=aI l 2 2 rfl
 have b0:=aI b 0 0 rfl
 have e0:=aI e 0 0 rfl
 have b1:=dv b
 have e1:=dv e
 have l8:=gP l
 have l9:=gQ l
 cases hba:(b.all wfS)
 rotate_left
 cases hea:(e.all wfS)
 rotate_left
 all_goals rcases ah (b.length=0) with ⟨-,hnb⟩|⟨-,hnb⟩
 all_goals rcases ah (e.length=0) with ⟨-,hne⟩|⟨-,hne⟩
 all_goals
  cases hfe:(f==[])
  rotate_left
  cases hm:(du n)
  rotate_left
  cases hs:(cm w)
  rotate_left
  rcases am (l.length=1) with ⟨-,hl⟩|⟨-,hl⟩
  rotate_left
  all_goals simp -implicitDefEqProofs only [RA,aa,zp,↓reduceIte,reduceCtorEq,zq,zr,zs,zt,dc,co,eD,aG,aU,if_false,Ie,unA,not_false_eq_true,not_true_eq_false,HQ, *]
  all_goals repeat' ((first|refine cB.use fun _ _=>?_|refine cC.use fun _ _=>?_|refine (w97 n hn1).use fun _ _=>?_|refine (w97 f hf1).use fun _ _=>?_|refine (w96 w).use fun _ _=>?_);simp -implicitDefEqProofs only [RA,aa,zp,↓reduceIte,reduceCtorEq,zq,zr,zs,zt,eD,aG,aU,if_false,Ie,unA,not_false_eq_true,not_true_eq_false,HQ, *])
  all_goals simp [bQ,wfM, *]
theorem BC (w:Int) (n f:Nm) (l:List Ex) (b e:List Sm) (hn1:n.length≤100000) (hf1:f.length≤100000) (hB:aN l≤1152921504606846976) (cE:∀ r∈l,Pure Tryz.prog 47 [.agg (exE r)] (.bool (wfE r))) (cB:Pure Tryz.prog 104 [ay b] (.bool (b.all wfS))) (cC:Pure Tryz.prog 104 [ay e] (.bool (e.all wfS))) :
  Pure Tryz.prog 131 [.agg (smE (.mk 2 n f w l b e))] (.bool (wfS (.mk 2 n f w l b e))):=by
 have hsl:=aE l
 have lv:=aP l
 have lb:=aO b
 have lee:=aO e
 refine Pure.of fun nx=>AC.go aj jy (by simp) ?_
 have gq:True:=trivial
 rw [cH]
 simp -implicitDefEqProofs only [RA,aa,zp,↓reduceIte,reduceCtorEq,zq,zr,zs,zt,mZ,je,lv]
 refine aq (fun q st=>∃ i:Nat,q=l.length-i∧i≤l.length∧(l.take i).all wfE=true∧ab st.env 1=some (.op nx 0)∧ab st.env 3=some (.int .i64 i)∧af st.heap nx=some (.cells [.int .u8 2,.str n,.str f,.int .i64 w,aR l,ay b,ay e])∧st.dm=[]) (n:=l.length) aj
  ⟨0,rfl,by omega,by simp,by simp [ab],by simp [ab],by simp [af],rfl⟩ ?_
 rintro q ⟨env,heap,nx',dm⟩ ⟨i,rfl,hi,hall,g1,g3,gh,hdm⟩
 simp only at g1 g3 gh hdm
 subst hdm
 have f1:=wS (i:=i) (by omega)
 by_cases hc:(i:Int)<(l.length:Int)
 case pos =>
  have hr:=G7 (show i<l.length by omega)
  generalize l[i]=r at hr
  have ix:=bA hr
  have hmem:=G8 hr
  have rl:=bI r
  have rt:=bC r
  simp -implicitDefEqProofs only [RA,aa,zp,↓reduceIte,reduceCtorEq,zq,zr,zs,zt,dc,co,g1,g3,gh,lv,hc,ix,rl,rt]
  refine (cE r hmem).use fun n1 hn1=>?_
  cases hw:wfE r with
  | false =>
   have ee:wfS (.mk 2 n f w l b e)=false:=by
    have:l.all wfE=false:=by rw [List.all_eq_false];exact ⟨r,hmem,by simp [hw]⟩
    simp [bQ,this]
   simp -implicitDefEqProofs only [RA,aa,zp,↓reduceIte,reduceCtorEq,zq,zr,zs,zt,g1,g3,gh,hw,unA,ee,eD]
  | true =>
   have hall2:(l.take (i+1)).all wfE=true:=by rw [az hr,List.all_append,hall];simp [hw]
   simp -implicitDefEqProofs only [RA,aa,zp,↓reduceIte,reduceCtorEq,zq,zr,zs,zt,g1,g3,gh,hw,unA,f1]
   refine ⟨l.length-(i+1),by omega,i+1,?_⟩
   repeat' apply And.intro
   all_goals first|assumption|rfl|omega|(simp [ab, *];done)
 have ha:l.all wfE=true:=by
  have ht:l.take i=l:=Ha (by omega)
  rw [ht] at hall;exact hall
 clear cE
 have i0:=aI l 0 0 rfl
 have i1:=aI l 1 1 rfl
 have i2:=aI l 2 2 rfl
 have b0:=aI b 0 0 rfl
 have e0:=aI e 0 0 rfl
 have b1:=dv b
 have e1:=dv e
 have l8:=gP l
 have l9:=gQ l
 cases hba:(b.all wfS)
 rotate_left
 cases hea:(e.all wfS)
 rotate_left
 all_goals rcases ah (b.length=0) with ⟨-,hnb⟩|⟨-,hnb⟩
 all_goals rcases ah (e.length=0) with ⟨-,hne⟩|⟨-,hne⟩
 all_goals
  rcases am (w=0) with ⟨-,hw⟩|⟨-,hw⟩
  rotate_left
  cases hfe:(f==[])
  rotate_left
  cases hm:(du n)
  rotate_left
  rcases am (l.length=1) with ⟨-,hl⟩|⟨-,hl⟩
  rotate_left
  all_goals simp -implicitDefEqProofs only [RA,aa,zp,↓reduceIte,reduceCtorEq,zq,zr,zs,zt,dc,co,eD,aG,aU,if_false,Ie,unA,not_false_eq_true,not_true_eq_false,HQ, *]
  all_goals repeat' ((first|refine cB.use fun _ _=>?_|refine cC.use fun _ _=>?_|refine (w97 n hn1).use fun _ _=>?_|refine (w97 f hf1).use fun _ _=>?_|refine (w96 w).use fun _ _=>?_);simp -implicitDefEqProofs only [RA,aa,zp,↓reduceIte,reduceCtorEq,zq,zr,zs,zt,eD,aG,aU,if_false,Ie,unA,not_false_eq_true,not_true_eq_false,HQ, *])
  all_goals simp [bQ,wfM, *]
theorem BB (w:Int) (n f:Nm) (l:List Ex) (b e:List Sm) (hn1:n.length≤100000) (hf1:f.length≤100000) (hB:aN l≤1152921504606846976) (cE:∀ r∈l,Pure Tryz.prog 47 [.agg (exE r)] (.bool (wfE r))) (cB:Pure Tryz.prog 104 [ay b] (.bool (b.all wfS))) (cC:Pure Tryz.prog 104 [ay e] (.bool (e.all wfS))) :
  Pure Tryz.prog 131 [.agg (smE (.mk 3 n f w l b e))] (.bool (wfS (.mk 3 n f w l b e))):=by
 have hsl:=aE l
 have lv:=aP l
 have lb:=aO b
 have lee:=aO e
 refine Pure.of fun nx=>AC.go aj jy (by simp) ?_
 have gq:True:=trivial
 rw [cH]
 simp -implicitDefEqProofs only [RA,aa,zp,↓reduceIte,reduceCtorEq,zq,zr,zs,zt,mZ,je,lv]
 refine aq (fun q st=>∃ i:Nat,q=l.length-i∧i≤l.length∧(l.take i).all wfE=true∧ab st.env 1=some (.op nx 0)∧ab st.env 3=some (.int .i64 i)∧af st.heap nx=some (.cells [.int .u8 3,.str n,.str f,.int .i64 w,aR l,ay b,ay e])∧st.dm=[]) (n:=l.length) aj
  ⟨0,rfl,by omega,by simp,by simp [ab],by simp [ab],by simp [af],rfl⟩ ?_
 rintro q ⟨env,heap,nx',dm⟩ ⟨i,rfl,hi,hall,g1,g3,gh,hdm⟩
 simp only at g1 g3 gh hdm
 subst hdm
 have f1:=wS (i:=i) (by omega)
 by_cases hc:(i:Int)<(l.length:Int)
 case pos =>
  have hr:=G7 (show i<l.length by omega)
  generalize l[i]=r at hr
  have ix:=bA hr
  have hmem:=G8 hr
  have rl:=bI r
  have rt:=bC r
  simp -implicitDefEqProofs only [RA,aa,zp,↓reduceIte,reduceCtorEq,zq,zr,zs,zt,dc,co,g1,g3,gh,lv,hc,ix,rl,rt]
  refine (cE r hmem).use fun n1 hn1=>?_
  cases hw:wfE r with
  | false =>
   have ee:wfS (.mk 3 n f w l b e)=false:=by
    have:l.all wfE=false:=by rw [List.all_eq_false];exact ⟨r,hmem,by simp [hw]⟩
    simp [bQ,this]
   simp -implicitDefEqProofs only [RA,aa,zp,↓reduceIte,reduceCtorEq,zq,zr,zs,zt,g1,g3,gh,hw,unA,ee,eD]
  | true =>
   have hall2:(l.take (i+1)).all wfE=true:=by rw [az hr,List.all_append,hall];simp [hw]
   simp -implicitDefEqProofs only [RA,aa,zp,↓reduceIte,reduceCtorEq,zq,zr,zs,zt,g1,g3,gh,hw,unA,f1]
   refine ⟨l.length-(i+1),by omega,i+1,?_⟩
   repeat' apply And.intro
   all_goals first|assumption|rfl|omega|(simp [ab, *];done)
 have ha:l.all wfE=true:=by
  have ht:l.take i=l:=Ha (by omega)
  rw [ht] at hall;exact hall
 clear cE
 have i0:=aI l 0 0 rfl
 have i1:=aI l 1 1 rfl
 have i2:=aI l 2 2 rfl
 have b0:=aI b 0 0 rfl
 have e0:=aI e 0 0 rfl
 have b1:=dv b
 have e1:=dv e
 have l8:=gP l
 have l9:=gQ l
 cases hba:(b.all wfS)
 rotate_left
 cases hea:(e.all wfS)
 rotate_left
 all_goals rcases ah (b.length=0) with ⟨-,hnb⟩|⟨-,hnb⟩
 all_goals rcases ah (e.length=0) with ⟨-,hne⟩|⟨-,hne⟩
 all_goals
  rcases am (w=0) with ⟨-,hw⟩|⟨-,hw⟩
  rotate_left
  cases hfe:(f==[])
  rotate_left
  cases hm:(du n)
  rotate_left
  rcases am (l.length=2) with ⟨-,hl⟩|⟨-,hl⟩
  rotate_left
  all_goals simp -implicitDefEqProofs only [RA,aa,zp,↓reduceIte,reduceCtorEq,zq,zr,zs,zt,dc,co,eD,aG,aU,if_false,Ie,unA,not_false_eq_true,not_true_eq_false,HQ, *]
  all_goals repeat' ((first|refine cB.use fun _ _=>?_|refine cC.use fun _ _=>?_|refine (w97 n hn1).use fun _ _=>?_|refine (w97 f hf1).use fun _ _=>?_|refine (w96 w).use fun _ _=>?_);simp -implicitDefEqProofs only [RA,aa,zp,↓reduceIte,reduceCtorEq,zq,zr,zs,zt,eD,aG,aU,if_false,Ie,unA,not_false_eq_true,not_true_eq_false,HQ, *])
  all_goals simp [bQ,wfM, *]
theorem BA (w:Int) (n f:Nm) (l:List Ex) (b e:List Sm) (hn1:n.length≤100000) (hf1:f.length≤100000) (hB:aN l≤1152921504606846976) (cE:∀ r∈l,Pure Tryz.prog 47 [.agg (exE r)] (.bool (wfE r))) (cB:Pure Tryz.prog 104 [ay b] (.bool (b.all wfS))) (cC:Pure Tryz.prog 104 [ay e] (.bool (e.all wfS))) :
  Pure Tryz.prog 131 [.agg (smE (.mk 4 n f w l b e))] (.bool (wfS (.mk 4 n f w l b e))):=by
 have hsl:=aE l
 have lv:=aP l
 have lb:=aO b
 have lee:=aO e
 refine Pure.of fun nx=>AC.go aj jy (by simp) ?_
 have gq:True:=trivial
 rw [cH]
 simp -implicitDefEqProofs only [RA,aa,zp,↓reduceIte,reduceCtorEq,zq,zr,zs,zt,mZ,je,lv]
 refine aq (fun q st=>∃ i:Nat,q=l.length-i∧i≤l.length∧(l.take i).all wfE=true∧ab st.env 1=some (.op nx 0)∧ab st.env 3=some (.int .i64 i)∧af st.heap nx=some (.cells [.int .u8 4,.str n,.str f,.int .i64 w,aR l,ay b,ay e])∧st.dm=[]) (n:=l.length) aj
  ⟨0,rfl,by omega,by simp,by simp [ab],by simp [ab],by simp [af],rfl⟩ ?_
 rintro q ⟨env,heap,nx',dm⟩ ⟨i,rfl,hi,hall,g1,g3,gh,hdm⟩
 simp only at g1 g3 gh hdm
 subst hdm
 have f1:=wS (i:=i) (by omega)
 by_cases hc:(i:Int)<(l.length:Int)
 case pos =>
  have hr:=G7 (show i<l.length by omega)
  generalize l[i]=r at hr
  have ix:=bA hr
  have hmem:=G8 hr
  have rl:=bI r
  have rt:=bC r
  simp -implicitDefEqProofs only [RA,aa,zp,↓reduceIte,reduceCtorEq,zq,zr,zs,zt,dc,co,g1,g3,gh,lv,hc,ix,rl,rt]
  refine (cE r hmem).use fun n1 hn1=>?_
  cases hw:wfE r with
  | false =>
   have ee:wfS (.mk 4 n f w l b e)=false:=by
    have:l.all wfE=false:=by rw [List.all_eq_false];exact ⟨r,hmem,by simp [hw]⟩
    simp [bQ,this]
   simp -implicitDefEqProofs only [RA,aa,zp,↓reduceIte,reduceCtorEq,zq,zr,zs,zt,g1,g3,gh,hw,unA,ee,eD]
  | true =>
   have hall2:(l.take (i+1)).all wfE=true:=by rw [az hr,List.all_append,hall];simp [hw]
   simp -implicitDefEqProofs only [RA,aa,zp,↓reduceIte,reduceCtorEq,zq,zr,zs,zt,g1,g3,gh,hw,unA,f1]
   refine ⟨l.length-(i+1),by omega,i+1,?_⟩
   repeat' apply And.intro
   all_goals first|assumption|rfl|omega|(simp [ab, *];done)
 have ha:l.all wfE=true:=by
  have ht:l.take i=l:=Ha (by omega)
  rw [ht] at hall;exact hall
 clear cE
 have i0:=aI l 0 0 rfl
 have i1:=aI l 1 1 rfl
 have i2:=aI l 2 2 rfl
 have b0:=aI b 0 0 rfl
 have e0:=aI e 0 0 rfl
 have b1:=dv b
 have e1:=dv e
 have l8:=gP l
 have l9:=gQ l
 cases hba:(b.all wfS)
 rotate_left
 cases hea:(e.all wfS)
 rotate_left
 all_goals rcases ah (b.length=0) with ⟨-,hnb⟩|⟨-,hnb⟩
 all_goals rcases ah (e.length=0) with ⟨-,hne⟩|⟨-,hne⟩
 all_goals
  rcases am (w=0) with ⟨-,hw⟩|⟨-,hw⟩
  rotate_left
  cases hfe:(f==[])
  rotate_left
  cases hn:(n==[])
  rotate_left
  rcases am (l.length=1) with ⟨-,hl⟩|⟨-,hl⟩
  rotate_left
  all_goals simp -implicitDefEqProofs only [RA,aa,zp,↓reduceIte,reduceCtorEq,zq,zr,zs,zt,dc,co,eD,aG,aU,if_false,Ie,unA,not_false_eq_true,not_true_eq_false,HQ, *]
  all_goals repeat' ((first|refine cB.use fun _ _=>?_|refine cC.use fun _ _=>?_|refine (w97 n hn1).use fun _ _=>?_|refine (w97 f hf1).use fun _ _=>?_|refine (w96 w).use fun _ _=>?_);simp -implicitDefEqProofs only [RA,aa,zp,↓reduceIte,reduceCtorEq,zq,zr,zs,zt,eD,aG,aU,if_false,Ie,unA,not_false_eq_true,not_true_eq_false,HQ, *])
  all_goals simp [bQ,wfM, *]
theorem Bz (w:Int) (n f:Nm) (l:List Ex) (b e:List Sm) (hn1:n.length≤100000) (hf1:f.length≤100000) (hB:aN l≤1152921504606846976) (cE:∀ r∈l,Pure Tryz.prog 47 [.agg (exE r)] (.bool (wfE r))) (cB:Pure Tryz.prog 104 [ay b] (.bool (b.all wfS))) (cC:Pure Tryz.prog 104 [ay e] (.bool (e.all wfS))) :
  Pure Tryz.prog 131 [.agg (smE (.mk 5 n f w l b e))] (.bool (wfS (.mk 5 n f w l b e))):=by
 have hsl:=aE l
 have lv:=aP l
 have lb:=aO b
 have lee:=aO e
 refine Pure.of fun nx=>AC.go aj jy (by simp) ?_
 have gq:True:=trivial
 rw [cH]
 simp -implicitDefEqProofs only [RA,aa,zp,↓reduceIte,reduceCtorEq,zq,zr,zs,zt,mZ,je,lv]
 refine aq (fun q st=>∃ i:Nat,q=l.length-i∧i≤l.length∧(l.take i).all wfE=true∧ab st.env 1=some (.op nx 0)∧ab st.env 3=some (.int .i64 i)∧af st.heap nx=some (.cells [.int .u8 5,.str n,.str f,.int .i64 w,aR l,ay b,ay e])∧st.dm=[]) (n:=l.length) aj
  ⟨0,rfl,by omega,by simp,by simp [ab],by simp [ab],by simp [af],rfl⟩ ?_
 rintro q ⟨env,heap,nx',dm⟩ ⟨i,rfl,hi,hall,g1,g3,gh,hdm⟩
 simp only at g1 g3 gh hdm
 subst hdm
 have f1:=wS (i:=i) (by omega)
 by_cases hc:(i:Int)<(l.length:Int)
 case pos =>
  have hr:=G7 (show i<l.length by omega)
  generalize l[i]=r at hr
  have ix:=bA hr
  have hmem:=G8 hr
  have rl:=bI r
  have rt:=bC r
  simp -implicitDefEqProofs only [RA,aa,zp,↓reduceIte,reduceCtorEq,zq,zr,zs,zt,dc,co,g1,g3,gh,lv,hc,ix,rl,rt]
  refine (cE r hmem).use fun n1 hn1=>?_
  cases hw:wfE r with
  | false =>
   have ee:wfS (.mk 5 n f w l b e)=false:=by
    have:l.all wfE=false:=by rw [List.all_eq_false];exact ⟨r,hmem,by simp [hw]⟩
    simp [bQ,this]
   simp -implicitDefEqProofs only [RA,aa,zp,↓reduceIte,reduceCtorEq,zq,zr,zs,zt,g1,g3,gh,hw,unA,ee,eD]
  | true =>
   have hall2:(l.take (i+1)).all wfE=true:=by rw [az hr,List.all_append,hall];simp [hw]
   simp -implicitDefEqProofs only [RA,aa,zp,↓reduceIte,reduceCtorEq,zq,zr,zs,zt,g1,g3,gh,hw,unA,f1]
   refine ⟨l.length-(i+1),by omega,i+1,?_⟩
   repeat' apply And.intro
   all_goals first|assumption|rfl|omega|(simp [ab, *];done)
 have ha:l.all wfE=true:=by
  have ht:l.take i=l:=Ha (by omega)
  rw [ht] at hall;exact hall
 clear cE
 have i0:=aI l 0 0 rfl
 have i1:=aI l 1 1 rfl
 have i2:=aI l 2 2 rfl
 have b0:=aI b 0 0 rfl
 have e0:=aI e 0 0 rfl
 have b1:=dv b
 have e1:=dv e
 have l8:=gP l
 have l9:=gQ l
 cases hba:(b.all wfS)
 rotate_left
 cases hea:(e.all wfS)
 rotate_left
 all_goals rcases ah (b.length=0) with ⟨-,hnb⟩|⟨-,hnb⟩
 all_goals rcases ah (e.length=0) with ⟨-,hne⟩|⟨-,hne⟩
 all_goals
  rcases am (w=0) with ⟨-,hw⟩|⟨-,hw⟩
  rotate_left
  cases hfe:(f==[])
  rotate_left
  cases hn:(n==[])
  rotate_left
  rcases am (l.length=1) with ⟨-,hl⟩|⟨-,hl⟩
  rotate_left
  all_goals simp -implicitDefEqProofs only [RA,aa,zp,↓reduceIte,reduceCtorEq,zq,zr,zs,zt,dc,co,eD,aG,aU,if_false,Ie,unA,not_false_eq_true,not_true_eq_false,HQ, *]
  all_goals repeat' ((first|refine cB.use fun _ _=>?_|refine cC.use fun _ _=>?_|refine (w97 n hn1).use fun _ _=>?_|refine (w97 f hf1).use fun _ _=>?_|refine (w96 w).use fun _ _=>?_);simp -implicitDefEqProofs only [RA,aa,zp,↓reduceIte,reduceCtorEq,zq,zr,zs,zt,eD,aG,aU,if_false,Ie,unA,not_false_eq_true,not_true_eq_false,HQ, *])
  all_goals simp [bQ,wfM, *]
theorem By (w:Int) (n f:Nm) (l:List Ex) (b e:List Sm) (hn1:n.length≤100000) (hf1:f.length≤100000) (hB:aN l≤1152921504606846976) (cE:∀ r∈l,Pure Tryz.prog 47 [.agg (exE r)] (.bool (wfE r))) (cB:Pure Tryz.prog 104 [ay b] (.bool (b.all wfS))) (cC:Pure Tryz.prog 104 [ay e] (.bool (e.all wfS))) :
  Pure Tryz.prog 131 [.agg (smE (.mk 6 n f w l b e))] (.bool (wfS (.mk 6 n f w l b e))):=by
 have hsl:=aE l
 have lv:=aP l
 have lb:=aO b
 have lee:=aO e
 refine Pure.of fun nx=>AC.go aj jy (by simp) ?_
 have gq:True:=trivial
 rw [cH]
 simp -implicitDefEqProofs only [RA,aa,zp,↓reduceIte,reduceCtorEq,zq,zr,zs,zt,mZ,je,lv]
 refine aq (fun q st=>∃ i:Nat,q=l.length-i∧i≤l.length∧(l.take i).all wfE=true∧ab st.env 1=some (.op nx 0)∧ab st.env 3=some (.int .i64 i)∧af st.heap nx=some (.cells [.int .u8 6,.str n,.str f,.int .i64 w,aR l,ay b,ay e])∧st.dm=[]) (n:=l.length) aj
  ⟨0,rfl,by omega,by simp,by simp [ab],by simp [ab],by simp [af],rfl⟩ ?_
 rintro q ⟨env,heap,nx',dm⟩ ⟨i,rfl,hi,hall,g1,g3,gh,hdm⟩
 simp only at g1 g3 gh hdm
 subst hdm
 have f1:=wS (i:=i) (by omega)
 by_cases hc:(i:Int)<(l.length:Int)
 case pos =>
  have hr:=G7 (show i<l.length by omega)
  generalize l[i]=r at hr
  have ix:=bA hr
  have hmem:=G8 hr
  have rl:=bI r
  have rt:=bC r
  simp -implicitDefEqProofs only [RA,aa,zp,↓reduceIte,reduceCtorEq,zq,zr,zs,zt,dc,co,g1,g3,gh,lv,hc,ix,rl,rt]
  refine (cE r hmem).use fun n1 hn1=>?_
  cases hw:wfE r with
  | false =>
   have ee:wfS (.mk 6 n f w l b e)=false:=by
    have:l.all wfE=false:=by rw [List.all_eq_false];exact ⟨r,hmem,by simp [hw]⟩
    simp [bQ,this]
   simp -implicitDefEqProofs only [RA,aa,zp,↓reduceIte,reduceCtorEq,zq,zr,zs,zt,g1,g3,gh,hw,unA,ee,eD]
  | true =>
   have hall2:(l.take (i+1)).all wfE=true:=by rw [az hr,List.all_append,hall];simp [hw]
   simp -implicitDefEqProofs only [RA,aa,zp,↓reduceIte,reduceCtorEq,zq,zr,zs,zt,g1,g3,gh,hw,unA,f1]
   refine ⟨l.length-(i+1),by omega,i+1,?_⟩
   repeat' apply And.intro
   all_goals first|assumption|rfl|omega|(simp [ab, *];done)
 have ha:l.all wfE=true:=by
  have ht:l.take i=l:=Ha (by omega)
  rw [ht] at hall;exact hall
 clear cE
 have i0:=aI l 0 0 rfl
 have i1:=aI l 1 1 rfl
 have i2:=aI l 2 2 rfl
 have b0:=aI b 0 0 rfl
 have e0:=aI e 0 0 rfl
 have b1:=dv b
 have e1:=dv e
 have l8:=gP l
 have l9:=gQ l
 cases hba:(b.all wfS)
 rotate_left
 cases hea:(e.all wfS)
 rotate_left
 all_goals rcases ah (b.length=0) with ⟨-,hnb⟩|⟨-,hnb⟩
 all_goals rcases ah (e.length=0) with ⟨-,hne⟩|⟨-,hne⟩
 all_goals
  rcases am (w=0) with ⟨-,hw⟩|⟨-,hw⟩
  rotate_left
  cases hfe:(f==[])
  rotate_left
  cases hn:(n==[])
  rotate_left
  rcases am (l.length=0) with ⟨-,hl⟩|⟨-,hl⟩
  rotate_left
  all_goals simp -implicitDefEqProofs only [RA,aa,zp,↓reduceIte,reduceCtorEq,zq,zr,zs,zt,dc,co,eD,aG,aU,if_false,Ie,unA,not_false_eq_true,not_true_eq_false,HQ, *]
  all_goals repeat' ((first|refine cB.use fun _ _=>?_|refine cC.use fun _ _=>?_|refine (w97 n hn1).use fun _ _=>?_|refine (w97 f hf1).use fun _ _=>?_|refine (w96 w).use fun _ _=>?_);simp -implicitDefEqProofs only [RA,aa,zp,↓reduceIte,reduceCtorEq,zq,zr,zs,zt,eD,aG,aU,if_false,Ie,unA,not_false_eq_true,not_true_eq_false,HQ, *])
  all_goals simp [bQ,wfM, *]
theorem Bx (w:Int) (n f:Nm) (l:List Ex) (b e:List Sm) (hn1:n.length≤100000) (hf1:f.length≤100000) (hB:aN l≤1152921504606846976) (cE:∀ r∈l,Pure Tryz.prog 47 [.agg (exE r)] (.bool (wfE r))) (cB:Pure Tryz.prog 104 [ay b] (.bool (b.all wfS))) (cC:Pure Tryz.prog 104 [ay e] (.bool (e.all wfS))) :
  Pure Tryz.prog 131 [.agg (smE (.mk 7 n f w l b e))] (.bool (wfS (.mk 7 n f w l b e))):=by
 have hsl:=aE l
 have lv:=aP l
 have lb:=aO b
 have lee:=aO e
 refine Pure.of fun nx=>AC.go aj jy (by simp) ?_
 have gq:True:=trivial
 rw [cH]
 simp -implicitDefEqProofs only [RA,aa,zp,↓reduceIte,reduceCtorEq,zq,zr,zs,zt,mZ,je,lv]
 refine aq (fun q st=>∃ i:Nat,q=l.length-i∧i≤l.length∧(l.take i).all wfE=true∧ab st.env 1=some (.op nx 0)∧ab st.env 3=some (.int .i64 i)∧af st.heap nx=some (.cells [.int .u8 7,.str n,.str f,.int .i64 w,aR l,ay b,ay e])∧st.dm=[]) (n:=l.length) aj
  ⟨0,rfl,by omega,by simp,by simp [ab],by simp [ab],by simp [af],rfl⟩ ?_
 rintro q ⟨env,heap,nx',dm⟩ ⟨i,rfl,hi,hall,g1,g3,gh,hdm⟩
 simp only at g1 g3 gh hdm
 subst hdm
 have f1:=wS (i:=i) (by omega)
 by_cases hc:(i:Int)<(l.length:Int)
 case pos =>
  have hr:=G7 (show i<l.length by omega)
  generalize l[i]=r at hr
  have ix:=bA hr
  have hmem:=G8 hr
  have rl:=bI r
  have rt:=bC r
  simp -implicitDefEqProofs only [RA,aa,zp,↓reduceIte,reduceCtorEq,zq,zr,zs,zt,dc,co,g1,g3,gh,lv,hc,ix,rl,rt]
  refine (cE r hmem).use fun n1 hn1=>?_
  cases hw:wfE r with
  | false =>
   have ee:wfS (.mk 7 n f w l b e)=false:=by
    have:l.all wfE=false:=by rw [List.all_eq_false];exact ⟨r,hmem,by simp [hw]⟩
    simp [bQ,this]
   simp -implicitDefEqProofs only [RA,aa,zp,↓reduceIte,reduceCtorEq,zq,zr,zs,zt,g1,g3,gh,hw,unA,ee,eD]
  | true =>
   have hall2:(l.take (i+1)).all wfE=true:=by rw [az hr,List.all_append,hall];simp [hw]
   simp -implicitDefEqProofs only [RA,aa,zp,↓reduceIte,reduceCtorEq,zq,zr,zs,zt,g1,g3,gh,hw,unA,f1]
   refine ⟨l.length-(i+1),by omega,i+1,?_⟩
   repeat' apply And.intro
   all_goals first|assumption|rfl|omega|(simp [ab, *];done)
 have ha:l.all wfE=true:=by
  have ht:l.take i=l:=Ha (by omega)
  rw [ht] at hall;exact hall
 clear cE
 have i0:=aI l 0 0 rfl
 have i1:=aI l 1 1 rfl
 have i2:=aI l 2 2 rfl
 have b0:=aI b 0 0 rfl
 have e0:=aI e 0 0 rfl
 have b1:=dv b
 have e1:=dv e
 have l8:=gP l
 have l9:=gQ l
 cases hba:(b.all wfS)
 rotate_left
 cases hea:(e.all wfS)
 rotate_left
 all_goals rcases ah (b.length=0) with ⟨-,hnb⟩|⟨-,hnb⟩
 all_goals rcases ah (e.length=0) with ⟨-,hne⟩|⟨-,hne⟩
 all_goals
  rcases am (w=0) with ⟨-,hw⟩|⟨-,hw⟩
  rotate_left
  cases hfe:(f==[])
  rotate_left
  cases hn:(n==[])
  rotate_left
  rcases am (l.length=1) with ⟨-,hl⟩|⟨-,hl⟩
  rotate_left
  all_goals simp -implicitDefEqProofs only [RA,aa,zp,↓reduceIte,reduceCtorEq,zq,zr,zs,zt,dc,co,eD,aG,aU,if_false,Ie,unA,not_false_eq_true,not_true_eq_false,HQ, *]
  all_goals repeat' ((first|refine cB.use fun _ _=>?_|refine cC.use fun _ _=>?_|refine (w97 n hn1).use fun _ _=>?_|refine (w97 f hf1).use fun _ _=>?_|refine (w96 w).use fun _ _=>?_);simp -implicitDefEqProofs only [RA,aa,zp,↓reduceIte,reduceCtorEq,zq,zr,zs,zt,eD,aG,aU,if_false,Ie,unA,not_false_eq_true,not_true_eq_false,HQ, *])
  all_goals simp [bQ,wfM, *]
theorem Bw (w:Int) (n f:Nm) (l:List Ex) (b e:List Sm) (hn1:n.length≤100000) (hf1:f.length≤100000) (hB:aN l≤1152921504606846976) (cE:∀ r∈l,Pure Tryz.prog 47 [.agg (exE r)] (.bool (wfE r))) (cB:Pure Tryz.prog 104 [ay b] (.bool (b.all wfS))) (cC:Pure Tryz.prog 104 [ay e] (.bool (e.all wfS))) :
  Pure Tryz.prog 131 [.agg (smE (.mk 8 n f w l b e))] (.bool (wfS (.mk 8 n f w l b e))):=by
 have hsl:=aE l
 have lv:=aP l
 have lb:=aO b
 have lee:=aO e
 refine Pure.of fun nx=>AC.go aj jy (by simp) ?_
 have gq:True:=trivial
 rw [cH]
 simp -implicitDefEqProofs only [RA,aa,zp,↓reduceIte,reduceCtorEq,zq,zr,zs,zt,mZ,je,lv]
 refine aq (fun q st=>∃ i:Nat,q=l.length-i∧i≤l.length∧(l.take i).all wfE=true∧ab st.env 1=some (.op nx 0)∧ab st.env 3=some (.int .i64 i)∧af st.heap nx=some (.cells [.int .u8 8,.str n,.str f,.int .i64 w,aR l,ay b,ay e])∧st.dm=[]) (n:=l.length) aj
  ⟨0,rfl,by omega,by simp,by simp [ab],by simp [ab],by simp [af],rfl⟩ ?_
 rintro q ⟨env,heap,nx',dm⟩ ⟨i,rfl,hi,hall,g1,g3,gh,hdm⟩
 simp only at g1 g3 gh hdm
 subst hdm
 have f1:=wS (i:=i) (by omega)
 by_cases hc:(i:Int)<(l.length:Int)
 case pos =>
  have hr:=G7 (show i<l.length by omega)
  generalize l[i]=r at hr
  have ix:=bA hr
  have hmem:=G8 hr
  have rl:=bI r
  have rt:=bC r
  simp -implicitDefEqProofs only [RA,aa,zp,↓reduceIte,reduceCtorEq,zq,zr,zs,zt,dc,co,g1,g3,gh,lv,hc,ix,rl,rt]
  refine (cE r hmem).use fun n1 hn1=>?_
  cases hw:wfE r with
  | false =>
   have ee:wfS (.mk 8 n f w l b e)=false:=by
    have:l.all wfE=false:=by rw [List.all_eq_false];exact ⟨r,hmem,by simp [hw]⟩
    simp [bQ,this]
   simp -implicitDefEqProofs only [RA,aa,zp,↓reduceIte,reduceCtorEq,zq,zr,zs,zt,g1,g3,gh,hw,unA,ee,eD]
  | true =>
   have hall2:(l.take (i+1)).all wfE=true:=by rw [az hr,List.all_append,hall];simp [hw]
   simp -implicitDefEqProofs only [RA,aa,zp,↓reduceIte,reduceCtorEq,zq,zr,zs,zt,g1,g3,gh,hw,unA,f1]
   refine ⟨l.length-(i+1),by omega,i+1,?_⟩
   repeat' apply And.intro
   all_goals first|assumption|rfl|omega|(simp [ab, *];done)
 have ha:l.all wfE=true:=by
  have ht:l.take i=l:=Ha (by omega)
  rw [ht] at hall;exact hall
 clear cE
 have i0:=aI l 0 0 rfl
 have i1:=aI l 1 1 rfl
 have i2:=aI l 2 2 rfl
 have b0:=aI b 0 0 rfl
 have e0:=aI e 0 0 rfl
 have b1:=dv b
 have e1:=dv e
 have l8:=gP l
 have l9:=gQ l
 cases hba:(b.all wfS)
 rotate_left
 cases hea:(e.all wfS)
 rotate_left
 all_goals rcases ah (b.length=0) with ⟨-,hnb⟩|⟨-,hnb⟩
 all_goals rcases ah (e.length=0) with ⟨-,hne⟩|⟨-,hne⟩
 all_goals
  rcases am (w=0) with ⟨-,hw⟩|⟨-,hw⟩
  rotate_left
  cases hfe:(f==[])
  rotate_left
  cases hn:(n==[])
  rotate_left
  rcases am (l.length≤1) with ⟨-,hl⟩|⟨-,hl⟩
  rotate_left
  all_goals simp -implicitDefEqProofs only [RA,aa,zp,↓reduceIte,reduceCtorEq,zq,zr,zs,zt,dc,co,eD,aG,aU,if_false,Ie,unA,not_false_eq_true,not_true_eq_false,HQ, *]
  all_goals repeat' ((first|refine cB.use fun _ _=>?_|refine cC.use fun _ _=>?_|refine (w97 n hn1).use fun _ _=>?_|refine (w97 f hf1).use fun _ _=>?_|refine (w96 w).use fun _ _=>?_);simp -implicitDefEqProofs only [RA,aa,zp,↓reduceIte,reduceCtorEq,zq,zr,zs,zt,eD,aG,aU,if_false,Ie,unA,not_false_eq_true,not_true_eq_false,HQ, *])
  all_goals simp [bQ,wfM, *]
theorem Bv (w:Int) (n f:Nm) (l:List Ex) (b e:List Sm) (hn1:n.length≤100000) (hf1:f.length≤100000) (hB:aN l≤1152921504606846976) (cE:∀ r∈l,Pure Tryz.prog 47 [.agg (exE r)] (.bool (wfE r))) (cB:Pure Tryz.prog 104 [ay b] (.bool (b.all wfS))) (cC:Pure Tryz.prog 104 [ay e] (.bool (e.all wfS))) :
  Pure Tryz.prog 131 [.agg (smE (.mk 9 n f w l b e))] (.bool (wfS (.mk 9 n f w l b e))):=by
 have hsl:=aE l
 have lv:=aP l
 have lb:=aO b
 have lee:=aO e
 refine Pure.of fun nx=>AC.go aj jy (by simp) ?_
 have gq:True:=trivial
 rw [cH]
 simp -implicitDefEqProofs only [RA,aa,zp,↓reduceIte,reduceCtorEq,zq,zr,zs,zt,mZ,je,lv]
 refine aq (fun q st=>∃ i:Nat,q=l.length-i∧i≤l.length∧(l.take i).all wfE=true∧ab st.env 1=some (.op nx 0)∧ab st.env 3=some (.int .i64 i)∧af st.heap nx=some (.cells [.int .u8 9,.str n,.str f,.int .i64 w,aR l,ay b,ay e])∧st.dm=[]) (n:=l.length) aj
  ⟨0,rfl,by omega,by simp,by simp [ab],by simp [ab],by simp [af],rfl⟩ ?_
 rintro q ⟨env,heap,nx',dm⟩ ⟨i,rfl,hi,hall,g1,g3,gh,hdm⟩
 simp only at g1 g3 gh hdm
 subst hdm
 have f1:=wS (i:=i) (by omega)
 by_cases hc:(i:Int)<(l.length:Int)
 case pos =>
  have hr:=G7 (show i<l.length by omega)
  generalize l[i]=r at hr
  have ix:=bA hr
  have hmem:=G8 hr
  have rl:=bI r
  have rt:=bC r
  simp -implicitDefEqProofs only [RA,aa,zp,↓reduceIte,reduceCtorEq,zq,zr,zs,zt,dc,co,g1,g3,gh,lv,hc,ix,rl,rt]
  refine (cE r hmem).use fun n1 hn1=>?_
  cases hw:wfE r with
  | false =>
   have ee:wfS (.mk 9 n f w l b e)=false:=by
    have:l.all wfE=false:=by rw [List.all_eq_false];exact ⟨r,hmem,by simp [hw]⟩
    simp [bQ,this]
   simp -implicitDefEqProofs only [RA,aa,zp,↓reduceIte,reduceCtorEq,zq,zr,zs,zt,g1,g3,gh,hw,unA,ee,eD]
  | true =>
   have hall2:(l.take (i+1)).all wfE=true:=by rw [az hr,List.all_append,hall];simp [hw]
   simp -implicitDefEqProofs only [RA,aa,zp,↓reduceIte,reduceCtorEq,zq,zr,zs,zt,g1,g3,gh,hw,unA,f1]
   refine ⟨l.length-(i+1),by omega,i+1,?_⟩
   repeat' apply And.intro
   all_goals first|assumption|rfl|omega|(simp [ab, *];done)
 have ha:l.all wfE=true:=by
  have ht:l.take i=l:=Ha (by omega)
  rw [ht] at hall;exact hall
 clear cE
 have i0:=aI l 0 0 rfl
 have i1:=aI l 1 1 rfl
 have i2:=aI l 2 2 rfl
 have b0:=aI b 0 0 rfl
 have e0:=aI e 0 0 rfl
 have b1:=dv b
 have e1:=dv e
 have l8:=gP l
 have l9:=gQ l
 cases hba:(b.all wfS)
 rotate_left
 cases hea:(e.all wfS)
 rotate_left
 all_goals rcases ah (b.length=0) with ⟨-,hnb⟩|⟨-,hnb⟩
 all_goals rcases ah (e.length=0) with ⟨-,hne⟩|⟨-,hne⟩
 all_goals
  cases hn:(n==[])
  all_goals cases hm:(du n)
  all_goals
   rcases am (w=0) with ⟨-,hw⟩|⟨-,hw⟩
   rotate_left
   cases hf:(du f)
   rotate_left
   all_goals simp -implicitDefEqProofs only [RA,aa,zp,↓reduceIte,reduceCtorEq,zq,zr,zs,zt,dc,co,eD,aG,aU,if_false,Ie,unA,not_false_eq_true,not_true_eq_false,HQ, *]
   all_goals repeat' ((first|refine cB.use fun _ _=>?_|refine cC.use fun _ _=>?_|refine (w97 n hn1).use fun _ _=>?_|refine (w97 f hf1).use fun _ _=>?_|refine (w96 w).use fun _ _=>?_);simp -implicitDefEqProofs only [RA,aa,zp,↓reduceIte,reduceCtorEq,zq,zr,zs,zt,eD,aG,aU,if_false,Ie,unA,not_false_eq_true,not_true_eq_false,HQ, *])
   all_goals simp [bQ,wfM, *]
theorem Bu (k w:Int) (n f:Nm) (l:List Ex) (b e:List Sm) (hn1:n.length≤100000) (hf1:f.length≤100000) (hB:aN l≤1152921504606846976) (cE:∀ r∈l,Pure Tryz.prog 47 [.agg (exE r)] (.bool (wfE r))) (cB:Pure Tryz.prog 104 [ay b] (.bool (b.all wfS))) (cC:Pure Tryz.prog 104 [ay e] (.bool (e.all wfS))) (hk1:k≠1) (hk2:k≠2) (hk3:k≠3) (hk4:k≠4) (hk5:k≠5) (hk6:k≠6) (hk7:k≠7) (hk8:k≠8) (hk9:k≠9) :
  Pure Tryz.prog 131 [.agg (smE (.mk k n f w l b e))] (.bool (wfS (.mk k n f w l b e))):=by
 have hsl:=aE l
 have lv:=aP l
 have lb:=aO b
 have lee:=aO e
 refine Pure.of fun nx=>AC.go aj jy (by simp) ?_
 have gq:True:=trivial
 rw [cH]
 simp -implicitDefEqProofs only [RA,aa,zp,↓reduceIte,reduceCtorEq,zq,zr,zs,zt,mZ,je,lv]
 refine aq (fun q st=>∃ i:Nat,q=l.length-i∧i≤l.length∧(l.take i).all wfE=true∧ab st.env 1=some (.op nx 0)∧ab st.env 3=some (.int .i64 i)∧af st.heap nx=some (.cells [.int .u8 k,.str n,.str f,.int .i64 w,aR l,ay b,ay e])∧st.dm=[]) (n:=l.length) aj
  ⟨0,rfl,by omega,by simp,by simp [ab],by simp [ab],by simp [af],rfl⟩ ?_
 rintro q ⟨env,heap,nx',dm⟩ ⟨i,rfl,hi,hall,g1,g3,gh,hdm⟩
 simp only at g1 g3 gh hdm
 subst hdm
 have f1:=wS (i:=i) (by omega)
 by_cases hc:(i:Int)<(l.length:Int)
 case pos =>
  have hr:=G7 (show i<l.length by omega)
  generalize l[i]=r at hr
  have ix:=bA hr
  have hmem:=G8 hr
  have rl:=bI r
  have rt:=bC r
  simp -implicitDefEqProofs only [RA,aa,zp,↓reduceIte,reduceCtorEq,zq,zr,zs,zt,dc,co,g1,g3,gh,lv,hc,ix,rl,rt]
  refine (cE r hmem).use fun n1 hn1=>?_
  cases hw:wfE r with
  | false =>
   have ee:wfS (.mk k n f w l b e)=false:=by
    have:l.all wfE=false:=by rw [List.all_eq_false];exact ⟨r,hmem,by simp [hw]⟩
    simp [bQ,this]
   simp -implicitDefEqProofs only [RA,aa,zp,↓reduceIte,reduceCtorEq,zq,zr,zs,zt,g1,g3,gh,hw,unA,ee,eD]
  | true =>
   have hall2:(l.take (i+1)).all wfE=true:=by rw [az hr,List.all_append,hall];simp [hw]
   simp -implicitDefEqProofs only [RA,aa,zp,↓reduceIte,reduceCtorEq,zq,zr,zs,zt,g1,g3,gh,hw,unA,f1]
   refine ⟨l.length-(i+1),by omega,i+1,?_⟩
   repeat' apply And.intro
   all_goals first|assumption|rfl|omega|(simp [ab, *];done)
 have ha:l.all wfE=true:=by
  have ht:l.take i=l:=Ha (by omega)
  rw [ht] at hall;exact hall
 clear cE
 have i0:=aI l 0 0 rfl
 have i1:=aI l 1 1 rfl
 have i2:=aI l 2 2 rfl
 have b0:=aI b 0 0 rfl
 have e0:=aI e 0 0 rfl
 have b1:=dv b
 have e1:=dv e
 have l8:=gP l
 have l9:=gQ l
 have kd1:(k=1)=False:=eq_false hk1
 have kd2:(k=2)=False:=eq_false hk2
 have kd3:(k=3)=False:=eq_false hk3
 have kd4:(k=4)=False:=eq_false hk4
 have kd5:(k=5)=False:=eq_false hk5
 have kd6:(k=6)=False:=eq_false hk6
 have kd7:(k=7)=False:=eq_false hk7
 have kd8:(k=8)=False:=eq_false hk8
 have kd9:(k=9)=False:=eq_false hk9
 cases hba:(b.all wfS)
 rotate_left
 cases hea:(e.all wfS)
 rotate_left
 all_goals rcases ah (b.length=0) with ⟨-,hnb⟩|⟨-,hnb⟩
 all_goals rcases ah (e.length=0) with ⟨-,hne⟩|⟨-,hne⟩
 all_goals
  rcases am (w=0) with ⟨-,hw⟩|⟨-,hw⟩
  rotate_left
  cases hfe:(f==[])
  rotate_left
  all_goals simp -implicitDefEqProofs only [RA,aa,zp,↓reduceIte,reduceCtorEq,zq,zr,zs,zt,dc,co,eD,aG,aU,if_false,Ie,unA,not_false_eq_true,not_true_eq_false,HQ, *]
  all_goals repeat' ((first|refine cB.use fun _ _=>?_|refine cC.use fun _ _=>?_|refine (w97 n hn1).use fun _ _=>?_|refine (w97 f hf1).use fun _ _=>?_|refine (w96 w).use fun _ _=>?_);simp -implicitDefEqProofs only [RA,aa,zp,↓reduceIte,reduceCtorEq,zq,zr,zs,zt,eD,aG,aU,if_false,Ie,unA,not_false_eq_true,not_true_eq_false,HQ, *])
  all_goals simp [bQ,wfM, *]
theorem BP (l:List Sm) (hl:l.length≤4611686018427387904) (hp:∀ x∈l,Pure Tryz.prog 131 [.agg (smE x)] (.bool (wfS x))):Pure Tryz.prog 104 [ay l] (.bool (l.all wfS)):=by
 have lv:=aO l
 refine Pure.of fun nx=>AC.go aj Em (by simp) ?_
 simp -implicitDefEqProofs only [RA,aa,zp,↓reduceIte,reduceCtorEq,zq,zr,zs,zt,G3,Br]
 refine aq (fun q st=>∃ i:Nat,q=l.length-i∧i≤l.length∧(l.take i).all wfS=true∧ab st.env 0=some (ay l)∧ab st.env 3=some (.int .i64 i)∧st.dm=[]) (n:=l.length) aj
  ⟨0,rfl,by omega,by simp,by simp [ab],by simp [ab],rfl⟩ ?_
 rintro q ⟨env,heap,nx',dm⟩ ⟨i,rfl,hi,hall,g0,g3,hdm⟩
 simp only at g0 g3 hdm
 subst hdm
 have f1:=wS (i:=i) (by omega)
 by_cases hc:(i:Int)<(l.length:Int)
 case neg =>
  have ha:l.all wfS=true:=by
   have ht:l.take i=l:=Ha (by omega)
   rw [ht] at hall;exact hall
  simp -implicitDefEqProofs only [RA,aa,zp,↓reduceIte,reduceCtorEq,zq,zr,zs,zt,sZ,pQ,g0,g3,lv,hc,ha,CG]
 have hr:=G7 (show i<l.length by omega)
 generalize l[i]=r at hr
 have ix:=eQ hr
 have hmem:=G8 hr
 have rl:=iL r
 have rt:=jS r
 simp -implicitDefEqProofs only [RA,aa,zp,↓reduceIte,reduceCtorEq,zq,zr,zs,zt,sZ,pQ,g0,g3,lv,hc,ix,rl,rt]
 refine (hp r hmem).use fun n1 hn1=>?_
 cases hw:wfS r with
 | false =>
  have ee:l.all wfS=false:=by rw [List.all_eq_false];exact ⟨r,hmem,by simp [hw]⟩
  simp -implicitDefEqProofs only [RA,aa,zp,↓reduceIte,reduceCtorEq,zq,zr,zs,zt,g0,g3,hw,unA,ee,CG]
 | true =>
  have hall2:(l.take (i+1)).all wfS=true:=by rw [az hr,List.all_append,hall];simp [hw]
  simp -implicitDefEqProofs only [RA,aa,zp,↓reduceIte,reduceCtorEq,zq,zr,zs,zt,g0,g3,hw,unA,f1]
  refine ⟨l.length-(i+1),by omega,i+1,?_⟩
  repeat' apply And.intro
  all_goals first|assumption|rfl|omega|(simp [ab, *];done)
theorem w131:∀ (m:Nat) (x:Sm),ff x≤m→ff x≤4611686018427387904→shS x→Pure Tryz.prog 131 [.agg (smE x)] (.bool (wfS x)):=by
 intro m
 induction m with
 | zero=>intro x hx;have:=jg x;omega
 | succ m ih =>
  rintro ⟨k,n,f,w,l,b,e⟩ hm hB hsh
  simp only [ff] at hm hB
  simp only [shS] at hsh
  obtain ⟨h1,h2,h3,h4,h5,h6⟩:=hsh
  have hlb:=bW b
  have hle:=bW e
  have cE:∀ r∈l,Pure Tryz.prog 47 [.agg (exE r)] (.bool (wfE r)):=fun x hx=>w47 _ x (Nat.le_refl _) (by have:=bL hx;omega) (iN h3 x hx)
  have cB:Pure Tryz.prog 104 [ay b] (.bool (b.all wfS)):=BP b (by omega) fun x hx=>ih x (by have:=dx hx;omega) (by have:=dx hx;omega) (fN h5 x hx)
  have cC:Pure Tryz.prog 104 [ay e] (.bool (e.all wfS)):=BP e (by omega) fun x hx=>ih x (by have:=dx hx;omega) (by have:=dx hx;omega) (fN h6 x hx)
  by_cases hk1:k=1
  ·subst hk1;exact BD w n f l b e h1 h2 h4 cE cB cC
  by_cases hk2:k=2
  ·subst hk2;exact BC w n f l b e h1 h2 h4 cE cB cC
  by_cases hk3:k=3
  ·subst hk3;exact BB w n f l b e h1 h2 h4 cE cB cC
  by_cases hk4:k=4
  ·subst hk4;exact BA w n f l b e h1 h2 h4 cE cB cC
  by_cases hk5:k=5
  ·subst hk5;exact Bz w n f l b e h1 h2 h4 cE cB cC
  by_cases hk6:k=6
  ·subst hk6;exact By w n f l b e h1 h2 h4 cE cB cC
  by_cases hk7:k=7
  ·subst hk7;exact Bx w n f l b e h1 h2 h4 cE cB cC
  by_cases hk8:k=8
  ·subst hk8;exact Bw w n f l b e h1 h2 h4 cE cB cC
  by_cases hk9:k=9
  ·subst hk9;exact Bv w n f l b e h1 h2 h4 cE cB cC
  exact Bu k w n f l b e h1 h2 h4 cE cB cC hk1 hk2 hk3 hk4 hk5 hk6 hk7 hk8 hk9
end Go.Proofs.YtgeieafamocnhaaGreatDoor
