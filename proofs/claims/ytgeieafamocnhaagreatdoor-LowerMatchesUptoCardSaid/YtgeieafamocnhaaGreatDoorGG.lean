/- Well-formed expressions. -/
import Derived.Test.YtgeieafamocnhaaGreatDoorGF
namespace Go.Proofs.YtgeieafamocnhaaGreatDoor
open List renaming getElem?_eq_getElem → G7, mem_of_getElem? → G8, take_of_length_le → Ha
open Bool renaming false_eq_true → HQ
open Int renaming reduceEq → Ie
set_option maxHeartbeats 64000000
open Go Go.Ab Go.Proofs
open Nat renaming reduceEqDiff → zp, reduceAdd → zq, reduceLeDiff → zr, reduceLT → zs, reduceBEq → zt
set_option linter.unusedVariables false
set_option linter.unusedSimpArgs false
set_option maxRecDepth 20000
def sgB (o:Int):Bool:=decide (5≤o)&&decide (o≤18)
def wfN (k w b:Int) (n:Nm) (o:Int) (len:Nat):Bool :=
 if k=1 then cm w&&okB w b&&(n==[])&&decide (o=0)&&decide (len=0)
 else if k=2 then du n&&decide (w=0)&&decide (b=0)&&decide (o=0)&&decide (len=0)
 else if k=3 then du n&&decide (w=0)&&decide (b=0)&&decide (o=0)&&decide (len=1)
 else if k=4∨k=5 then decide (w=0)&&decide (b=0)&&(n==[])&&decide (o=0)&&decide (len=1)
 else if k=6 then sgB o&&decide (w=0)&&decide (b=0)&&(n==[])&&decide (len=2)
 else if k=7∨k=8 then cm w&&decide (b=0)&&(n==[])&&decide (o=0)&&decide (len=1)
 else false
mutual
def wfE:Ex→Bool
 | .mk k w b n o s=>wfN k w b n o s.length&&yP s
def yP:List Ex→Bool
 | []=>true
 | x::r=>wfE x&&yP r
end
theorem pV:∀ l:List Ex,yP l=l.all wfE
 | []=>rfl
 | x::r=>by simp only [yP,List.all_cons,pV r]
theorem bZ (k w b:Int) (n:Nm) (o:Int) (s:List Ex):wfE (.mk k w b n o s)=(wfN k w b n o s.length&&s.all wfE):=by rw [wfE,pV]
mutual
def shE:Ex→Prop
 | .mk _ _ _ n _ s=>n.length≤100000∧uH s
def uH:List Ex→Prop
 | []=>True
 | x::r=>shE x∧uH r
end
theorem iN:∀ {l:List Ex},uH l→∀ x∈l,shE x
 | [],_,x,hx=>by simp at hx
 | y::r,h,x,hx=>by
  rcases List.mem_cons.1 hx with rfl|hx
  ·exact h.1
  ·exact iN h.2 x hx
theorem bL {l:List Ex} {x:Ex} (h:x∈l):bM x≤aN l:=by
 obtain ⟨i,hi⟩:=List.getElem?_of_mem h
 exact ii hi
theorem dE (k w b:Int) (n:Nm) (o:Int) (s:List Ex):exE (.mk k w b n o s)=[.int .u8 k,.int .i64 w,.int .u64 b,.str n,.int .u8 o,aR s]:=eT _
theorem aI {α:Type} (l:List α) (q:Int) (p:Nat) (h:q=p):((l.length:Int)=q)=(l.length=p):=propext (by omega)
theorem Dm (w b:Int) (n:Nm) (o:Int) (s:List Ex) (hsh:n.length≤100000) (hB:aN s≤4611686018427387904) (call:Pure Tryz.prog 81 [aR s,.fn (.func 38) []] (.bool (s.all wfE))):Pure Tryz.prog 38 [.agg (exE (.mk 1 w b n o s))] (.bool (wfE (.mk 1 w b n o s))):=by
 have hsl:=aE s
 have lv:=aP s
 refine Pure.of fun nx=>AC.go aj oM (by simp) ?_
 have nn:(nx+1=nx)=False:=eq_false (by omega)
 have n1:(nx=nx+1)=False:=eq_false (by omega)
 have z20:IntKind.u8.wrap ((2:Int)-2)=0:=by decide
 have z30:IntKind.u8.wrap ((3:Int)-2)=1:=by decide
 have z0:IntKind.i64.wrap 0=0:=by decide
 have z1:IntKind.i64.wrap 1=1:=by decide
 have nself:(n==n)=true:=by simp
 rw [dE]
 have i0:=aI s 0 0 rfl
 have i1:=aI s 1 1 rfl
 have i2:=aI s 2 2 rfl
 cases hn:(n==[])
 rotate_left
 rcases am (o=0) with ⟨-,ho⟩|⟨-,ho⟩
 rotate_left
 all_goals
  cases hs:(cm w)
  rotate_left
  cases hg:(okB w b)
  rotate_left
  rcases am (s.length=0) with ⟨-,hl⟩|⟨-,hl⟩
  rotate_left
  all_goals simp -implicitDefEqProofs only [RA,aa,zp,↓reduceIte,reduceCtorEq,zq,zr,zs,zt,A38,nl,R38,aG,aU,if_false,↓aT,↓aS,Ie,z20,z30,not_false_eq_true,not_true_eq_false,HQ, *]
  all_goals repeat' ((first|refine call.use fun _ _=>?_|refine (w78 w).use fun _ _=>?_|refine (w79 w b).use fun _ _=>?_|refine (w80 n hsh).use fun _ _=>?_);simp -implicitDefEqProofs only [RA,aa,zp,↓reduceIte,reduceCtorEq,zq,zr,zs,zt,R38,aG,aU,if_false,↓aT,↓aS,Ie,z20,z30,not_false_eq_true,not_true_eq_false,HQ, *])
  all_goals simp [bZ,wfN,sgB, *]
theorem Dl (w b:Int) (n:Nm) (o:Int) (s:List Ex) (hsh:n.length≤100000) (hB:aN s≤4611686018427387904) (call:Pure Tryz.prog 81 [aR s,.fn (.func 38) []] (.bool (s.all wfE))):Pure Tryz.prog 38 [.agg (exE (.mk 2 w b n o s))] (.bool (wfE (.mk 2 w b n o s))):=by
 have hsl:=aE s
 have lv:=aP s
 refine Pure.of fun nx=>AC.go aj oM (by simp) ?_
 have nn:(nx+1=nx)=False:=eq_false (by omega)
 have n1:(nx=nx+1)=False:=eq_false (by omega)
 have z20:IntKind.u8.wrap ((2:Int)-2)=0:=by decide
 have z30:IntKind.u8.wrap ((3:Int)-2)=1:=by decide
 have z0:IntKind.i64.wrap 0=0:=by decide
 have z1:IntKind.i64.wrap 1=1:=by decide
 have nself:(n==n)=true:=by simp
 rw [dE]
 have i0:=aI s 0 0 rfl
 have i1:=aI s 1 1 rfl
 have i2:=aI s 2 2 rfl
 rcases am (w=0) with ⟨-,hw⟩|⟨-,hw⟩
 rotate_left
 rcases am (b=0) with ⟨-,hb⟩|⟨-,hb⟩
 rotate_left
 rcases am (o=0) with ⟨-,ho⟩|⟨-,ho⟩
 rotate_left
 all_goals
  cases hm:(du n)
  rotate_left
  rcases am (s.length=0) with ⟨-,hl⟩|⟨-,hl⟩
  rotate_left
  all_goals simp -implicitDefEqProofs only [RA,aa,zp,↓reduceIte,reduceCtorEq,zq,zr,zs,zt,A38,nl,R38,aG,aU,if_false,↓aT,↓aS,Ie,z20,z30,not_false_eq_true,not_true_eq_false,HQ, *]
  all_goals repeat' ((first|refine call.use fun _ _=>?_|refine (w78 w).use fun _ _=>?_|refine (w79 w b).use fun _ _=>?_|refine (w80 n hsh).use fun _ _=>?_);simp -implicitDefEqProofs only [RA,aa,zp,↓reduceIte,reduceCtorEq,zq,zr,zs,zt,R38,aG,aU,if_false,↓aT,↓aS,Ie,z20,z30,not_false_eq_true,not_true_eq_false,HQ, *])
  all_goals simp [bZ,wfN,sgB, *]
theorem Dk (w b:Int) (n:Nm) (o:Int) (s:List Ex) (hsh:n.length≤100000) (hB:aN s≤4611686018427387904) (call:Pure Tryz.prog 81 [aR s,.fn (.func 38) []] (.bool (s.all wfE))):Pure Tryz.prog 38 [.agg (exE (.mk 3 w b n o s))] (.bool (wfE (.mk 3 w b n o s))):=by
 have hsl:=aE s
 have lv:=aP s
 refine Pure.of fun nx=>AC.go aj oM (by simp) ?_
 have nn:(nx+1=nx)=False:=eq_false (by omega)
 have n1:(nx=nx+1)=False:=eq_false (by omega)
 have z20:IntKind.u8.wrap ((2:Int)-2)=0:=by decide
 have z30:IntKind.u8.wrap ((3:Int)-2)=1:=by decide
 have z0:IntKind.i64.wrap 0=0:=by decide
 have z1:IntKind.i64.wrap 1=1:=by decide
 have nself:(n==n)=true:=by simp
 rw [dE]
 have i0:=aI s 0 0 rfl
 have i1:=aI s 1 1 rfl
 have i2:=aI s 2 2 rfl
 rcases am (w=0) with ⟨-,hw⟩|⟨-,hw⟩
 rotate_left
 rcases am (b=0) with ⟨-,hb⟩|⟨-,hb⟩
 rotate_left
 rcases am (o=0) with ⟨-,ho⟩|⟨-,ho⟩
 rotate_left
 all_goals
  cases hm:(du n)
  rotate_left
  rcases am (s.length=1) with ⟨-,hl⟩|⟨-,hl⟩
  rotate_left
  all_goals simp -implicitDefEqProofs only [RA,aa,zp,↓reduceIte,reduceCtorEq,zq,zr,zs,zt,A38,nl,R38,aG,aU,if_false,↓aT,↓aS,Ie,z20,z30,not_false_eq_true,not_true_eq_false,HQ, *]
  all_goals repeat' ((first|refine call.use fun _ _=>?_|refine (w78 w).use fun _ _=>?_|refine (w79 w b).use fun _ _=>?_|refine (w80 n hsh).use fun _ _=>?_);simp -implicitDefEqProofs only [RA,aa,zp,↓reduceIte,reduceCtorEq,zq,zr,zs,zt,R38,aG,aU,if_false,↓aT,↓aS,Ie,z20,z30,not_false_eq_true,not_true_eq_false,HQ, *])
  all_goals simp [bZ,wfN,sgB, *]
theorem Dj (w b:Int) (n:Nm) (o:Int) (s:List Ex) (hsh:n.length≤100000) (hB:aN s≤4611686018427387904) (call:Pure Tryz.prog 81 [aR s,.fn (.func 38) []] (.bool (s.all wfE))):Pure Tryz.prog 38 [.agg (exE (.mk 4 w b n o s))] (.bool (wfE (.mk 4 w b n o s))):=by
 have hsl:=aE s
 have lv:=aP s
 refine Pure.of fun nx=>AC.go aj oM (by simp) ?_
 have nn:(nx+1=nx)=False:=eq_false (by omega)
 have n1:(nx=nx+1)=False:=eq_false (by omega)
 have z20:IntKind.u8.wrap ((2:Int)-2)=0:=by decide
 have z30:IntKind.u8.wrap ((3:Int)-2)=1:=by decide
 have z0:IntKind.i64.wrap 0=0:=by decide
 have z1:IntKind.i64.wrap 1=1:=by decide
 have nself:(n==n)=true:=by simp
 rw [dE]
 have i0:=aI s 0 0 rfl
 have i1:=aI s 1 1 rfl
 have i2:=aI s 2 2 rfl
 rcases am (w=0) with ⟨-,hw⟩|⟨-,hw⟩
 rotate_left
 rcases am (b=0) with ⟨-,hb⟩|⟨-,hb⟩
 rotate_left
 cases hn:(n==[])
 rotate_left
 rcases am (o=0) with ⟨-,ho⟩|⟨-,ho⟩
 rotate_left
 all_goals
  rcases am (s.length=1) with ⟨-,hl⟩|⟨-,hl⟩
  rotate_left
  all_goals simp -implicitDefEqProofs only [RA,aa,zp,↓reduceIte,reduceCtorEq,zq,zr,zs,zt,A38,nl,R38,aG,aU,if_false,↓aT,↓aS,Ie,z20,z30,not_false_eq_true,not_true_eq_false,HQ, *]
  all_goals repeat' ((first|refine call.use fun _ _=>?_|refine (w78 w).use fun _ _=>?_|refine (w79 w b).use fun _ _=>?_|refine (w80 n hsh).use fun _ _=>?_);simp -implicitDefEqProofs only [RA,aa,zp,↓reduceIte,reduceCtorEq,zq,zr,zs,zt,R38,aG,aU,if_false,↓aT,↓aS,Ie,z20,z30,not_false_eq_true,not_true_eq_false,HQ, *])
  all_goals simp [bZ,wfN,sgB, *]
theorem Di (w b:Int) (n:Nm) (o:Int) (s:List Ex) (hsh:n.length≤100000) (hB:aN s≤4611686018427387904) (call:Pure Tryz.prog 81 [aR s,.fn (.func 38) []] (.bool (s.all wfE))):Pure Tryz.prog 38 [.agg (exE (.mk 5 w b n o s))] (.bool (wfE (.mk 5 w b n o s))):=by
 have hsl:=aE s
 have lv:=aP s
 refine Pure.of fun nx=>AC.go aj oM (by simp) ?_
 have nn:(nx+1=nx)=False:=eq_false (by omega)
 have n1:(nx=nx+1)=False:=eq_false (by omega)
 have z20:IntKind.u8.wrap ((2:Int)-2)=0:=by decide
 have z30:IntKind.u8.wrap ((3:Int)-2)=1:=by decide
 have z0:IntKind.i64.wrap 0=0:=by decide
 have z1:IntKind.i64.wrap 1=1:=by decide
 have nself:(n==n)=true:=by simp
 rw [dE]
 have i0:=aI s 0 0 rfl
 have i1:=aI s 1 1 rfl
 have i2:=aI s 2 2 rfl
 rcases am (w=0) with ⟨-,hw⟩|⟨-,hw⟩
 rotate_left
 rcases am (b=0) with ⟨-,hb⟩|⟨-,hb⟩
 rotate_left
 cases hn:(n==[])
 rotate_left
 rcases am (o=0) with ⟨-,ho⟩|⟨-,ho⟩
 rotate_left
 all_goals
  rcases am (s.length=1) with ⟨-,hl⟩|⟨-,hl⟩
  rotate_left
  all_goals simp -implicitDefEqProofs only [RA,aa,zp,↓reduceIte,reduceCtorEq,zq,zr,zs,zt,A38,nl,R38,aG,aU,if_false,↓aT,↓aS,Ie,z20,z30,not_false_eq_true,not_true_eq_false,HQ, *]
  all_goals repeat' ((first|refine call.use fun _ _=>?_|refine (w78 w).use fun _ _=>?_|refine (w79 w b).use fun _ _=>?_|refine (w80 n hsh).use fun _ _=>?_);simp -implicitDefEqProofs only [RA,aa,zp,↓reduceIte,reduceCtorEq,zq,zr,zs,zt,R38,aG,aU,if_false,↓aT,↓aS,Ie,z20,z30,not_false_eq_true,not_true_eq_false,HQ, *])
  all_goals simp [bZ,wfN,sgB, *]
theorem Dh (w b:Int) (n:Nm) (o:Int) (s:List Ex) (hsh:n.length≤100000) (hB:aN s≤4611686018427387904) (call:Pure Tryz.prog 81 [aR s,.fn (.func 38) []] (.bool (s.all wfE))):Pure Tryz.prog 38 [.agg (exE (.mk 6 w b n o s))] (.bool (wfE (.mk 6 w b n o s))):=by
 have hsl:=aE s
 have lv:=aP s
 refine Pure.of fun nx=>AC.go aj oM (by simp) ?_
 have nn:(nx+1=nx)=False:=eq_false (by omega)
 have n1:(nx=nx+1)=False:=eq_false (by omega)
 have z20:IntKind.u8.wrap ((2:Int)-2)=0:=by decide
 have z30:IntKind.u8.wrap ((3:Int)-2)=1:=by decide
 have z0:IntKind.i64.wrap 0=0:=by decide
 have z1:IntKind.i64.wrap 1=1:=by decide
 have nself:(n==n)=true:=by simp
 rw [dE]
 have i0:=aI s 0 0 rfl
 have i1:=aI s 1 1 rfl
 have i2:=aI s 2 2 rfl
 rcases am (w=0) with ⟨-,hw⟩|⟨-,hw⟩
 rotate_left
 rcases am (b=0) with ⟨-,hb⟩|⟨-,hb⟩
 rotate_left
 cases hn:(n==[])
 rotate_left
 all_goals
  rcases am (5≤o) with ⟨-,h5⟩|⟨-,h5⟩
  rotate_left
  rcases am (o≤18) with ⟨-,h18⟩|⟨-,h18⟩
  rotate_left
  rcases am (s.length=2) with ⟨-,hl⟩|⟨-,hl⟩
  rotate_left
  all_goals simp -implicitDefEqProofs only [RA,aa,zp,↓reduceIte,reduceCtorEq,zq,zr,zs,zt,A38,nl,R38,aG,aU,if_false,↓aT,↓aS,Ie,z20,z30,not_false_eq_true,not_true_eq_false,HQ, *]
  all_goals repeat' ((first|refine call.use fun _ _=>?_|refine (w78 w).use fun _ _=>?_|refine (w79 w b).use fun _ _=>?_|refine (w80 n hsh).use fun _ _=>?_);simp -implicitDefEqProofs only [RA,aa,zp,↓reduceIte,reduceCtorEq,zq,zr,zs,zt,R38,aG,aU,if_false,↓aT,↓aS,Ie,z20,z30,not_false_eq_true,not_true_eq_false,HQ, *])
  all_goals simp [bZ,wfN,sgB, *]
theorem Dg (w b:Int) (n:Nm) (o:Int) (s:List Ex) (hsh:n.length≤100000) (hB:aN s≤4611686018427387904) (call:Pure Tryz.prog 81 [aR s,.fn (.func 38) []] (.bool (s.all wfE))):Pure Tryz.prog 38 [.agg (exE (.mk 7 w b n o s))] (.bool (wfE (.mk 7 w b n o s))):=by
 have hsl:=aE s
 have lv:=aP s
 refine Pure.of fun nx=>AC.go aj oM (by simp) ?_
 have nn:(nx+1=nx)=False:=eq_false (by omega)
 have n1:(nx=nx+1)=False:=eq_false (by omega)
 have z20:IntKind.u8.wrap ((2:Int)-2)=0:=by decide
 have z30:IntKind.u8.wrap ((3:Int)-2)=1:=by decide
 have z0:IntKind.i64.wrap 0=0:=by decide
 have z1:IntKind.i64.wrap 1=1:=by decide
 have nself:(n==n)=true:=by simp
 rw [dE]
 have i0:=aI s 0 0 rfl
 have i1:=aI s 1 1 rfl
 have i2:=aI s 2 2 rfl
 rcases am (b=0) with ⟨-,hb⟩|⟨-,hb⟩
 rotate_left
 cases hn:(n==[])
 rotate_left
 rcases am (o=0) with ⟨-,ho⟩|⟨-,ho⟩
 rotate_left
 all_goals
  cases hs:(cm w)
  rotate_left
  rcases am (s.length=1) with ⟨-,hl⟩|⟨-,hl⟩
  rotate_left
  all_goals simp -implicitDefEqProofs only [RA,aa,zp,↓reduceIte,reduceCtorEq,zq,zr,zs,zt,A38,nl,R38,aG,aU,if_false,↓aT,↓aS,Ie,z20,z30,not_false_eq_true,not_true_eq_false,HQ, *]
  all_goals repeat' ((first|refine call.use fun _ _=>?_|refine (w78 w).use fun _ _=>?_|refine (w79 w b).use fun _ _=>?_|refine (w80 n hsh).use fun _ _=>?_);simp -implicitDefEqProofs only [RA,aa,zp,↓reduceIte,reduceCtorEq,zq,zr,zs,zt,R38,aG,aU,if_false,↓aT,↓aS,Ie,z20,z30,not_false_eq_true,not_true_eq_false,HQ, *])
  all_goals simp [bZ,wfN,sgB, *]
theorem Df (w b:Int) (n:Nm) (o:Int) (s:List Ex) (hsh:n.length≤100000) (hB:aN s≤4611686018427387904) (call:Pure Tryz.prog 81 [aR s,.fn (.func 38) []] (.bool (s.all wfE))):Pure Tryz.prog 38 [.agg (exE (.mk 8 w b n o s))] (.bool (wfE (.mk 8 w b n o s))):=by
 have hsl:=aE s
 have lv:=aP s
 refine Pure.of fun nx=>AC.go aj oM (by simp) ?_
 have nn:(nx+1=nx)=False:=eq_false (by omega)
 have n1:(nx=nx+1)=False:=eq_false (by omega)
 have z20:IntKind.u8.wrap ((2:Int)-2)=0:=by decide
 have z30:IntKind.u8.wrap ((3:Int)-2)=1:=by decide
 have z0:IntKind.i64.wrap 0=0:=by decide
 have z1:IntKind.i64.wrap 1=1:=by decide
 have nself:(n==n)=true:=by simp
 rw [dE]
 have i0:=aI s 0 0 rfl
 have i1:=aI s 1 1 rfl
 have i2:=aI s 2 2 rfl
 rcases am (b=0) with ⟨-,hb⟩|⟨-,hb⟩
 rotate_left
 cases hn:(n==[])
 rotate_left
 rcases am (o=0) with ⟨-,ho⟩|⟨-,ho⟩
 rotate_left
 all_goals
  cases hs:(cm w)
  rotate_left
  rcases am (s.length=1) with ⟨-,hl⟩|⟨-,hl⟩
  rotate_left
  all_goals simp -implicitDefEqProofs only [RA,aa,zp,↓reduceIte,reduceCtorEq,zq,zr,zs,zt,A38,nl,R38,aG,aU,if_false,↓aT,↓aS,Ie,z20,z30,not_false_eq_true,not_true_eq_false,HQ, *]
  all_goals repeat' ((first|refine call.use fun _ _=>?_|refine (w78 w).use fun _ _=>?_|refine (w79 w b).use fun _ _=>?_|refine (w80 n hsh).use fun _ _=>?_);simp -implicitDefEqProofs only [RA,aa,zp,↓reduceIte,reduceCtorEq,zq,zr,zs,zt,R38,aG,aU,if_false,↓aT,↓aS,Ie,z20,z30,not_false_eq_true,not_true_eq_false,HQ, *])
  all_goals simp [bZ,wfN,sgB, *]
theorem De (k w b:Int) (n:Nm) (o:Int) (s:List Ex) (hsh:n.length≤100000) (hB:aN s≤4611686018427387904) (call:Pure Tryz.prog 81 [aR s,.fn (.func 38) []] (.bool (s.all wfE))) (hk1:k≠1) (hk2:k≠2) (hk3:k≠3) (hk4:k≠4) (hk5:k≠5) (hk6:k≠6) (hk7:k≠7) (hk8:k≠8):Pure Tryz.prog 38 [.agg (exE (.mk k w b n o s))] (.bool (wfE (.mk k w b n o s))):=by
 have hsl:=aE s
 have lv:=aP s
 refine Pure.of fun nx=>AC.go aj oM (by simp) ?_
 have nn:(nx+1=nx)=False:=eq_false (by omega)
 have n1:(nx=nx+1)=False:=eq_false (by omega)
 have z20:IntKind.u8.wrap ((2:Int)-2)=0:=by decide
 have z30:IntKind.u8.wrap ((3:Int)-2)=1:=by decide
 have z0:IntKind.i64.wrap 0=0:=by decide
 have z1:IntKind.i64.wrap 1=1:=by decide
 have nself:(n==n)=true:=by simp
 rw [dE]
 have kd1:(k=1)=False:=eq_false hk1
 have kd2:(k=2)=False:=eq_false hk2
 have kd3:(k=3)=False:=eq_false hk3
 have kd4:(k=4)=False:=eq_false hk4
 have kd5:(k=5)=False:=eq_false hk5
 have kd6:(k=6)=False:=eq_false hk6
 have kd7:(k=7)=False:=eq_false hk7
 have kd8:(k=8)=False:=eq_false hk8
 rcases am (w=0) with ⟨-,hw⟩|⟨-,hw⟩
 rotate_left
 rcases am (b=0) with ⟨-,hb⟩|⟨-,hb⟩
 rotate_left
 cases hn:(n==[])
 rotate_left
 rcases am (o=0) with ⟨-,ho⟩|⟨-,ho⟩
 rotate_left
 all_goals simp -implicitDefEqProofs only [RA,aa,zp,↓reduceIte,reduceCtorEq,zq,zr,zs,zt,A38,nl,R38,aG,aU,if_false,↓aT,↓aS,Ie,z20,z30,not_false_eq_true,not_true_eq_false,HQ, *]
 all_goals repeat' ((first|refine call.use fun _ _=>?_|refine (w78 w).use fun _ _=>?_|refine (w79 w b).use fun _ _=>?_|refine (w80 n hsh).use fun _ _=>?_);simp -implicitDefEqProofs only [RA,aa,zp,↓reduceIte,reduceCtorEq,zq,zr,zs,zt,R38,aG,aU,if_false,↓aT,↓aS,Ie,z20,z30,not_false_eq_true,not_true_eq_false,HQ, *])
 all_goals simp [bZ,wfN,sgB, *]
theorem w38:∀ (m:Nat) (x:Ex),bM x≤m→bM x≤4611686018427387904→shE x→Pure Tryz.prog 38 [.agg (exE x)] (.bool (wfE x)):=by
 intro m
 induction m with
 | zero=>intro x hx;have:=cV x;omega
 | succ m ih =>
  rintro ⟨k,w,b,n,o,s⟩ hm hB hsh
  rw [fT] at hm hB
  simp only [Ex.sub] at hm hB
  simp only [shE] at hsh
  have hsl:=aE s
  have hB':aN s≤4611686018427387904:=by omega
  have call:Pure Tryz.prog 81 [aR s,.fn (.func 38) []] (.bool (s.all wfE)):=w81 wfE s (by omega) fun x hx=>ih x (by have:=bL hx;omega) (by have:=bL hx;omega) (iN hsh.2 x hx)
  by_cases hk1:k=1
  ·subst hk1;exact Dm w b n o s hsh.1 hB' call
  by_cases hk2:k=2
  ·subst hk2;exact Dl w b n o s hsh.1 hB' call
  by_cases hk3:k=3
  ·subst hk3;exact Dk w b n o s hsh.1 hB' call
  by_cases hk4:k=4
  ·subst hk4;exact Dj w b n o s hsh.1 hB' call
  by_cases hk5:k=5
  ·subst hk5;exact Di w b n o s hsh.1 hB' call
  by_cases hk6:k=6
  ·subst hk6;exact Dh w b n o s hsh.1 hB' call
  by_cases hk7:k=7
  ·subst hk7;exact Dg w b n o s hsh.1 hB' call
  by_cases hk8:k=8
  ·subst hk8;exact Df w b n o s hsh.1 hB' call
  exact De k w b n o s hsh.1 hB' call hk1 hk2 hk3 hk4 hk5 hk6 hk7 hk8
def fg (o:Int):Nm:=if o=5 then [43] else if o=6 then [45] else if o=7 then [42] else if o=8 then [38] else if o=9 then [124] else if o=10 then [94] else if o=11 then [60,60] else if o=12 then [62,62] else if o=13 then [126,62] else if o=14 then [47] else if o=15 then [37] else if o=16 then [61,61] else if o=17 then [60] else if o=18 then [60,126] else []
theorem w98 (o:Int):Pure Tryz.prog 98 [.int .u8 o] (.str (fg o)):=by
 refine Pure.of fun nx=>AC.go aj is98 (by simp) ?_
 rcases ah (o=5) with ⟨c5,d5⟩|⟨c5,d5⟩
 ·subst c5;simp -implicitDefEqProofs only [RA,aa,zp,↓reduceIte,reduceCtorEq,zq,zr,zs,zt,A98,ju,fg,Ie,R98,if_false]
 rcases ah (o=6) with ⟨c6,d6⟩|⟨c6,d6⟩
 ·subst c6;simp -implicitDefEqProofs only [RA,aa,zp,↓reduceIte,reduceCtorEq,zq,zr,zs,zt,A98,ju,fg,Ie,R98,if_false]
 rcases ah (o=7) with ⟨c7,d7⟩|⟨c7,d7⟩
 ·subst c7;simp -implicitDefEqProofs only [RA,aa,zp,↓reduceIte,reduceCtorEq,zq,zr,zs,zt,A98,ju,fg,Ie,R98,if_false]
 rcases ah (o=8) with ⟨c8,d8⟩|⟨c8,d8⟩
 ·subst c8;simp -implicitDefEqProofs only [RA,aa,zp,↓reduceIte,reduceCtorEq,zq,zr,zs,zt,A98,ju,fg,Ie,R98,if_false]
 rcases ah (o=9) with ⟨c9,d9⟩|⟨c9,d9⟩
 ·subst c9;simp -implicitDefEqProofs only [RA,aa,zp,↓reduceIte,reduceCtorEq,zq,zr,zs,zt,A98,ju,fg,Ie,R98,if_false]
 rcases ah (o=10) with ⟨c10,d10⟩|⟨c10,d10⟩
 ·subst c10;simp -implicitDefEqProofs only [RA,aa,zp,↓reduceIte,reduceCtorEq,zq,zr,zs,zt,A98,ju,fg,Ie,R98,if_false]
 rcases ah (o=11) with ⟨c11,d11⟩|⟨c11,d11⟩
 ·subst c11;simp -implicitDefEqProofs only [RA,aa,zp,↓reduceIte,reduceCtorEq,zq,zr,zs,zt,A98,ju,fg,Ie,R98,if_false]
 rcases ah (o=12) with ⟨c12,d12⟩|⟨c12,d12⟩
 ·subst c12;simp -implicitDefEqProofs only [RA,aa,zp,↓reduceIte,reduceCtorEq,zq,zr,zs,zt,A98,ju,fg,Ie,R98,if_false]
 rcases ah (o=13) with ⟨c13,d13⟩|⟨c13,d13⟩
 ·subst c13;simp -implicitDefEqProofs only [RA,aa,zp,↓reduceIte,reduceCtorEq,zq,zr,zs,zt,A98,ju,fg,Ie,R98,if_false]
 rcases ah (o=14) with ⟨c14,d14⟩|⟨c14,d14⟩
 ·subst c14;simp -implicitDefEqProofs only [RA,aa,zp,↓reduceIte,reduceCtorEq,zq,zr,zs,zt,A98,ju,fg,Ie,R98,if_false]
 rcases ah (o=15) with ⟨c15,d15⟩|⟨c15,d15⟩
 ·subst c15;simp -implicitDefEqProofs only [RA,aa,zp,↓reduceIte,reduceCtorEq,zq,zr,zs,zt,A98,ju,fg,Ie,R98,if_false]
 rcases ah (o=16) with ⟨c16,d16⟩|⟨c16,d16⟩
 ·subst c16;simp -implicitDefEqProofs only [RA,aa,zp,↓reduceIte,reduceCtorEq,zq,zr,zs,zt,A98,ju,fg,Ie,R98,if_false]
 rcases ah (o=17) with ⟨c17,d17⟩|⟨c17,d17⟩
 ·subst c17;simp -implicitDefEqProofs only [RA,aa,zp,↓reduceIte,reduceCtorEq,zq,zr,zs,zt,A98,ju,fg,Ie,R98,if_false]
 rcases ah (o=18) with ⟨c18,d18⟩|⟨c18,d18⟩
 ·subst c18;simp -implicitDefEqProofs only [RA,aa,zp,↓reduceIte,reduceCtorEq,zq,zr,zs,zt,A98,ju,fg,Ie,R98,if_false]
 simp -implicitDefEqProofs only [RA,aa,zp,↓reduceIte,reduceCtorEq,zq,zr,zs,zt,A98,ju,fg,d5,d6,d7,d8,d9,d10,d11,d12,d13,d14,d15,d16,d17,d18,R98,if_false]
theorem v8 (o:Int):aU .neq (fg o) []=some (.bool (sgB o)):=by
 simp only [aU]
 congr 2
 rcases ah (o=5) with ⟨c5,d5⟩|⟨c5,d5⟩
 ·subst c5;rfl
 rcases ah (o=6) with ⟨c6,d6⟩|⟨c6,d6⟩
 ·subst c6;rfl
 rcases ah (o=7) with ⟨c7,d7⟩|⟨c7,d7⟩
 ·subst c7;rfl
 rcases ah (o=8) with ⟨c8,d8⟩|⟨c8,d8⟩
 ·subst c8;rfl
 rcases ah (o=9) with ⟨c9,d9⟩|⟨c9,d9⟩
 ·subst c9;rfl
 rcases ah (o=10) with ⟨c10,d10⟩|⟨c10,d10⟩
 ·subst c10;rfl
 rcases ah (o=11) with ⟨c11,d11⟩|⟨c11,d11⟩
 ·subst c11;rfl
 rcases ah (o=12) with ⟨c12,d12⟩|⟨c12,d12⟩
 ·subst c12;rfl
 rcases ah (o=13) with ⟨c13,d13⟩|⟨c13,d13⟩
 ·subst c13;rfl
 rcases ah (o=14) with ⟨c14,d14⟩|⟨c14,d14⟩
 ·subst c14;rfl
 rcases ah (o=15) with ⟨c15,d15⟩|⟨c15,d15⟩
 ·subst c15;rfl
 rcases ah (o=16) with ⟨c16,d16⟩|⟨c16,d16⟩
 ·subst c16;rfl
 rcases ah (o=17) with ⟨c17,d17⟩|⟨c17,d17⟩
 ·subst c17;rfl
 rcases ah (o=18) with ⟨c18,d18⟩|⟨c18,d18⟩
 ·subst c18;rfl
 have:sgB o=false:=by simp only [sgB];cases h:decide (5≤o) <;> simp at h ⊢;omega
 rw [this]
 simp [fg,d5,d6,d7,d8,d9,d10,d11,d12,d13,d14,d15,d16,d17,d18]
theorem qe {w b:Int} (h:cm w=true):decide (b<IntKind.u64.wrap (1*2 ^ (min (IntKind.u64.wrap w).toNat IntKind.u64.bits)))=okB w b:=by
 simp only [cm,Bool.or_eq_true,decide_eq_true_eq] at h
 rcases h with ((rfl|rfl)|rfl)|rfl <;> (unfold okB wK wide;simp [IntKind.wrap,IntKind.bits,IntKind.signed];omega)
theorem tb {w:Int} (h:cm w=true):0≤IntKind.u64.wrap w:=by
 simp only [cm,Bool.or_eq_true,decide_eq_true_eq] at h
 rcases h with ((rfl|rfl)|rfl)|rfl <;> decide
theorem Dd (w b:Int) (n:Nm) (o:Int) (s:List Ex) (hsh:n.length≤100000) (hB:aN s≤4611686018427387904) (ih:∀ r∈s,Pure Tryz.prog 47 [.agg (exE r)] (.bool (wfE r))):Pure Tryz.prog 47 [.agg (exE (.mk 1 w b n o s))] (.bool (wfE (.mk 1 w b n o s))):=by
 have hsl:=aE s
 have lv:=aP s
 refine Pure.of fun nx=>AC.go aj oL (by simp) ?_
 have nself:(n==n)=true:=by simp
 rw [dE]
 simp -implicitDefEqProofs only [RA,aa,zp,↓reduceIte,reduceCtorEq,zq,zr,zs,zt,A47,nk,lv]
 refine aq (fun q st=>∃ i:Nat,q=s.length-i∧i≤s.length∧(s.take i).all wfE=true∧ab st.env 1=some (.op nx 0)∧ab st.env 3=some (.int .i64 i)∧af st.heap nx=some (.cells [.int .u8 1,.int .i64 w,.int .u64 b,.str n,.int .u8 o,aR s])∧st.dm=[]) (n:=s.length) aj
  ⟨0,rfl,by omega,by simp,by simp [ab],by simp [ab],by simp [af],rfl⟩ ?_
 rintro q ⟨env,heap,nx',dm⟩ ⟨i,rfl,hi,hall,g1,g3,gh,hdm⟩
 simp only at g1 g3 gh hdm
 subst hdm
 have f1:=wS (i:=i) (by omega)
 by_cases hc:(i:Int)<(s.length:Int)
 case pos =>
  have hr:=G7 (show i<s.length by omega)
  generalize s[i]=r at hr
  have ix:=bA hr
  have hmem:=G8 hr
  have rl:=bI r
  have rt:=bC r
  simp -implicitDefEqProofs only [RA,aa,zp,↓reduceIte,reduceCtorEq,zq,zr,zs,zt,eM,dp,g1,g3,gh,lv,hc,ix,rl,rt]
  refine (ih r hmem).use fun n1 hn1=>?_
  cases hw:wfE r with
  | false =>
   have e:wfE (.mk 1 w b n o s)=false:=by
    have:s.all wfE=false:=by rw [List.all_eq_false];exact ⟨r,hmem,by simp [hw]⟩
    simp [bZ,this]
   simp -implicitDefEqProofs only [RA,aa,zp,↓reduceIte,reduceCtorEq,zq,zr,zs,zt,g1,g3,gh,hw,unA,e,R47]
  | true =>
   have hall2:(s.take (i+1)).all wfE=true:=by rw [az hr,List.all_append,hall];simp [hw]
   simp -implicitDefEqProofs only [RA,aa,zp,↓reduceIte,reduceCtorEq,zq,zr,zs,zt,g1,g3,gh,hw,unA,f1]
   refine ⟨s.length-(i+1),by omega,i+1,?_⟩
   repeat' apply And.intro
   all_goals first|assumption|rfl|omega|(simp [ab, *];done)
 have hsa:s.all wfE=true:=by
  have ht:s.take i=s:=Ha (by omega)
  rw [ht] at hall;exact hall
 clear ih
 have i0:=aI s 0 0 rfl
 have i1:=aI s 1 1 rfl
 have i2:=aI s 2 2 rfl
 cases hs:(cm w)
 all_goals rcases am (w=0) with ⟨-,hw⟩|⟨-,hw⟩
 all_goals rcases am (b=0) with ⟨-,hb⟩|⟨-,hb⟩
 all_goals rcases am (o=0) with ⟨-,ho⟩|⟨-,ho⟩
 all_goals
  cases hg:(okB w b)
  rotate_left
  cases hn:(n==[])
  rotate_left
  rcases am (s.length=0) with ⟨-,hl⟩|⟨-,hl⟩
  rotate_left
  all_goals first|(have sh:=qe (w:=w) (b:=b) hs;have sz:=tb hs;simp -implicitDefEqProofs only [RA,aa,zp,↓reduceIte,reduceCtorEq,zq,zr,zs,zt,eM,dp,R47,aG,aU,if_false,Ie,not_false_eq_true,not_true_eq_false,HQ,AI _ _ _ _ sz, *])|simp -implicitDefEqProofs only [RA,aa,zp,↓reduceIte,reduceCtorEq,zq,zr,zs,zt,eM,dp,R47,aG,aU,if_false,Ie,not_false_eq_true,not_true_eq_false,HQ, *]
  all_goals repeat' ((first|refine (w96 w).use fun _ _=>?_);first|(have sh:=qe (w:=w) (b:=b) hs;have sz:=tb hs;simp -implicitDefEqProofs only [RA,aa,zp,↓reduceIte,reduceCtorEq,zq,zr,zs,zt,R47,aG,aU,if_false,Ie,not_false_eq_true,not_true_eq_false,HQ,AI _ _ _ _ sz, *])|simp -implicitDefEqProofs only [RA,aa,zp,↓reduceIte,reduceCtorEq,zq,zr,zs,zt,R47,aG,aU,if_false,Ie,not_false_eq_true,not_true_eq_false,HQ, *])
  all_goals simp [bZ,wfN, *]
theorem Dc (w b:Int) (n:Nm) (o:Int) (s:List Ex) (hsh:n.length≤100000) (hB:aN s≤4611686018427387904) (ih:∀ r∈s,Pure Tryz.prog 47 [.agg (exE r)] (.bool (wfE r))):Pure Tryz.prog 47 [.agg (exE (.mk 2 w b n o s))] (.bool (wfE (.mk 2 w b n o s))):=by
 have hsl:=aE s
 have lv:=aP s
 refine Pure.of fun nx=>AC.go aj oL (by simp) ?_
 have nself:(n==n)=true:=by simp
 rw [dE]
 simp -implicitDefEqProofs only [RA,aa,zp,↓reduceIte,reduceCtorEq,zq,zr,zs,zt,A47,nk,lv]
 refine aq (fun q st=>∃ i:Nat,q=s.length-i∧i≤s.length∧(s.take i).all wfE=true∧ab st.env 1=some (.op nx 0)∧ab st.env 3=some (.int .i64 i)∧af st.heap nx=some (.cells [.int .u8 2,.int .i64 w,.int .u64 b,.str n,.int .u8 o,aR s])∧st.dm=[]) (n:=s.length) aj
  ⟨0,rfl,by omega,by simp,by simp [ab],by simp [ab],by simp [af],rfl⟩ ?_
 rintro q ⟨env,heap,nx',dm⟩ ⟨i,rfl,hi,hall,g1,g3,gh,hdm⟩
 simp only at g1 g3 gh hdm
 subst hdm
 have f1:=wS (i:=i) (by omega)
 by_cases hc:(i:Int)<(s.length:Int)
 case pos =>
  have hr:=G7 (show i<s.length by omega)
  generalize s[i]=r at hr
  have ix:=bA hr
  have hmem:=G8 hr
  have rl:=bI r
  have rt:=bC r
  simp -implicitDefEqProofs only [RA,aa,zp,↓reduceIte,reduceCtorEq,zq,zr,zs,zt,eM,dp,g1,g3,gh,lv,hc,ix,rl,rt]
  refine (ih r hmem).use fun n1 hn1=>?_
  cases hw:wfE r with
  | false =>
   have e:wfE (.mk 2 w b n o s)=false:=by
    have:s.all wfE=false:=by rw [List.all_eq_false];exact ⟨r,hmem,by simp [hw]⟩
    simp [bZ,this]
   simp -implicitDefEqProofs only [RA,aa,zp,↓reduceIte,reduceCtorEq,zq,zr,zs,zt,g1,g3,gh,hw,unA,e,R47]
  | true =>
   have hall2:(s.take (i+1)).all wfE=true:=by rw [az hr,List.all_append,hall];simp [hw]
   simp -implicitDefEqProofs only [RA,aa,zp,↓reduceIte,reduceCtorEq,zq,zr,zs,zt,g1,g3,gh,hw,unA,f1]
   refine ⟨s.length-(i+1),by omega,i+1,?_⟩
   repeat' apply And.intro
   all_goals first|assumption|rfl|omega|(simp [ab, *];done)
 have hsa:s.all wfE=true:=by
  have ht:s.take i=s:=Ha (by omega)
  rw [ht] at hall;exact hall
 clear ih
 have i0:=aI s 0 0 rfl
 have i1:=aI s 1 1 rfl
 have i2:=aI s 2 2 rfl
 all_goals rcases am (w=0) with ⟨-,hw⟩|⟨-,hw⟩
 all_goals rcases am (b=0) with ⟨-,hb⟩|⟨-,hb⟩
 all_goals rcases am (o=0) with ⟨-,ho⟩|⟨-,ho⟩
 all_goals
  cases hm:(du n)
  rotate_left
  rcases am (s.length=0) with ⟨-,hl⟩|⟨-,hl⟩
  rotate_left
  all_goals simp -implicitDefEqProofs only [RA,aa,zp,↓reduceIte,reduceCtorEq,zq,zr,zs,zt,eM,dp,R47,aG,aU,if_false,Ie,not_false_eq_true,not_true_eq_false,HQ, *]
  all_goals repeat' ((first|refine (w96 w).use fun _ _=>?_|refine (w97 n hsh).use fun _ _=>?_|refine (w98 o).use fun _ _=>?_);simp -implicitDefEqProofs only [RA,aa,zp,↓reduceIte,reduceCtorEq,zq,zr,zs,zt,R47,aG,aU,if_false,Ie,not_false_eq_true,not_true_eq_false,HQ, *])
  all_goals simp [bZ,wfN, *]
theorem Db (w b:Int) (n:Nm) (o:Int) (s:List Ex) (hsh:n.length≤100000) (hB:aN s≤4611686018427387904) (ih:∀ r∈s,Pure Tryz.prog 47 [.agg (exE r)] (.bool (wfE r))):Pure Tryz.prog 47 [.agg (exE (.mk 3 w b n o s))] (.bool (wfE (.mk 3 w b n o s))):=by
 have hsl:=aE s
 have lv:=aP s
 refine Pure.of fun nx=>AC.go aj oL (by simp) ?_
 have nself:(n==n)=true:=by simp
 rw [dE]
 simp -implicitDefEqProofs only [RA,aa,zp,↓reduceIte,reduceCtorEq,zq,zr,zs,zt,A47,nk,lv]
 refine aq (fun q st=>∃ i:Nat,q=s.length-i∧i≤s.length∧(s.take i).all wfE=true∧ab st.env 1=some (.op nx 0)∧ab st.env 3=some (.int .i64 i)∧af st.heap nx=some (.cells [.int .u8 3,.int .i64 w,.int .u64 b,.str n,.int .u8 o,aR s])∧st.dm=[]) (n:=s.length) aj
  ⟨0,rfl,by omega,by simp,by simp [ab],by simp [ab],by simp [af],rfl⟩ ?_
 rintro q ⟨env,heap,nx',dm⟩ ⟨i,rfl,hi,hall,g1,g3,gh,hdm⟩
 simp only at g1 g3 gh hdm
 subst hdm
 have f1:=wS (i:=i) (by omega)
 by_cases hc:(i:Int)<(s.length:Int)
 case pos =>
  have hr:=G7 (show i<s.length by omega)
  generalize s[i]=r at hr
  have ix:=bA hr
  have hmem:=G8 hr
  have rl:=bI r
  have rt:=bC r
  simp -implicitDefEqProofs only [RA,aa,zp,↓reduceIte,reduceCtorEq,zq,zr,zs,zt,eM,dp,g1,g3,gh,lv,hc,ix,rl,rt]
  refine (ih r hmem).use fun n1 hn1=>?_
  cases hw:wfE r with
  | false =>
   have e:wfE (.mk 3 w b n o s)=false:=by
    have:s.all wfE=false:=by rw [List.all_eq_false];exact ⟨r,hmem,by simp [hw]⟩
    simp [bZ,this]
   simp -implicitDefEqProofs only [RA,aa,zp,↓reduceIte,reduceCtorEq,zq,zr,zs,zt,g1,g3,gh,hw,unA,e,R47]
  | true =>
   have hall2:(s.take (i+1)).all wfE=true:=by rw [az hr,List.all_append,hall];simp [hw]
   simp -implicitDefEqProofs only [RA,aa,zp,↓reduceIte,reduceCtorEq,zq,zr,zs,zt,g1,g3,gh,hw,unA,f1]
   refine ⟨s.length-(i+1),by omega,i+1,?_⟩
   repeat' apply And.intro
   all_goals first|assumption|rfl|omega|(simp [ab, *];done)
 have hsa:s.all wfE=true:=by
  have ht:s.take i=s:=Ha (by omega)
  rw [ht] at hall;exact hall
 clear ih
 have i0:=aI s 0 0 rfl
 have i1:=aI s 1 1 rfl
 have i2:=aI s 2 2 rfl
 all_goals rcases am (w=0) with ⟨-,hw⟩|⟨-,hw⟩
 all_goals rcases am (b=0) with ⟨-,hb⟩|⟨-,hb⟩
 all_goals rcases am (o=0) with ⟨-,ho⟩|⟨-,ho⟩
 all_goals
  cases hm:(du n)
  rotate_left
  rcases am (s.length=1) with ⟨-,hl⟩|⟨-,hl⟩
  rotate_left
  all_goals simp -implicitDefEqProofs only [RA,aa,zp,↓reduceIte,reduceCtorEq,zq,zr,zs,zt,eM,dp,R47,aG,aU,if_false,Ie,not_false_eq_true,not_true_eq_false,HQ, *]
  all_goals repeat' ((first|refine (w96 w).use fun _ _=>?_|refine (w97 n hsh).use fun _ _=>?_|refine (w98 o).use fun _ _=>?_);simp -implicitDefEqProofs only [RA,aa,zp,↓reduceIte,reduceCtorEq,zq,zr,zs,zt,R47,aG,aU,if_false,Ie,not_false_eq_true,not_true_eq_false,HQ, *])
  all_goals simp [bZ,wfN, *]
theorem Da (w b:Int) (n:Nm) (o:Int) (s:List Ex) (hsh:n.length≤100000) (hB:aN s≤4611686018427387904) (ih:∀ r∈s,Pure Tryz.prog 47 [.agg (exE r)] (.bool (wfE r))):Pure Tryz.prog 47 [.agg (exE (.mk 4 w b n o s))] (.bool (wfE (.mk 4 w b n o s))):=by
 have hsl:=aE s
 have lv:=aP s
 refine Pure.of fun nx=>AC.go aj oL (by simp) ?_
 have nself:(n==n)=true:=by simp
 rw [dE]
 simp -implicitDefEqProofs only [RA,aa,zp,↓reduceIte,reduceCtorEq,zq,zr,zs,zt,A47,nk,lv]
 refine aq (fun q st=>∃ i:Nat,q=s.length-i∧i≤s.length∧(s.take i).all wfE=true∧ab st.env 1=some (.op nx 0)∧ab st.env 3=some (.int .i64 i)∧af st.heap nx=some (.cells [.int .u8 4,.int .i64 w,.int .u64 b,.str n,.int .u8 o,aR s])∧st.dm=[]) (n:=s.length) aj
  ⟨0,rfl,by omega,by simp,by simp [ab],by simp [ab],by simp [af],rfl⟩ ?_
 rintro q ⟨env,heap,nx',dm⟩ ⟨i,rfl,hi,hall,g1,g3,gh,hdm⟩
 simp only at g1 g3 gh hdm
 subst hdm
 have f1:=wS (i:=i) (by omega)
 by_cases hc:(i:Int)<(s.length:Int)
 case pos =>
  have hr:=G7 (show i<s.length by omega)
  generalize s[i]=r at hr
  have ix:=bA hr
  have hmem:=G8 hr
  have rl:=bI r
  have rt:=bC r
  simp -implicitDefEqProofs only [RA,aa,zp,↓reduceIte,reduceCtorEq,zq,zr,zs,zt,eM,dp,g1,g3,gh,lv,hc,ix,rl,rt]
  refine (ih r hmem).use fun n1 hn1=>?_
  cases hw:wfE r with
  | false =>
   have e:wfE (.mk 4 w b n o s)=false:=by
    have:s.all wfE=false:=by rw [List.all_eq_false];exact ⟨r,hmem,by simp [hw]⟩
    simp [bZ,this]
   simp -implicitDefEqProofs only [RA,aa,zp,↓reduceIte,reduceCtorEq,zq,zr,zs,zt,g1,g3,gh,hw,unA,e,R47]
  | true =>
   have hall2:(s.take (i+1)).all wfE=true:=by rw [az hr,List.all_append,hall];simp [hw]
   simp -implicitDefEqProofs only [RA,aa,zp,↓reduceIte,reduceCtorEq,zq,zr,zs,zt,g1,g3,gh,hw,unA,f1]
   refine ⟨s.length-(i+1),by omega,i+1,?_⟩
   repeat' apply And.intro
   all_goals first|assumption|rfl|omega|(simp [ab, *];done)
 have hsa:s.all wfE=true:=by
  have ht:s.take i=s:=Ha (by omega)
  rw [ht] at hall;exact hall
 clear ih
 have i0:=aI s 0 0 rfl
 have i1:=aI s 1 1 rfl
 have i2:=aI s 2 2 rfl
 all_goals rcases am (w=0) with ⟨-,hw⟩|⟨-,hw⟩
 all_goals rcases am (b=0) with ⟨-,hb⟩|⟨-,hb⟩
 all_goals rcases am (o=0) with ⟨-,ho⟩|⟨-,ho⟩
 all_goals
  cases hn:(n==[])
  rotate_left
  rcases am (s.length=1) with ⟨-,hl⟩|⟨-,hl⟩
  rotate_left
  all_goals simp -implicitDefEqProofs only [RA,aa,zp,↓reduceIte,reduceCtorEq,zq,zr,zs,zt,eM,dp,R47,aG,aU,if_false,Ie,not_false_eq_true,not_true_eq_false,HQ, *]
  all_goals repeat' ((first|refine (w96 w).use fun _ _=>?_|refine (w97 n hsh).use fun _ _=>?_|refine (w98 o).use fun _ _=>?_);simp -implicitDefEqProofs only [RA,aa,zp,↓reduceIte,reduceCtorEq,zq,zr,zs,zt,R47,aG,aU,if_false,Ie,not_false_eq_true,not_true_eq_false,HQ, *])
  all_goals simp [bZ,wfN, *]
theorem C9 (w b:Int) (n:Nm) (o:Int) (s:List Ex) (hsh:n.length≤100000) (hB:aN s≤4611686018427387904) (ih:∀ r∈s,Pure Tryz.prog 47 [.agg (exE r)] (.bool (wfE r))):Pure Tryz.prog 47 [.agg (exE (.mk 5 w b n o s))] (.bool (wfE (.mk 5 w b n o s))):=by
 have hsl:=aE s
 have lv:=aP s
 refine Pure.of fun nx=>AC.go aj oL (by simp) ?_
 have nself:(n==n)=true:=by simp
 rw [dE]
 simp -implicitDefEqProofs only [RA,aa,zp,↓reduceIte,reduceCtorEq,zq,zr,zs,zt,A47,nk,lv]
 refine aq (fun q st=>∃ i:Nat,q=s.length-i∧i≤s.length∧(s.take i).all wfE=true∧ab st.env 1=some (.op nx 0)∧ab st.env 3=some (.int .i64 i)∧af st.heap nx=some (.cells [.int .u8 5,.int .i64 w,.int .u64 b,.str n,.int .u8 o,aR s])∧st.dm=[]) (n:=s.length) aj
  ⟨0,rfl,by omega,by simp,by simp [ab],by simp [ab],by simp [af],rfl⟩ ?_
 rintro q ⟨env,heap,nx',dm⟩ ⟨i,rfl,hi,hall,g1,g3,gh,hdm⟩
 simp only at g1 g3 gh hdm
 subst hdm
 have f1:=wS (i:=i) (by omega)
 by_cases hc:(i:Int)<(s.length:Int)
 case pos =>
  have hr:=G7 (show i<s.length by omega)
  generalize s[i]=r at hr
  have ix:=bA hr
  have hmem:=G8 hr
  have rl:=bI r
  have rt:=bC r
  simp -implicitDefEqProofs only [RA,aa,zp,↓reduceIte,reduceCtorEq,zq,zr,zs,zt,eM,dp,g1,g3,gh,lv,hc,ix,rl,rt]
  refine (ih r hmem).use fun n1 hn1=>?_
  cases hw:wfE r with
  | false =>
   have e:wfE (.mk 5 w b n o s)=false:=by
    have:s.all wfE=false:=by rw [List.all_eq_false];exact ⟨r,hmem,by simp [hw]⟩
    simp [bZ,this]
   simp -implicitDefEqProofs only [RA,aa,zp,↓reduceIte,reduceCtorEq,zq,zr,zs,zt,g1,g3,gh,hw,unA,e,R47]
  | true =>
   have hall2:(s.take (i+1)).all wfE=true:=by rw [az hr,List.all_append,hall];simp [hw]
   simp -implicitDefEqProofs only [RA,aa,zp,↓reduceIte,reduceCtorEq,zq,zr,zs,zt,g1,g3,gh,hw,unA,f1]
   refine ⟨s.length-(i+1),by omega,i+1,?_⟩
   repeat' apply And.intro
   all_goals first|assumption|rfl|omega|(simp [ab, *];done)
 have hsa:s.all wfE=true:=by
  have ht:s.take i=s:=Ha (by omega)
  rw [ht] at hall;exact hall
 clear ih
 have i0:=aI s 0 0 rfl
 have i1:=aI s 1 1 rfl
 have i2:=aI s 2 2 rfl
 all_goals rcases am (w=0) with ⟨-,hw⟩|⟨-,hw⟩
 all_goals rcases am (b=0) with ⟨-,hb⟩|⟨-,hb⟩
 all_goals rcases am (o=0) with ⟨-,ho⟩|⟨-,ho⟩
 all_goals
  cases hn:(n==[])
  rotate_left
  rcases am (s.length=1) with ⟨-,hl⟩|⟨-,hl⟩
  rotate_left
  all_goals simp -implicitDefEqProofs only [RA,aa,zp,↓reduceIte,reduceCtorEq,zq,zr,zs,zt,eM,dp,R47,aG,aU,if_false,Ie,not_false_eq_true,not_true_eq_false,HQ, *]
  all_goals repeat' ((first|refine (w96 w).use fun _ _=>?_|refine (w97 n hsh).use fun _ _=>?_|refine (w98 o).use fun _ _=>?_);simp -implicitDefEqProofs only [RA,aa,zp,↓reduceIte,reduceCtorEq,zq,zr,zs,zt,R47,aG,aU,if_false,Ie,not_false_eq_true,not_true_eq_false,HQ, *])
  all_goals simp [bZ,wfN, *]
theorem C8 (w b:Int) (n:Nm) (o:Int) (s:List Ex) (hsh:n.length≤100000) (hB:aN s≤4611686018427387904) (ih:∀ r∈s,Pure Tryz.prog 47 [.agg (exE r)] (.bool (wfE r))):Pure Tryz.prog 47 [.agg (exE (.mk 6 w b n o s))] (.bool (wfE (.mk 6 w b n o s))):=by
 have hsl:=aE s
 have lv:=aP s
 refine Pure.of fun nx=>AC.go aj oL (by simp) ?_
 have nself:(n==n)=true:=by simp
 rw [dE]
 simp -implicitDefEqProofs only [RA,aa,zp,↓reduceIte,reduceCtorEq,zq,zr,zs,zt,A47,nk,lv]
 refine aq (fun q st=>∃ i:Nat,q=s.length-i∧i≤s.length∧(s.take i).all wfE=true∧ab st.env 1=some (.op nx 0)∧ab st.env 3=some (.int .i64 i)∧af st.heap nx=some (.cells [.int .u8 6,.int .i64 w,.int .u64 b,.str n,.int .u8 o,aR s])∧st.dm=[]) (n:=s.length) aj
  ⟨0,rfl,by omega,by simp,by simp [ab],by simp [ab],by simp [af],rfl⟩ ?_
 rintro q ⟨env,heap,nx',dm⟩ ⟨i,rfl,hi,hall,g1,g3,gh,hdm⟩
 simp only at g1 g3 gh hdm
 subst hdm
 have f1:=wS (i:=i) (by omega)
 by_cases hc:(i:Int)<(s.length:Int)
 case pos =>
  have hr:=G7 (show i<s.length by omega)
  generalize s[i]=r at hr
  have ix:=bA hr
  have hmem:=G8 hr
  have rl:=bI r
  have rt:=bC r
  simp -implicitDefEqProofs only [RA,aa,zp,↓reduceIte,reduceCtorEq,zq,zr,zs,zt,eM,dp,g1,g3,gh,lv,hc,ix,rl,rt]
  refine (ih r hmem).use fun n1 hn1=>?_
  cases hw:wfE r with
  | false =>
   have e:wfE (.mk 6 w b n o s)=false:=by
    have:s.all wfE=false:=by rw [List.all_eq_false];exact ⟨r,hmem,by simp [hw]⟩
    simp [bZ,this]
   simp -implicitDefEqProofs only [RA,aa,zp,↓reduceIte,reduceCtorEq,zq,zr,zs,zt,g1,g3,gh,hw,unA,e,R47]
  | true =>
   have hall2:(s.take (i+1)).all wfE=true:=by rw [az hr,List.all_append,hall];simp [hw]
   simp -implicitDefEqProofs only [RA,aa,zp,↓reduceIte,reduceCtorEq,zq,zr,zs,zt,g1,g3,gh,hw,unA,f1]
   refine ⟨s.length-(i+1),by omega,i+1,?_⟩
   repeat' apply And.intro
   all_goals first|assumption|rfl|omega|(simp [ab, *];done)
 have hsa:s.all wfE=true:=by
  have ht:s.take i=s:=Ha (by omega)
  rw [ht] at hall;exact hall
 clear ih
 have i0:=aI s 0 0 rfl
 have i1:=aI s 1 1 rfl
 have i2:=aI s 2 2 rfl
 have sn:=v8 o
 simp only [aU] at sn
 all_goals rcases am (w=0) with ⟨-,hw⟩|⟨-,hw⟩
 all_goals rcases am (b=0) with ⟨-,hb⟩|⟨-,hb⟩
 all_goals rcases am (o=0) with ⟨-,ho⟩|⟨-,ho⟩
 all_goals
  cases hn:(n==[])
  rotate_left
  cases hz:(sgB o)
  rotate_left
  rcases am (s.length=2) with ⟨-,hl⟩|⟨-,hl⟩
  rotate_left
  all_goals simp -implicitDefEqProofs only [RA,aa,zp,↓reduceIte,reduceCtorEq,zq,zr,zs,zt,eM,dp,R47,aG,aU,if_false,Ie,not_false_eq_true,not_true_eq_false,HQ, *]
  all_goals repeat' ((first|refine (w96 w).use fun _ _=>?_|refine (w97 n hsh).use fun _ _=>?_|refine (w98 o).use fun _ _=>?_);simp -implicitDefEqProofs only [RA,aa,zp,↓reduceIte,reduceCtorEq,zq,zr,zs,zt,R47,aG,aU,if_false,Ie,not_false_eq_true,not_true_eq_false,HQ, *])
  all_goals simp [bZ,wfN, *]
theorem C7 (w b:Int) (n:Nm) (o:Int) (s:List Ex) (hsh:n.length≤100000) (hB:aN s≤4611686018427387904) (ih:∀ r∈s,Pure Tryz.prog 47 [.agg (exE r)] (.bool (wfE r))):Pure Tryz.prog 47 [.agg (exE (.mk 7 w b n o s))] (.bool (wfE (.mk 7 w b n o s))):=by
 have hsl:=aE s
 have lv:=aP s
 refine Pure.of fun nx=>AC.go aj oL (by simp) ?_
 have nself:(n==n)=true:=by simp
 rw [dE]
 simp -implicitDefEqProofs only [RA,aa,zp,↓reduceIte,reduceCtorEq,zq,zr,zs,zt,A47,nk,lv]
 refine aq (fun q st=>∃ i:Nat,q=s.length-i∧i≤s.length∧(s.take i).all wfE=true∧ab st.env 1=some (.op nx 0)∧ab st.env 3=some (.int .i64 i)∧af st.heap nx=some (.cells [.int .u8 7,.int .i64 w,.int .u64 b,.str n,.int .u8 o,aR s])∧st.dm=[]) (n:=s.length) aj
  ⟨0,rfl,by omega,by simp,by simp [ab],by simp [ab],by simp [af],rfl⟩ ?_
 rintro q ⟨env,heap,nx',dm⟩ ⟨i,rfl,hi,hall,g1,g3,gh,hdm⟩
 simp only at g1 g3 gh hdm
 subst hdm
 have f1:=wS (i:=i) (by omega)
 by_cases hc:(i:Int)<(s.length:Int)
 case pos =>
  have hr:=G7 (show i<s.length by omega)
  generalize s[i]=r at hr
  have ix:=bA hr
  have hmem:=G8 hr
  have rl:=bI r
  have rt:=bC r
  simp -implicitDefEqProofs only [RA,aa,zp,↓reduceIte,reduceCtorEq,zq,zr,zs,zt,eM,dp,g1,g3,gh,lv,hc,ix,rl,rt]
  refine (ih r hmem).use fun n1 hn1=>?_
  cases hw:wfE r with
  | false =>
   have e:wfE (.mk 7 w b n o s)=false:=by
    have:s.all wfE=false:=by rw [List.all_eq_false];exact ⟨r,hmem,by simp [hw]⟩
    simp [bZ,this]
   simp -implicitDefEqProofs only [RA,aa,zp,↓reduceIte,reduceCtorEq,zq,zr,zs,zt,g1,g3,gh,hw,unA,e,R47]
  | true =>
   have hall2:(s.take (i+1)).all wfE=true:=by rw [az hr,List.all_append,hall];simp [hw]
   simp -implicitDefEqProofs only [RA,aa,zp,↓reduceIte,reduceCtorEq,zq,zr,zs,zt,g1,g3,gh,hw,unA,f1]
   refine ⟨s.length-(i+1),by omega,i+1,?_⟩
   repeat' apply And.intro
   all_goals first|assumption|rfl|omega|(simp [ab, *];done)
 have hsa:s.all wfE=true:=by
  have ht:s.take i=s:=Ha (by omega)
  rw [ht] at hall;exact hall
 clear ih
 have i0:=aI s 0 0 rfl
 have i1:=aI s 1 1 rfl
 have i2:=aI s 2 2 rfl
 all_goals rcases am (w=0) with ⟨-,hw⟩|⟨-,hw⟩
 all_goals rcases am (b=0) with ⟨-,hb⟩|⟨-,hb⟩
 all_goals rcases am (o=0) with ⟨-,ho⟩|⟨-,ho⟩
 all_goals
  cases hs:(cm w)
  rotate_left
  cases hn:(n==[])
  rotate_left
  rcases am (s.length=1) with ⟨-,hl⟩|⟨-,hl⟩
  rotate_left
  all_goals simp -implicitDefEqProofs only [RA,aa,zp,↓reduceIte,reduceCtorEq,zq,zr,zs,zt,eM,dp,R47,aG,aU,if_false,Ie,not_false_eq_true,not_true_eq_false,HQ, *]
  all_goals repeat' ((first|refine (w96 w).use fun _ _=>?_|refine (w97 n hsh).use fun _ _=>?_|refine (w98 o).use fun _ _=>?_);simp -implicitDefEqProofs only [RA,aa,zp,↓reduceIte,reduceCtorEq,zq,zr,zs,zt,R47,aG,aU,if_false,Ie,not_false_eq_true,not_true_eq_false,HQ, *])
  all_goals simp [bZ,wfN, *]
theorem C6 (w b:Int) (n:Nm) (o:Int) (s:List Ex) (hsh:n.length≤100000) (hB:aN s≤4611686018427387904) (ih:∀ r∈s,Pure Tryz.prog 47 [.agg (exE r)] (.bool (wfE r))):Pure Tryz.prog 47 [.agg (exE (.mk 8 w b n o s))] (.bool (wfE (.mk 8 w b n o s))):=by
 have hsl:=aE s
 have lv:=aP s
 refine Pure.of fun nx=>AC.go aj oL (by simp) ?_
 have nself:(n==n)=true:=by simp
 rw [dE]
 simp -implicitDefEqProofs only [RA,aa,zp,↓reduceIte,reduceCtorEq,zq,zr,zs,zt,A47,nk,lv]
 refine aq (fun q st=>∃ i:Nat,q=s.length-i∧i≤s.length∧(s.take i).all wfE=true∧ab st.env 1=some (.op nx 0)∧ab st.env 3=some (.int .i64 i)∧af st.heap nx=some (.cells [.int .u8 8,.int .i64 w,.int .u64 b,.str n,.int .u8 o,aR s])∧st.dm=[]) (n:=s.length) aj
  ⟨0,rfl,by omega,by simp,by simp [ab],by simp [ab],by simp [af],rfl⟩ ?_
 rintro q ⟨env,heap,nx',dm⟩ ⟨i,rfl,hi,hall,g1,g3,gh,hdm⟩
 simp only at g1 g3 gh hdm
 subst hdm
 have f1:=wS (i:=i) (by omega)
 by_cases hc:(i:Int)<(s.length:Int)
 case pos =>
  have hr:=G7 (show i<s.length by omega)
  generalize s[i]=r at hr
  have ix:=bA hr
  have hmem:=G8 hr
  have rl:=bI r
  have rt:=bC r
  simp -implicitDefEqProofs only [RA,aa,zp,↓reduceIte,reduceCtorEq,zq,zr,zs,zt,eM,dp,g1,g3,gh,lv,hc,ix,rl,rt]
  refine (ih r hmem).use fun n1 hn1=>?_
  cases hw:wfE r with
  | false =>
   have e:wfE (.mk 8 w b n o s)=false:=by
    have:s.all wfE=false:=by rw [List.all_eq_false];exact ⟨r,hmem,by simp [hw]⟩
    simp [bZ,this]
   simp -implicitDefEqProofs only [RA,aa,zp,↓reduceIte,reduceCtorEq,zq,zr,zs,zt,g1,g3,gh,hw,unA,e,R47]
  | true =>
   have hall2:(s.take (i+1)).all wfE=true:=by rw [az hr,List.all_append,hall];simp [hw]
   simp -implicitDefEqProofs only [RA,aa,zp,↓reduceIte,reduceCtorEq,zq,zr,zs,zt,g1,g3,gh,hw,unA,f1]
   refine ⟨s.length-(i+1),by omega,i+1,?_⟩
   repeat' apply And.intro
   all_goals first|assumption|rfl|omega|(simp [ab, *];done)
 have hsa:s.all wfE=true:=by
  have ht:s.take i=s:=Ha (by omega)
  rw [ht] at hall;exact hall
 clear ih
 have i0:=aI s 0 0 rfl
 have i1:=aI s 1 1 rfl
 have i2:=aI s 2 2 rfl
 all_goals rcases am (w=0) with ⟨-,hw⟩|⟨-,hw⟩
 all_goals rcases am (b=0) with ⟨-,hb⟩|⟨-,hb⟩
 all_goals rcases am (o=0) with ⟨-,ho⟩|⟨-,ho⟩
 all_goals
  cases hs:(cm w)
  rotate_left
  cases hn:(n==[])
  rotate_left
  rcases am (s.length=1) with ⟨-,hl⟩|⟨-,hl⟩
  rotate_left
  all_goals simp -implicitDefEqProofs only [RA,aa,zp,↓reduceIte,reduceCtorEq,zq,zr,zs,zt,eM,dp,R47,aG,aU,if_false,Ie,not_false_eq_true,not_true_eq_false,HQ, *]
  all_goals repeat' ((first|refine (w96 w).use fun _ _=>?_|refine (w97 n hsh).use fun _ _=>?_|refine (w98 o).use fun _ _=>?_);simp -implicitDefEqProofs only [RA,aa,zp,↓reduceIte,reduceCtorEq,zq,zr,zs,zt,R47,aG,aU,if_false,Ie,not_false_eq_true,not_true_eq_false,HQ, *])
  all_goals simp [bZ,wfN, *]
theorem C5 (k w b:Int) (n:Nm) (o:Int) (s:List Ex) (hsh:n.length≤100000) (hB:aN s≤4611686018427387904) (ih:∀ r∈s,Pure Tryz.prog 47 [.agg (exE r)] (.bool (wfE r))) (hk1:k≠1) (hk2:k≠2) (hk3:k≠3) (hk4:k≠4) (hk5:k≠5) (hk6:k≠6) (hk7:k≠7) (hk8:k≠8):Pure Tryz.prog 47 [.agg (exE (.mk k w b n o s))] (.bool (wfE (.mk k w b n o s))):=by
 have hsl:=aE s
 have lv:=aP s
 refine Pure.of fun nx=>AC.go aj oL (by simp) ?_
 have nself:(n==n)=true:=by simp
 rw [dE]
 simp -implicitDefEqProofs only [RA,aa,zp,↓reduceIte,reduceCtorEq,zq,zr,zs,zt,A47,nk,lv]
 refine aq (fun q st=>∃ i:Nat,q=s.length-i∧i≤s.length∧(s.take i).all wfE=true∧ab st.env 1=some (.op nx 0)∧ab st.env 3=some (.int .i64 i)∧af st.heap nx=some (.cells [.int .u8 k,.int .i64 w,.int .u64 b,.str n,.int .u8 o,aR s])∧st.dm=[]) (n:=s.length) aj
  ⟨0,rfl,by omega,by simp,by simp [ab],by simp [ab],by simp [af],rfl⟩ ?_
 rintro q ⟨env,heap,nx',dm⟩ ⟨i,rfl,hi,hall,g1,g3,gh,hdm⟩
 simp only at g1 g3 gh hdm
 subst hdm
 have f1:=wS (i:=i) (by omega)
 by_cases hc:(i:Int)<(s.length:Int)
 case pos =>
  have hr:=G7 (show i<s.length by omega)
  generalize s[i]=r at hr
  have ix:=bA hr
  have hmem:=G8 hr
  have rl:=bI r
  have rt:=bC r
  simp -implicitDefEqProofs only [RA,aa,zp,↓reduceIte,reduceCtorEq,zq,zr,zs,zt,eM,dp,g1,g3,gh,lv,hc,ix,rl,rt]
  refine (ih r hmem).use fun n1 hn1=>?_
  cases hw:wfE r with
  | false =>
   have e:wfE (.mk k w b n o s)=false:=by
    have:s.all wfE=false:=by rw [List.all_eq_false];exact ⟨r,hmem,by simp [hw]⟩
    simp [bZ,this]
   simp -implicitDefEqProofs only [RA,aa,zp,↓reduceIte,reduceCtorEq,zq,zr,zs,zt,g1,g3,gh,hw,unA,e,R47]
  | true =>
   have hall2:(s.take (i+1)).all wfE=true:=by rw [az hr,List.all_append,hall];simp [hw]
   simp -implicitDefEqProofs only [RA,aa,zp,↓reduceIte,reduceCtorEq,zq,zr,zs,zt,g1,g3,gh,hw,unA,f1]
   refine ⟨s.length-(i+1),by omega,i+1,?_⟩
   repeat' apply And.intro
   all_goals first|assumption|rfl|omega|(simp [ab, *];done)
 have hsa:s.all wfE=true:=by
  have ht:s.take i=s:=Ha (by omega)
  rw [ht] at hall;exact hall
 clear ih
 have kd1:(k=1)=False:=eq_false hk1
 have kd2:(k=2)=False:=eq_false hk2
 have kd3:(k=3)=False:=eq_false hk3
 have kd4:(k=4)=False:=eq_false hk4
 have kd5:(k=5)=False:=eq_false hk5
 have kd6:(k=6)=False:=eq_false hk6
 have kd7:(k=7)=False:=eq_false hk7
 have kd8:(k=8)=False:=eq_false hk8
 all_goals rcases am (w=0) with ⟨-,hw⟩|⟨-,hw⟩
 all_goals rcases am (b=0) with ⟨-,hb⟩|⟨-,hb⟩
 all_goals rcases am (o=0) with ⟨-,ho⟩|⟨-,ho⟩
 all_goals simp -implicitDefEqProofs only [RA,aa,zp,↓reduceIte,reduceCtorEq,zq,zr,zs,zt,eM,dp,R47,aG,aU,if_false,Ie,not_false_eq_true,not_true_eq_false,HQ, *]
 all_goals repeat' ((first|refine (w96 w).use fun _ _=>?_|refine (w97 n hsh).use fun _ _=>?_|refine (w98 o).use fun _ _=>?_);simp -implicitDefEqProofs only [RA,aa,zp,↓reduceIte,reduceCtorEq,zq,zr,zs,zt,R47,aG,aU,if_false,Ie,not_false_eq_true,not_true_eq_false,HQ, *])
 all_goals simp [bZ,wfN, *]
theorem w47:∀ (m:Nat) (x:Ex),bM x≤m→bM x≤4611686018427387904→shE x→Pure Tryz.prog 47 [.agg (exE x)] (.bool (wfE x)):=by
 intro m
 induction m with
 | zero=>intro x hx;have:=cV x;omega
 | succ m ih =>
  rintro ⟨k,w,b,n,o,s⟩ hm hB hsh
  rw [fT] at hm hB
  simp only [Ex.sub] at hm hB
  simp only [shE] at hsh
  have hB':aN s≤4611686018427387904:=by omega
  have ih':∀ r∈s,Pure Tryz.prog 47 [.agg (exE r)] (.bool (wfE r)):=fun r hr=>ih r (by have:=bL hr;omega) (by have:=bL hr;omega) (iN hsh.2 r hr)
  by_cases hk1:k=1
  ·subst hk1;exact Dd w b n o s hsh.1 hB' ih'
  by_cases hk2:k=2
  ·subst hk2;exact Dc w b n o s hsh.1 hB' ih'
  by_cases hk3:k=3
  ·subst hk3;exact Db w b n o s hsh.1 hB' ih'
  by_cases hk4:k=4
  ·subst hk4;exact Da w b n o s hsh.1 hB' ih'
  by_cases hk5:k=5
  ·subst hk5;exact C9 w b n o s hsh.1 hB' ih'
  by_cases hk6:k=6
  ·subst hk6;exact C8 w b n o s hsh.1 hB' ih'
  by_cases hk7:k=7
  ·subst hk7;exact C7 w b n o s hsh.1 hB' ih'
  by_cases hk8:k=8
  ·subst hk8;exact C6 w b n o s hsh.1 hB' ih'
  exact C5 k w b n o s hsh.1 hB' ih' hk1 hk2 hk3 hk4 hk5 hk6 hk7 hk8
end Go.Proofs.YtgeieafamocnhaaGreatDoor
