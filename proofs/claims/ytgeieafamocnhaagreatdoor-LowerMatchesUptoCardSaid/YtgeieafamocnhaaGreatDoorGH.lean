/- Well-formed statements. -/
import Derived.Test.YtgeieafamocnhaaGreatDoorGG
namespace Go.Proofs.YtgeieafamocnhaaGreatDoor
open Bool renaming false_eq_true → HQ
open Int renaming reduceEq → Ie
set_option maxHeartbeats 64000000
open Go Go.Ab Go.Proofs
open Nat renaming reduceEqDiff → zp, reduceAdd → zq, reduceLeDiff → zr, reduceLT → zs, reduceBEq → zt
set_option linter.unusedVariables false
set_option linter.unusedSimpArgs false
set_option maxRecDepth 20000
def wfM (k:Int) (n f:Nm) (w:Int) (len nb ne:Nat):Bool :=
 if k=1 then du n&&decide (len=1)&&decide (nb=0)&&decide (ne=0)&&(f==[])&&cm w
 else if k=2 then du n&&decide (len=1)&&decide (nb=0)&&decide (ne=0)&&(f==[])&&decide (w=0)
 else if k=3 then du n&&decide (len=2)&&decide (nb=0)&&decide (ne=0)&&(f==[])&&decide (w=0)
 else if k=4 then (n==[])&&decide (len=1)&&(f==[])&&decide (w=0)
 else if k=5 then (n==[])&&decide (len=1)&&decide (ne=0)&&(f==[])&&decide (w=0)
 else if k=6 then (n==[])&&decide (len=0)&&decide (nb=0)&&decide (ne=0)&&(f==[])&&decide (w=0)
 else if k=7 then (n==[])&&decide (len=1)&&decide (nb=0)&&decide (ne=0)&&(f==[])&&decide (w=0)
 else if k=8 then (n==[])&&decide (len≤1)&&decide (nb=0)&&decide (ne=0)&&(f==[])&&decide (w=0)
 else if k=9 then ((n==[])||du n)&&decide (nb=0)&&decide (ne=0)&&du f&&decide (w=0)
 else false
mutual
def wfS:Sm→Bool
 | .mk k n f w l b e=>wfM k n f w l.length b.length e.length&&l.all wfE&&vC b&&vC e
def vC:List Sm→Bool
 | []=>true
 | x::r=>wfS x&&vC r
end
theorem me:∀ l:List Sm,vC l=l.all wfS
 | []=>rfl
 | x::r=>by simp only [vC,List.all_cons,me r]
theorem bQ (k:Int) (n f:Nm) (w:Int) (l:List Ex) (b e:List Sm):wfS (.mk k n f w l b e)=(wfM k n f w l.length b.length e.length&&l.all wfE&&b.all wfS&&e.all wfS):=by rw [wfS,me,me]
mutual
def shS:Sm→Prop
 | .mk _ n f _ l b e=>n.length≤100000∧f.length≤100000∧uH l∧aN l≤1152921504606846976∧kD b∧kD e
def kD:List Sm→Prop
 | []=>True
 | x::r=>shS x∧kD r
end
theorem fN:∀ {l:List Sm},kD l→∀ x∈l,shS x
 | [],_,x,hx=>by simp at hx
 | y::r,h,x,hx=>by
  rcases List.mem_cons.1 hx with rfl|hx
  ·exact h.1
  ·exact fN h.2 x hx
theorem jg (x:Sm):1≤ff x:=by cases x;simp only [ff];omega
theorem dx:∀ {l:List Sm} {x:Sm},x∈l→ff x≤aL l
 | [],x,h=>by simp at h
 | y::r,x,h=>by
  simp only [aL]
  rcases List.mem_cons.1 h with rfl|h
  ·omega
  ·have:=dx h;omega
theorem bW:∀ (l:List Sm),l.length≤aL l
 | []=>by simp
 | x::r=>by have:=bW r;have:=jg x;simp only [List.length_cons,aL];omega
theorem cH (k:Int) (n f:Nm) (w:Int) (l:List Ex) (b e:List Sm):smE (.mk k n f w l b e)=[.int .u8 k,.str n,.str f,.int .i64 w,aR l,ay b,ay e]:=mA _
theorem dv {α:Type} (l:List α):((0:Int)<(l.length:Int))=¬ (l.length=0):=propext (by omega)
theorem gP {α:Type} (l:List α):((l.length:Int)=(if (1:Int)<(l.length:Int) then (1:Int) else (l.length:Int)))=(l.length≤1):=propext (by split <;> omega)
theorem gQ {α:Type} (l:List α):((l.length:Int)≤1)=(l.length≤1):=propext (by omega)
theorem BN (w:Int) (n f:Nm) (l:List Ex) (b e:List Sm) (hn1:n.length≤100000) (hf1:f.length≤100000) (cE:Pure Tryz.prog 81 [aR l,.fn (.func 38) []] (.bool (l.all wfE))) (cB:Pure Tryz.prog 126 [ay b,.fn (.func 127) []] (.bool (b.all wfS))) (cC:Pure Tryz.prog 126 [ay e,.fn (.func 127) []] (.bool (e.all wfS))) :
  Pure Tryz.prog 127 [.agg (smE (.mk 1 n f w l b e))] (.bool (wfS (.mk 1 n f w l b e))):=by
 have le:=aP l
 have lb:=aO b
 have lee:=aO e
 refine Pure.of fun nx=>AC.go aj jz (by simp) ?_
 have nn:(nx+1=nx)=False:=eq_false (by omega)
 have nself:((l.length:Int)=(l.length:Int))=True:=eq_true rfl
 rw [cH]
 have i0:=aI l 0 0 rfl
 have i1:=aI l 1 1 rfl
 have i2:=aI l 2 2 rfl
 have b0:=aI b 0 0 rfl
 have e0:=aI e 0 0 rfl
 have b1:=dv b
 have e1:=dv e
 have l8:=gP l
 have l9:=gQ l
 cases hm:(du n)
 rotate_left
 rcases am (l.length=1) with ⟨-,hl⟩|⟨-,hl⟩
 rotate_left
 rcases am (b.length=0) with ⟨-,hnb⟩|⟨-,hnb⟩
 rotate_left
 rcases am (e.length=0) with ⟨-,hne⟩|⟨-,hne⟩
 rotate_left
 cases hfe:(f==[])
 rotate_left
 cases hs:(cm w)
 rotate_left
 cases ha:(l.all wfE)
 rotate_left
 cases hba:(b.all wfS)
 rotate_left
 cases hea:(e.all wfS)
 rotate_left
 all_goals simp -implicitDefEqProofs only [RA,aa,zp,↓reduceIte,reduceCtorEq,zq,zr,zs,zt,m4,jf,gJ,aG,aU,if_false,↓aT,↓aS,↓aB,↓aA,Ie,unA,not_false_eq_true,not_true_eq_false,HQ, *]
 all_goals repeat' ((first|refine cE.use fun _ _=>?_|refine cB.use fun _ _=>?_|refine cC.use fun _ _=>?_|refine (w80 n hn1).use fun _ _=>?_|refine (w80 f hf1).use fun _ _=>?_|refine (w78 w).use fun _ _=>?_);simp -implicitDefEqProofs only [RA,aa,zp,↓reduceIte,reduceCtorEq,zq,zr,zs,zt,gJ,aG,aU,if_false,↓aT,↓aS,↓aB,↓aA,Ie,unA,not_false_eq_true,not_true_eq_false,HQ, *])
 all_goals simp [bQ,wfM, *]
theorem BM (w:Int) (n f:Nm) (l:List Ex) (b e:List Sm) (hn1:n.length≤100000) (hf1:f.length≤100000) (cE:Pure Tryz.prog 81 [aR l,.fn (.func 38) []] (.bool (l.all wfE))) (cB:Pure Tryz.prog 126 [ay b,.fn (.func 127) []] (.bool (b.all wfS))) (cC:Pure Tryz.prog 126 [ay e,.fn (.func 127) []] (.bool (e.all wfS))) :
  Pure Tryz.prog 127 [.agg (smE (.mk 2 n f w l b e))] (.bool (wfS (.mk 2 n f w l b e))):=by
 have le:=aP l
 have lb:=aO b
 have lee:=aO e
 refine Pure.of fun nx=>AC.go aj jz (by simp) ?_
 have nn:(nx+1=nx)=False:=eq_false (by omega)
 have nself:((l.length:Int)=(l.length:Int))=True:=eq_true rfl
 rw [cH]
 have i0:=aI l 0 0 rfl
 have i1:=aI l 1 1 rfl
 have i2:=aI l 2 2 rfl
 have b0:=aI b 0 0 rfl
 have e0:=aI e 0 0 rfl
 have b1:=dv b
 have e1:=dv e
 have l8:=gP l
 have l9:=gQ l
 cases hm:(du n)
 rotate_left
 rcases am (l.length=1) with ⟨-,hl⟩|⟨-,hl⟩
 rotate_left
 rcases am (b.length=0) with ⟨-,hnb⟩|⟨-,hnb⟩
 rotate_left
 rcases am (e.length=0) with ⟨-,hne⟩|⟨-,hne⟩
 rotate_left
 cases hfe:(f==[])
 rotate_left
 rcases am (w=0) with ⟨-,hw⟩|⟨-,hw⟩
 rotate_left
 cases ha:(l.all wfE)
 rotate_left
 cases hba:(b.all wfS)
 rotate_left
 cases hea:(e.all wfS)
 rotate_left
 all_goals simp -implicitDefEqProofs only [RA,aa,zp,↓reduceIte,reduceCtorEq,zq,zr,zs,zt,m4,jf,gJ,aG,aU,if_false,↓aT,↓aS,↓aB,↓aA,Ie,unA,not_false_eq_true,not_true_eq_false,HQ, *]
 all_goals repeat' ((first|refine cE.use fun _ _=>?_|refine cB.use fun _ _=>?_|refine cC.use fun _ _=>?_|refine (w80 n hn1).use fun _ _=>?_|refine (w80 f hf1).use fun _ _=>?_|refine (w78 w).use fun _ _=>?_);simp -implicitDefEqProofs only [RA,aa,zp,↓reduceIte,reduceCtorEq,zq,zr,zs,zt,gJ,aG,aU,if_false,↓aT,↓aS,↓aB,↓aA,Ie,unA,not_false_eq_true,not_true_eq_false,HQ, *])
 all_goals simp [bQ,wfM, *]
theorem BL (w:Int) (n f:Nm) (l:List Ex) (b e:List Sm) (hn1:n.length≤100000) (hf1:f.length≤100000) (cE:Pure Tryz.prog 81 [aR l,.fn (.func 38) []] (.bool (l.all wfE))) (cB:Pure Tryz.prog 126 [ay b,.fn (.func 127) []] (.bool (b.all wfS))) (cC:Pure Tryz.prog 126 [ay e,.fn (.func 127) []] (.bool (e.all wfS))) :
  Pure Tryz.prog 127 [.agg (smE (.mk 3 n f w l b e))] (.bool (wfS (.mk 3 n f w l b e))):=by
 have le:=aP l
 have lb:=aO b
 have lee:=aO e
 refine Pure.of fun nx=>AC.go aj jz (by simp) ?_
 have nn:(nx+1=nx)=False:=eq_false (by omega)
 have nself:((l.length:Int)=(l.length:Int))=True:=eq_true rfl
 rw [cH]
 have i0:=aI l 0 0 rfl
 have i1:=aI l 1 1 rfl
 have i2:=aI l 2 2 rfl
 have b0:=aI b 0 0 rfl
 have e0:=aI e 0 0 rfl
 have b1:=dv b
 have e1:=dv e
 have l8:=gP l
 have l9:=gQ l
 cases hm:(du n)
 rotate_left
 rcases am (l.length=2) with ⟨-,hl⟩|⟨-,hl⟩
 rotate_left
 rcases am (b.length=0) with ⟨-,hnb⟩|⟨-,hnb⟩
 rotate_left
 rcases am (e.length=0) with ⟨-,hne⟩|⟨-,hne⟩
 rotate_left
 cases hfe:(f==[])
 rotate_left
 rcases am (w=0) with ⟨-,hw⟩|⟨-,hw⟩
 rotate_left
 cases ha:(l.all wfE)
 rotate_left
 cases hba:(b.all wfS)
 rotate_left
 cases hea:(e.all wfS)
 rotate_left
 all_goals simp -implicitDefEqProofs only [RA,aa,zp,↓reduceIte,reduceCtorEq,zq,zr,zs,zt,m4,jf,gJ,aG,aU,if_false,↓aT,↓aS,↓aB,↓aA,Ie,unA,not_false_eq_true,not_true_eq_false,HQ, *]
 all_goals repeat' ((first|refine cE.use fun _ _=>?_|refine cB.use fun _ _=>?_|refine cC.use fun _ _=>?_|refine (w80 n hn1).use fun _ _=>?_|refine (w80 f hf1).use fun _ _=>?_|refine (w78 w).use fun _ _=>?_);simp -implicitDefEqProofs only [RA,aa,zp,↓reduceIte,reduceCtorEq,zq,zr,zs,zt,gJ,aG,aU,if_false,↓aT,↓aS,↓aB,↓aA,Ie,unA,not_false_eq_true,not_true_eq_false,HQ, *])
 all_goals simp [bQ,wfM, *]
theorem BK (w:Int) (n f:Nm) (l:List Ex) (b e:List Sm) (hn1:n.length≤100000) (hf1:f.length≤100000) (cE:Pure Tryz.prog 81 [aR l,.fn (.func 38) []] (.bool (l.all wfE))) (cB:Pure Tryz.prog 126 [ay b,.fn (.func 127) []] (.bool (b.all wfS))) (cC:Pure Tryz.prog 126 [ay e,.fn (.func 127) []] (.bool (e.all wfS))) :
  Pure Tryz.prog 127 [.agg (smE (.mk 4 n f w l b e))] (.bool (wfS (.mk 4 n f w l b e))):=by
 have le:=aP l
 have lb:=aO b
 have lee:=aO e
 refine Pure.of fun nx=>AC.go aj jz (by simp) ?_
 have nn:(nx+1=nx)=False:=eq_false (by omega)
 have nself:((l.length:Int)=(l.length:Int))=True:=eq_true rfl
 rw [cH]
 have i0:=aI l 0 0 rfl
 have i1:=aI l 1 1 rfl
 have i2:=aI l 2 2 rfl
 have b0:=aI b 0 0 rfl
 have e0:=aI e 0 0 rfl
 have b1:=dv b
 have e1:=dv e
 have l8:=gP l
 have l9:=gQ l
 cases hn:(n==[])
 rotate_left
 rcases am (l.length=1) with ⟨-,hl⟩|⟨-,hl⟩
 rotate_left
 cases hfe:(f==[])
 rotate_left
 rcases am (w=0) with ⟨-,hw⟩|⟨-,hw⟩
 rotate_left
 cases ha:(l.all wfE)
 rotate_left
 cases hba:(b.all wfS)
 rotate_left
 cases hea:(e.all wfS)
 rotate_left
 all_goals simp -implicitDefEqProofs only [RA,aa,zp,↓reduceIte,reduceCtorEq,zq,zr,zs,zt,m4,jf,gJ,aG,aU,if_false,↓aT,↓aS,↓aB,↓aA,Ie,unA,not_false_eq_true,not_true_eq_false,HQ, *]
 all_goals repeat' ((first|refine cE.use fun _ _=>?_|refine cB.use fun _ _=>?_|refine cC.use fun _ _=>?_|refine (w80 n hn1).use fun _ _=>?_|refine (w80 f hf1).use fun _ _=>?_|refine (w78 w).use fun _ _=>?_);simp -implicitDefEqProofs only [RA,aa,zp,↓reduceIte,reduceCtorEq,zq,zr,zs,zt,gJ,aG,aU,if_false,↓aT,↓aS,↓aB,↓aA,Ie,unA,not_false_eq_true,not_true_eq_false,HQ, *])
 all_goals simp [bQ,wfM, *]
theorem BJ (w:Int) (n f:Nm) (l:List Ex) (b e:List Sm) (hn1:n.length≤100000) (hf1:f.length≤100000) (cE:Pure Tryz.prog 81 [aR l,.fn (.func 38) []] (.bool (l.all wfE))) (cB:Pure Tryz.prog 126 [ay b,.fn (.func 127) []] (.bool (b.all wfS))) (cC:Pure Tryz.prog 126 [ay e,.fn (.func 127) []] (.bool (e.all wfS))) :
  Pure Tryz.prog 127 [.agg (smE (.mk 5 n f w l b e))] (.bool (wfS (.mk 5 n f w l b e))):=by
 have le:=aP l
 have lb:=aO b
 have lee:=aO e
 refine Pure.of fun nx=>AC.go aj jz (by simp) ?_
 have nn:(nx+1=nx)=False:=eq_false (by omega)
 have nself:((l.length:Int)=(l.length:Int))=True:=eq_true rfl
 rw [cH]
 have i0:=aI l 0 0 rfl
 have i1:=aI l 1 1 rfl
 have i2:=aI l 2 2 rfl
 have b0:=aI b 0 0 rfl
 have e0:=aI e 0 0 rfl
 have b1:=dv b
 have e1:=dv e
 have l8:=gP l
 have l9:=gQ l
 cases hn:(n==[])
 rotate_left
 rcases am (l.length=1) with ⟨-,hl⟩|⟨-,hl⟩
 rotate_left
 rcases am (e.length=0) with ⟨-,hne⟩|⟨-,hne⟩
 rotate_left
 cases hfe:(f==[])
 rotate_left
 rcases am (w=0) with ⟨-,hw⟩|⟨-,hw⟩
 rotate_left
 cases ha:(l.all wfE)
 rotate_left
 cases hba:(b.all wfS)
 rotate_left
 cases hea:(e.all wfS)
 rotate_left
 all_goals simp -implicitDefEqProofs only [RA,aa,zp,↓reduceIte,reduceCtorEq,zq,zr,zs,zt,m4,jf,gJ,aG,aU,if_false,↓aT,↓aS,↓aB,↓aA,Ie,unA,not_false_eq_true,not_true_eq_false,HQ, *]
 all_goals repeat' ((first|refine cE.use fun _ _=>?_|refine cB.use fun _ _=>?_|refine cC.use fun _ _=>?_|refine (w80 n hn1).use fun _ _=>?_|refine (w80 f hf1).use fun _ _=>?_|refine (w78 w).use fun _ _=>?_);simp -implicitDefEqProofs only [RA,aa,zp,↓reduceIte,reduceCtorEq,zq,zr,zs,zt,gJ,aG,aU,if_false,↓aT,↓aS,↓aB,↓aA,Ie,unA,not_false_eq_true,not_true_eq_false,HQ, *])
 all_goals simp [bQ,wfM, *]
theorem BI (w:Int) (n f:Nm) (l:List Ex) (b e:List Sm) (hn1:n.length≤100000) (hf1:f.length≤100000) (cE:Pure Tryz.prog 81 [aR l,.fn (.func 38) []] (.bool (l.all wfE))) (cB:Pure Tryz.prog 126 [ay b,.fn (.func 127) []] (.bool (b.all wfS))) (cC:Pure Tryz.prog 126 [ay e,.fn (.func 127) []] (.bool (e.all wfS))) :
  Pure Tryz.prog 127 [.agg (smE (.mk 6 n f w l b e))] (.bool (wfS (.mk 6 n f w l b e))):=by
 have le:=aP l
 have lb:=aO b
 have lee:=aO e
 refine Pure.of fun nx=>AC.go aj jz (by simp) ?_
 have nn:(nx+1=nx)=False:=eq_false (by omega)
 have nself:((l.length:Int)=(l.length:Int))=True:=eq_true rfl
 rw [cH]
 have i0:=aI l 0 0 rfl
 have i1:=aI l 1 1 rfl
 have i2:=aI l 2 2 rfl
 have b0:=aI b 0 0 rfl
 have e0:=aI e 0 0 rfl
 have b1:=dv b
 have e1:=dv e
 have l8:=gP l
 have l9:=gQ l
 cases hn:(n==[])
 rotate_left
 rcases am (l.length=0) with ⟨-,hl⟩|⟨-,hl⟩
 rotate_left
 rcases am (b.length=0) with ⟨-,hnb⟩|⟨-,hnb⟩
 rotate_left
 rcases am (e.length=0) with ⟨-,hne⟩|⟨-,hne⟩
 rotate_left
 cases hfe:(f==[])
 rotate_left
 rcases am (w=0) with ⟨-,hw⟩|⟨-,hw⟩
 rotate_left
 cases ha:(l.all wfE)
 rotate_left
 cases hba:(b.all wfS)
 rotate_left
 cases hea:(e.all wfS)
 rotate_left
 all_goals simp -implicitDefEqProofs only [RA,aa,zp,↓reduceIte,reduceCtorEq,zq,zr,zs,zt,m4,jf,gJ,aG,aU,if_false,↓aT,↓aS,↓aB,↓aA,Ie,unA,not_false_eq_true,not_true_eq_false,HQ, *]
 all_goals repeat' ((first|refine cE.use fun _ _=>?_|refine cB.use fun _ _=>?_|refine cC.use fun _ _=>?_|refine (w80 n hn1).use fun _ _=>?_|refine (w80 f hf1).use fun _ _=>?_|refine (w78 w).use fun _ _=>?_);simp -implicitDefEqProofs only [RA,aa,zp,↓reduceIte,reduceCtorEq,zq,zr,zs,zt,gJ,aG,aU,if_false,↓aT,↓aS,↓aB,↓aA,Ie,unA,not_false_eq_true,not_true_eq_false,HQ, *])
 all_goals simp [bQ,wfM, *]
theorem BH (w:Int) (n f:Nm) (l:List Ex) (b e:List Sm) (hn1:n.length≤100000) (hf1:f.length≤100000) (cE:Pure Tryz.prog 81 [aR l,.fn (.func 38) []] (.bool (l.all wfE))) (cB:Pure Tryz.prog 126 [ay b,.fn (.func 127) []] (.bool (b.all wfS))) (cC:Pure Tryz.prog 126 [ay e,.fn (.func 127) []] (.bool (e.all wfS))) :
  Pure Tryz.prog 127 [.agg (smE (.mk 7 n f w l b e))] (.bool (wfS (.mk 7 n f w l b e))):=by
 have le:=aP l
 have lb:=aO b
 have lee:=aO e
 refine Pure.of fun nx=>AC.go aj jz (by simp) ?_
 have nn:(nx+1=nx)=False:=eq_false (by omega)
 have nself:((l.length:Int)=(l.length:Int))=True:=eq_true rfl
 rw [cH]
 have i0:=aI l 0 0 rfl
 have i1:=aI l 1 1 rfl
 have i2:=aI l 2 2 rfl
 have b0:=aI b 0 0 rfl
 have e0:=aI e 0 0 rfl
 have b1:=dv b
 have e1:=dv e
 have l8:=gP l
 have l9:=gQ l
 cases hn:(n==[])
 rotate_left
 rcases am (l.length=1) with ⟨-,hl⟩|⟨-,hl⟩
 rotate_left
 rcases am (b.length=0) with ⟨-,hnb⟩|⟨-,hnb⟩
 rotate_left
 rcases am (e.length=0) with ⟨-,hne⟩|⟨-,hne⟩
 rotate_left
 cases hfe:(f==[])
 rotate_left
 rcases am (w=0) with ⟨-,hw⟩|⟨-,hw⟩
 rotate_left
 cases ha:(l.all wfE)
 rotate_left
 cases hba:(b.all wfS)
 rotate_left
 cases hea:(e.all wfS)
 rotate_left
 all_goals simp -implicitDefEqProofs only [RA,aa,zp,↓reduceIte,reduceCtorEq,zq,zr,zs,zt,m4,jf,gJ,aG,aU,if_false,↓aT,↓aS,↓aB,↓aA,Ie,unA,not_false_eq_true,not_true_eq_false,HQ, *]
 all_goals repeat' ((first|refine cE.use fun _ _=>?_|refine cB.use fun _ _=>?_|refine cC.use fun _ _=>?_|refine (w80 n hn1).use fun _ _=>?_|refine (w80 f hf1).use fun _ _=>?_|refine (w78 w).use fun _ _=>?_);simp -implicitDefEqProofs only [RA,aa,zp,↓reduceIte,reduceCtorEq,zq,zr,zs,zt,gJ,aG,aU,if_false,↓aT,↓aS,↓aB,↓aA,Ie,unA,not_false_eq_true,not_true_eq_false,HQ, *])
 all_goals simp [bQ,wfM, *]
theorem BG (w:Int) (n f:Nm) (l:List Ex) (b e:List Sm) (hn1:n.length≤100000) (hf1:f.length≤100000) (cE:Pure Tryz.prog 81 [aR l,.fn (.func 38) []] (.bool (l.all wfE))) (cB:Pure Tryz.prog 126 [ay b,.fn (.func 127) []] (.bool (b.all wfS))) (cC:Pure Tryz.prog 126 [ay e,.fn (.func 127) []] (.bool (e.all wfS))) :
  Pure Tryz.prog 127 [.agg (smE (.mk 8 n f w l b e))] (.bool (wfS (.mk 8 n f w l b e))):=by
 have le:=aP l
 have lb:=aO b
 have lee:=aO e
 refine Pure.of fun nx=>AC.go aj jz (by simp) ?_
 have nn:(nx+1=nx)=False:=eq_false (by omega)
 have nself:((l.length:Int)=(l.length:Int))=True:=eq_true rfl
 rw [cH]
 have i0:=aI l 0 0 rfl
 have i1:=aI l 1 1 rfl
 have i2:=aI l 2 2 rfl
 have b0:=aI b 0 0 rfl
 have e0:=aI e 0 0 rfl
 have b1:=dv b
 have e1:=dv e
 have l8:=gP l
 have l9:=gQ l
 cases hn:(n==[])
 rotate_left
 rcases am (l.length≤1) with ⟨-,hl⟩|⟨-,hl⟩
 rotate_left
 rcases am (b.length=0) with ⟨-,hnb⟩|⟨-,hnb⟩
 rotate_left
 rcases am (e.length=0) with ⟨-,hne⟩|⟨-,hne⟩
 rotate_left
 cases hfe:(f==[])
 rotate_left
 rcases am (w=0) with ⟨-,hw⟩|⟨-,hw⟩
 rotate_left
 cases ha:(l.all wfE)
 rotate_left
 cases hba:(b.all wfS)
 rotate_left
 cases hea:(e.all wfS)
 rotate_left
 all_goals simp -implicitDefEqProofs only [RA,aa,zp,↓reduceIte,reduceCtorEq,zq,zr,zs,zt,m4,jf,gJ,aG,aU,if_false,↓aT,↓aS,↓aB,↓aA,Ie,unA,not_false_eq_true,not_true_eq_false,HQ, *]
 all_goals repeat' ((first|refine cE.use fun _ _=>?_|refine cB.use fun _ _=>?_|refine cC.use fun _ _=>?_|refine (w80 n hn1).use fun _ _=>?_|refine (w80 f hf1).use fun _ _=>?_|refine (w78 w).use fun _ _=>?_);simp -implicitDefEqProofs only [RA,aa,zp,↓reduceIte,reduceCtorEq,zq,zr,zs,zt,gJ,aG,aU,if_false,↓aT,↓aS,↓aB,↓aA,Ie,unA,not_false_eq_true,not_true_eq_false,HQ, *])
 all_goals simp [bQ,wfM, *]
theorem BF (w:Int) (n f:Nm) (l:List Ex) (b e:List Sm) (hn1:n.length≤100000) (hf1:f.length≤100000) (cE:Pure Tryz.prog 81 [aR l,.fn (.func 38) []] (.bool (l.all wfE))) (cB:Pure Tryz.prog 126 [ay b,.fn (.func 127) []] (.bool (b.all wfS))) (cC:Pure Tryz.prog 126 [ay e,.fn (.func 127) []] (.bool (e.all wfS))) :
  Pure Tryz.prog 127 [.agg (smE (.mk 9 n f w l b e))] (.bool (wfS (.mk 9 n f w l b e))):=by
 have le:=aP l
 have lb:=aO b
 have lee:=aO e
 refine Pure.of fun nx=>AC.go aj jz (by simp) ?_
 have nn:(nx+1=nx)=False:=eq_false (by omega)
 have nself:((l.length:Int)=(l.length:Int))=True:=eq_true rfl
 rw [cH]
 have i0:=aI l 0 0 rfl
 have i1:=aI l 1 1 rfl
 have i2:=aI l 2 2 rfl
 have b0:=aI b 0 0 rfl
 have e0:=aI e 0 0 rfl
 have b1:=dv b
 have e1:=dv e
 have l8:=gP l
 have l9:=gQ l
 cases hn:(n==[])
 all_goals cases hm:(du n)
 all_goals
  rcases am (b.length=0) with ⟨-,hnb⟩|⟨-,hnb⟩
  rotate_left
  rcases am (e.length=0) with ⟨-,hne⟩|⟨-,hne⟩
  rotate_left
  cases hf:(du f)
  rotate_left
  rcases am (w=0) with ⟨-,hw⟩|⟨-,hw⟩
  rotate_left
  cases ha:(l.all wfE)
  rotate_left
  cases hba:(b.all wfS)
  rotate_left
  cases hea:(e.all wfS)
  rotate_left
  all_goals simp -implicitDefEqProofs only [RA,aa,zp,↓reduceIte,reduceCtorEq,zq,zr,zs,zt,m4,jf,gJ,aG,aU,if_false,↓aT,↓aS,↓aB,↓aA,Ie,unA,not_false_eq_true,not_true_eq_false,HQ, *]
  all_goals repeat' ((first|refine cE.use fun _ _=>?_|refine cB.use fun _ _=>?_|refine cC.use fun _ _=>?_|refine (w80 n hn1).use fun _ _=>?_|refine (w80 f hf1).use fun _ _=>?_|refine (w78 w).use fun _ _=>?_);simp -implicitDefEqProofs only [RA,aa,zp,↓reduceIte,reduceCtorEq,zq,zr,zs,zt,gJ,aG,aU,if_false,↓aT,↓aS,↓aB,↓aA,Ie,unA,not_false_eq_true,not_true_eq_false,HQ, *])
  all_goals simp [bQ,wfM, *]
theorem BE (k w:Int) (n f:Nm) (l:List Ex) (b e:List Sm) (hn1:n.length≤100000) (hf1:f.length≤100000) (cE:Pure Tryz.prog 81 [aR l,.fn (.func 38) []] (.bool (l.all wfE))) (cB:Pure Tryz.prog 126 [ay b,.fn (.func 127) []] (.bool (b.all wfS))) (cC:Pure Tryz.prog 126 [ay e,.fn (.func 127) []] (.bool (e.all wfS))) (hk1:k≠1) (hk2:k≠2) (hk3:k≠3) (hk4:k≠4) (hk5:k≠5) (hk6:k≠6) (hk7:k≠7) (hk8:k≠8) (hk9:k≠9) :
  Pure Tryz.prog 127 [.agg (smE (.mk k n f w l b e))] (.bool (wfS (.mk k n f w l b e))):=by
 have le:=aP l
 have lb:=aO b
 have lee:=aO e
 refine Pure.of fun nx=>AC.go aj jz (by simp) ?_
 have nn:(nx+1=nx)=False:=eq_false (by omega)
 have nself:((l.length:Int)=(l.length:Int))=True:=eq_true rfl
 rw [cH]
 have i0:=aI l 0 0 rfl
 have i1:=aI l 1 1 rfl
 have i2:=aI l 2 2 rfl
 have b0:=aI b 0 0 rfl
 have e0:=aI e 0 0 rfl
 have b1:=dv b
 have e1:=dv e
 have l8:=gP l
 have l9:=gQ l
 have kd1:(k=1)=False:=eq_false hk1
 have kd2:(k=2)=False:=eq_false hk2
 have kd3:(k=3)=False:=eq_false hk3
 have kd4:(k=4)=False:=eq_false hk4
 have kd5:(k=5)=False:=eq_false hk5
 have kd6:(k=6)=False:=eq_false hk6
 have kd7:(k=7)=False:=eq_false hk7
 have kd8:(k=8)=False:=eq_false hk8
 have kd9:(k=9)=False:=eq_false hk9
 all_goals simp -implicitDefEqProofs only [RA,aa,zp,↓reduceIte,reduceCtorEq,zq,zr,zs,zt,m4,jf,gJ,aG,aU,if_false,↓aT,↓aS,↓aB,↓aA,Ie,unA,not_false_eq_true,not_true_eq_false,HQ, *]
 all_goals repeat' ((first|refine cE.use fun _ _=>?_|refine cB.use fun _ _=>?_|refine cC.use fun _ _=>?_|refine (w80 n hn1).use fun _ _=>?_|refine (w80 f hf1).use fun _ _=>?_|refine (w78 w).use fun _ _=>?_);simp -implicitDefEqProofs only [RA,aa,zp,↓reduceIte,reduceCtorEq,zq,zr,zs,zt,gJ,aG,aU,if_false,↓aT,↓aS,↓aB,↓aA,Ie,unA,not_false_eq_true,not_true_eq_false,HQ, *])
 all_goals simp [bQ,wfM, *]
theorem w127:∀ (m:Nat) (x:Sm),ff x≤m→ff x≤4611686018427387904→shS x→Pure Tryz.prog 127 [.agg (smE x)] (.bool (wfS x)):=by
 intro m
 induction m with
 | zero=>intro x hx;have:=jg x;omega
 | succ m ih =>
  rintro ⟨k,n,f,w,l,b,e⟩ hm hB hsh
  simp only [ff] at hm hB
  simp only [shS] at hsh
  obtain ⟨h1,h2,h3,h4,h5,h6⟩:=hsh
  have hl:=aE l
  have hlb:=bW b
  have hle:=bW e
  have cE:Pure Tryz.prog 81 [aR l,.fn (.func 38) []] (.bool (l.all wfE)):=w81 wfE l (by omega) fun x hx=>w38 _ x (Nat.le_refl _) (by have:=bL hx;omega) (iN h3 x hx)
  have cB:Pure Tryz.prog 126 [ay b,.fn (.func 127) []] (.bool (b.all wfS)):=BO wfS b (by omega) fun x hx=>ih x (by have:=dx hx;omega) (by have:=dx hx;omega) (fN h5 x hx)
  have cC:Pure Tryz.prog 126 [ay e,.fn (.func 127) []] (.bool (e.all wfS)):=BO wfS e (by omega) fun x hx=>ih x (by have:=dx hx;omega) (by have:=dx hx;omega) (fN h6 x hx)
  by_cases hk1:k=1
  ·subst hk1;exact BN w n f l b e h1 h2 cE cB cC
  by_cases hk2:k=2
  ·subst hk2;exact BM w n f l b e h1 h2 cE cB cC
  by_cases hk3:k=3
  ·subst hk3;exact BL w n f l b e h1 h2 cE cB cC
  by_cases hk4:k=4
  ·subst hk4;exact BK w n f l b e h1 h2 cE cB cC
  by_cases hk5:k=5
  ·subst hk5;exact BJ w n f l b e h1 h2 cE cB cC
  by_cases hk6:k=6
  ·subst hk6;exact BI w n f l b e h1 h2 cE cB cC
  by_cases hk7:k=7
  ·subst hk7;exact BH w n f l b e h1 h2 cE cB cC
  by_cases hk8:k=8
  ·subst hk8;exact BG w n f l b e h1 h2 cE cB cC
  by_cases hk9:k=9
  ·subst hk9;exact BF w n f l b e h1 h2 cE cB cC
  exact BE k w n f l b e h1 h2 cE cB cC hk1 hk2 hk3 hk4 hk5 hk6 hk7 hk8 hk9
end Go.Proofs.YtgeieafamocnhaaGreatDoor
