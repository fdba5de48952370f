/- Terms: how large, how deep, and whether they are looked at. -/
import Derived.Test.YtkhjclmfbmfahaaGreatDoorGE
namespace Go.Proofs.YtkhjclmfbmfahaaGreatDoor
open List renaming getElem?_eq_getElem → Fo, mem_of_getElem? → Fp, take_of_length_le → Fs, drop_of_length_le → Ft, length_cons → Fu, length_nil → Fv, length_map → Fw, length_take → Fx, length_append → FB, map_append → FC, mem_cons → FD, cons_append → F0, any_eq_true → F1
open Bool renaming true_and → Ge, false_and → Gf, true_or → Gl, false_or → Gm, or_true → Gn
open Nat renaming le_refl → Gp, le_trans → Gr
open Int renaming reduceEq → Gy
set_option maxHeartbeats 64000000
open Go Go.Ab Go.Proofs
open Nat renaming reduceEqDiff → zp, reduceAdd → zq, reduceLeDiff → zr, reduceLT → zs, reduceBEq → zt
set_option linter.unusedVariables false
set_option linter.unusedSimpArgs false
set_option maxRecDepth 20000
mutual
def szT:Tm→Nat
 | .mk _ _ _ _ _ s=>bx s+1
def bx:List Tm→Nat
 | []=>0
 | x::r=>szT x+bx r
end
mutual
def dpT:Tm→Nat
 | .mk _ _ _ _ _ s=>dL s+1
def dL:List Tm→Nat
 | []=>0
 | x::r=>max (dpT x) (dL r)
end
theorem bR (x:Tm):szT x=bx x.sub+1:=by cases x;simp [szT,Tm.sub]
theorem vM (x:Tm):dpT x=dL x.sub+1:=by cases x;simp [dpT,Tm.sub]
theorem bZ:∀ {l:List Tm} {x:Tm},x∈l→szT x≤bx l
 | [],x,h=>by simp at h
 | y::r,x,h=>by
  simp only [bx]
  rcases FD.1 h with rfl|h
  ·omega
  ·have:=bZ h;omega
theorem bJ:∀ l:List Tm,l.length≤bx l
 | []=>by simp
 | x::r=>by have:=bJ r;have:=bR x;simp only [Fu,bx];omega
theorem kw:∀ (a b:List Tm),bx (a++b)=bx a+bx b
 | [],b=>by simp [bx]
 | x::a,b=>by simp only [F0,bx,kw a b];omega
theorem oQ:∀ (a b:List Tm),dL (a++b)=max (dL a) (dL b)
 | [],b=>by simp [dL]
 | x::a,b=>by simp only [F0,dL,oQ a b];omega
theorem lJ {l:List Tm} {i:Nat} {r:Tm} (h:l[i]?=some r):bx (l.take (i+1))=bx (l.take i)+szT r:=by
 rw [aQ h,kw];simp [bx]
theorem me {l:List Tm} {i:Nat} {r:Tm} (h:l[i]?=some r):dL (l.take (i+1))=max (dL (l.take i)) (dpT r):=by
 rw [aQ h,oQ];simp [dL]
theorem mB (l:List Tm) (i:Nat):bx (l.take i)≤bx l:=by
 have:=kw (l.take i) (l.drop i)
 rw [List.take_append_drop] at this;omega
theorem z7:∀ (N:Nat) (x:Tm),szT x≤N→dpT x≤szT x:=by
 intro N
 induction N with
 | zero=>intro x h;have:=bR x;omega
 | succ N ih =>
  intro x h
  have key:∀ l:List Tm,bx l≤N→dL l≤bx l:=by
   intro l
   induction l with
   | nil=>intro _;simp [dL]
   | cons a r ihr =>
    intro hl
    simp only [bx,dL] at hl ⊢
    have h1:=ih a (by omega)
    have h2:=ihr (by omega)
    omega
  have h1:=bR x
  have h2:=vM x
  have h3:=key x.sub (by omega)
  omega
theorem w61:∀ (N:Nat) (x:Tm),szT x≤N→N≤4000000→Pure Tryz.prog 61 [.agg (tmE x)] (.int .i64 (szT x)):=by
 intro N
 induction N with
 | zero=>intro x h;have:=bR x;omega
 | succ N ih =>
  rintro ⟨k,w,b,n,lo,s⟩ h hN
  refine Pure.of fun nx=>AC.go aI is61 (by simp) ?_
  simp only [szT] at h ⊢
  have hl:=bJ s
  have lv:=bw s
  rw [gI]
  simp -implicitDefEqProofs only [RA,ae,zp,↓reduceIte,reduceCtorEq,zq,zr,zs,zt,A61,ED,↓ak,↓aj]
  refine aJ (fun q st=>∃ i:Nat,q=s.length-i∧i≤s.length∧ah st.env 1=some (.op nx 0)∧ah st.env 3=some (.int .i64 ((bx (s.take i)+1:Nat):Int))∧ah st.env 4=some (.int .i64 i)∧aq st.heap nx=some (.cells [.int .u8 k,.int .i64 w,.int .u64 b,.str n,.int .i64 lo,bg s])∧st.dm=[]) (n:=s.length) aI
   ⟨0,rfl,by omega,by simp [ah],by simp [ah,bx],by simp [ah],by simp [aq],rfl⟩ ?_
  rintro q ⟨env,heap,nx',dm⟩ ⟨i,rfl,hi,g1,g3,g4,gx,hdm⟩
  simp only at g1 g3 g4 gx hdm
  subst hdm
  have f1:=wS (i:=i) (by omega)
  by_cases hc:(i:Int)<(s.length:Int)
  case neg =>
   rw [Fs (by omega)] at g3
   simp -implicitDefEqProofs only [RA,ae,zp,↓reduceIte,reduceCtorEq,zq,zr,zs,zt,wZ,qA,g1,g3,g4,gx,lv,hc,R61]
  have hr:=Fo (show i<s.length by omega)
  generalize s[i]=r at hr
  have ix:=bh hr
  have hm:=bZ (Fp hr)
  have ht:=lJ hr
  have hle:=mB s (i+1)
  have f2:IntKind.i64.wrap (((bx (s.take i)+1:Nat):Int)+(szT r:Int))=((bx (s.take (i+1))+1:Nat):Int):=by rw [w64 (by omega) (by omega)];omega
  simp -implicitDefEqProofs only [RA,ae,zp,↓reduceIte,reduceCtorEq,zq,zr,zs,zt,wZ,qA,g1,g3,g4,gx,lv,hc,ix,aY,aU]
  refine (ih r (by omega) (by omega)).use fun n1 hn1=>?_
  simp -implicitDefEqProofs only [RA,ae,zp,↓reduceIte,reduceCtorEq,zq,zr,zs,zt,g1,g3,g4,gx,f1,f2]
  exact ⟨s.length-(i+1),by omega,i+1,rfl,by omega,rfl,rfl⟩
theorem w101:∀ (N:Nat) (x:Tm),szT x≤N→N≤4000000→Pure Tryz.prog 101 [.agg (tmE x)] (.int .i64 (dpT x)):=by
 intro N
 induction N with
 | zero=>intro x h;have:=bR x;omega
 | succ N ih =>
  intro x h hN
  have hds:=z7 _ x (Gp _)
  obtain ⟨k,w,b,n,lo,s⟩:=x
  refine Pure.of fun nx=>AC.go aI Do (by simp) ?_
  simp only [szT,dpT] at h hds ⊢
  have hl:=bJ s
  have lv:=bw s
  rw [gI]
  simp -implicitDefEqProofs only [RA,ae,zp,↓reduceIte,reduceCtorEq,zq,zr,zs,zt,Fk,Az,↓ak,↓aj]
  refine aJ (fun q st=>∃ i:Nat,q=s.length-i∧i≤s.length∧ah st.env 1=some (.op nx 0)∧ah st.env 3=some (.int .i64 (dL (s.take i)))∧ah st.env 4=some (.int .i64 i)∧aq st.heap nx=some (.cells [.int .u8 k,.int .i64 w,.int .u64 b,.str n,.int .i64 lo,bg s])∧st.dm=[]) (n:=s.length) aI
   ⟨0,rfl,by omega,by simp [ah],by simp [ah,dL],by simp [ah],by simp [aq],rfl⟩ ?_
  rintro q ⟨env,heap,nx',dm⟩ ⟨i,rfl,hi,g1,g3,g4,gx,hdm⟩
  simp only at g1 g3 g4 gx hdm
  subst hdm
  have f1:=wS (i:=i) (by omega)
  by_cases hc:(i:Int)<(s.length:Int)
  case neg =>
   rw [Fs (by omega)] at g3
   have f2:IntKind.i64.wrap ((dL s:Int)+1)=((dL s+1:Nat):Int):=by rw [w64 (by omega) (by omega)];omega
   simp -implicitDefEqProofs only [RA,ae,zp,↓reduceIte,reduceCtorEq,zq,zr,zs,zt,rd,nL,g1,g3,g4,gx,lv,hc,f2,Ea]
  have hr:=Fo (show i<s.length by omega)
  generalize s[i]=r at hr
  have ix:=bh hr
  have hm:=bZ (Fp hr)
  have ht:=me hr
  have f2:(if (dpT r:Int) > (dL (s.take i):Int) then (dpT r:Int) else (dL (s.take i):Int))=((dL (s.take (i+1)):Nat):Int):=by split <;> omega
  simp -implicitDefEqProofs only [RA,ae,zp,↓reduceIte,reduceCtorEq,zq,zr,zs,zt,rd,nL,g1,g3,g4,gx,lv,hc,ix,aY,aU]
  refine (ih r (by omega) (by omega)).use fun n1 hn1=>?_
  simp -implicitDefEqProofs only [RA,ae,zp,↓reduceIte,reduceCtorEq,zq,zr,zs,zt,g1,g3,g4,gx,f1,f2]
  exact ⟨s.length-(i+1),by omega,i+1,rfl,by omega,rfl,rfl⟩
theorem w95:∀ (N:Nat) (x:Tm),szT x≤N→N≤4000000→Pure Tryz.prog 95 [.agg (tmE x)] (.int .i64 (dpT x)):=by
 intro N
 induction N with
 | zero=>intro x h;have:=bR x;omega
 | succ N ih =>
  intro x h hN
  have hds:=z7 _ x (Gp _)
  obtain ⟨k,w,b,n,lo,s⟩:=x
  refine Pure.of fun nx=>AC.go aI is95 (by simp) ?_
  simp only [szT,dpT] at h hds ⊢
  have hl:=bJ s
  have lv:=bw s
  rw [gI]
  simp -implicitDefEqProofs only [RA,ae,zp,↓reduceIte,reduceCtorEq,zq,zr,zs,zt,A95,Eg,↓ak,↓aj,lv]
  refine aJ (fun q st=>∃ i:Nat,q=s.length-i∧i≤s.length∧ah st.env 7=some (bg s)∧ah st.env 8=some (.int .i64 s.length)∧ah st.env 3=some (.int .i64 (dL (s.take i)))∧ah st.env 9=some (.int .i64 i)∧st.dm=[]) (n:=s.length) aI
   ⟨0,rfl,by omega,by simp [ah],by simp [ah],by simp [ah,dL],by simp [ah],rfl⟩ ?_
  rintro q ⟨env,heap,nx',dm⟩ ⟨i,rfl,hi,g7,g8,g3,g9,hdm⟩
  simp only at g7 g8 g3 g9 hdm
  subst hdm
  have f1:=wS (i:=i) (by omega)
  by_cases hc:(i:Int)<(s.length:Int)
  case neg =>
   rw [Fs (by omega)] at g3
   have f2:IntKind.i64.wrap ((dL s:Int)+1)=((dL s+1:Nat):Int):=by rw [w64 (by omega) (by omega)];omega
   simp -implicitDefEqProofs only [RA,ae,zp,↓reduceIte,reduceCtorEq,zq,zr,zs,zt,wt,qj,g7,g8,g3,g9,hc,f2,R95]
  have hr:=Fo (show i<s.length by omega)
  generalize s[i]=r at hr
  have ix:=bh hr
  have hm:=bZ (Fp hr)
  have ht:=me hr
  have f2:(if (dpT r:Int) > (dL (s.take i):Int) then (dpT r:Int) else (dL (s.take i):Int))=((dL (s.take (i+1)):Nat):Int):=by split <;> omega
  rw [aZ] at ix
  have ihr:=ih r (by omega) (by omega)
  rw [aZ] at ihr
  simp -implicitDefEqProofs only [RA,ae,zp,↓reduceIte,reduceCtorEq,zq,zr,zs,zt,wt,qj,g7,g8,g3,g9,hc,ix,↓ak,↓aj]
  refine ihr.use fun n1 hn1=>?_
  simp -implicitDefEqProofs only [RA,ae,zp,↓reduceIte,reduceCtorEq,zq,zr,zs,zt,g7,g8,g3,g9,f1,f2]
  exact ⟨s.length-(i+1),by omega,i+1,rfl,by omega,rfl,rfl⟩
def iK (f:Tm→Int→Int × Bool):List Tm→Int→Int→Int × Bool
 | [],_,n=>(n,true)
 | x::r,lim,n=>if n≤lim then (if (f x (lim-n)).2=true then iK f r lim (n+(f x (lim-n)).1) else (n,false)) else (n,true)
def dZ:Nat→Tm→Int→Int × Bool
 | 0,_,_=>(1,false)
 | d+1,x,lim=>iK (dZ d) x.sub lim 1
theorem p7:∀ (d:Nat) (x:Tm) (lim:Int),0≤lim→1≤(dZ d x lim).1∧(dZ d x lim).1≤lim+d+1
 | 0,x,lim,h=>by simp only [dZ];omega
 | d+1,x,lim,h=>by
  have key:∀ (l:List Tm) (n:Int),1≤n→n≤lim+d+2→1≤(iK (dZ d) l lim n).1∧(iK (dZ d) l lim n).1≤lim+d+2:=by
   intro l
   induction l with
   | nil=>intro n h1 h2;simp only [iK];omega
   | cons y r ih =>
    intro n h1 h2
    rw [iK]
    split
    ·have:=p7 d y (lim-n) (by omega)
     split
     ·exact ih _ (by omega) (by omega)
     ·simp only;omega
    ·simp only;omega
  have:=key x.sub 1 (by omega) (by omega)
  simp only [dZ]
  omega
theorem vT:∀ (d:Nat) (x:Tm) (lim:Int),(dZ d x lim).2=true→(dZ d x lim).1≤lim→(szT x:Int)=(dZ d x lim).1∧dpT x≤d
 | 0,x,lim,h,_=>by simp [dZ] at h
 | d+1,x,lim,h,hl=>by
  have key:∀ (l:List Tm) (n:Int),(iK (dZ d) l lim n).2=true→(iK (dZ d) l lim n).1≤lim→n≤(iK (dZ d) l lim n).1∧n+(bx l:Int)=(iK (dZ d) l lim n).1∧dL l≤d:=by
   intro l
   induction l with
   | nil=>intro n h1 h2;simp [iK,bx,dL]
   | cons y r ih =>
    intro n h1 h2
    rw [iK] at h1 h2 ⊢
    split at h1
    ·rename_i c1
     rw [if_pos c1] at h2 ⊢
     split at h1
     ·rename_i c2
      rw [if_pos c2] at h2 ⊢
      obtain ⟨e1,e2,e3⟩:=ih _ h1 h2
      obtain ⟨e4,e5⟩:=vT d y (lim-n) c2 (by omega)
      have:=(p7 d y (lim-n) (by omega)).1
      simp only [bx,dL]
      refine ⟨by omega,by omega,by omega⟩
     ·simp at h1
    ·rename_i c1
     rw [if_neg c1] at h2
     exact absurd h2 c1
  rw [dZ] at h hl ⊢
  obtain ⟨e1,e2,e3⟩:=key x.sub 1 h hl
  have h1:=bR x
  have h2:=vM x
  exact ⟨by omega,by omega⟩
mutual
def j0:Tm→Bool
 | .mk _ _ _ n _ s=>oA s||decide ((n.length:Int) > 200)
def oA:List Tm→Bool
 | []=>false
 | x::r=>j0 x||oA r
end
def grT (x:Tm):Bool:=!(dZ 80 x 500).2||(decide ((dZ 80 x 500).1 > 500)||j0 x)
theorem w72:∀ (d:Nat) (x:Tm) (lim:Int),d≤1000→szT x≤4000000→0≤lim→lim≤1000→Pure Tryz.prog 72 [.agg (tmE x),.int .i64 lim,.int .i64 d] (.tup [.int .i64 (dZ d x lim).1,.bool (dZ d x lim).2]):=by
 intro d
 induction d with
 | zero =>
  rintro ⟨k,w,b,n,lo,s⟩ lim hd hz h0 h1
  refine Pure.of fun nx=>AC.go aI CZ (by simp) ?_
  have zz:((0:Nat):Int)=0:=rfl
  rw [gI]
  simp -implicitDefEqProofs only [RA,ae,zp,↓reduceIte,reduceCtorEq,zq,zr,zs,zt,A72,Cn,↓ak,↓aj,zz,Gy,R72]
  rfl
 | succ d ih =>
  rintro ⟨k,w,b,n,lo,s⟩ lim hd hz h0 h1
  refine Pure.of fun nx=>AC.go aI CZ (by simp) ?_
  have hd0:(((d+1:Nat):Int)=0)=False:=eq_false (by omega)
  have hf:IntKind.i64.wrap (((d+1:Nat):Int)-1)=(d:Int):=by rw [w64 (by omega) (by omega)];omega
  simp only [szT] at hz
  have hl:=bJ s
  have lv:=bw s
  rw [gI]
  obtain ⟨R,hR⟩:∃ R,dZ (d+1) (.mk k w b n lo s) lim=R:=⟨_,rfl⟩
  rw [hR]
  simp only [dZ,Tm.sub] at hR
  simp -implicitDefEqProofs only [RA,ae,zp,↓reduceIte,reduceCtorEq,zq,zr,zs,zt,A72,Cn,↓ak,↓aj,hd0]
  refine aJ (fun q st=>∃ (i:Nat) (m:Int),q=s.length-i∧i≤s.length∧iK (dZ d) (s.drop i) lim m=R∧1≤m∧m≤lim+d+2∧ah st.env 1=some (.int .i64 lim)∧ah st.env 2=some (.int .i64 ((d+1:Nat):Int))∧ah st.env 3=some (.op nx 0)∧ah st.env 8=some (.int .i64 m)∧ah st.env 9=some (.int .i64 i)∧aq st.heap nx=some (.cells [.int .u8 k,.int .i64 w,.int .u64 b,.str n,.int .i64 lo,bg s])∧st.dm=[]) (n:=s.length) aI
   ⟨0,1,rfl,by omega,by simpa using hR,by omega,by omega,by simp [ah],by simp [ah],by simp [ah],by simp [ah],by simp [ah],by simp [aq],rfl⟩ ?_
  rintro q ⟨env,heap,nx',dm⟩ ⟨i,m,rfl,hi,hres,hm0,hm1,g1,g2,g3,g8,g9,gx,hdm⟩
  simp only at g1 g2 g3 g8 g9 gx hdm
  subst hdm
  have f1:=wS (i:=i) (by omega)
  by_cases hc:(i:Int)<(s.length:Int)
  case neg =>
   rw [Ft (by omega),iK] at hres
   subst hres
   simp -implicitDefEqProofs only [RA,ae,zp,↓reduceIte,reduceCtorEq,zq,zr,zs,zt,sj,nu,g1,g2,g3,g8,g9,gx,lv,hc,R72]
  have hr:=Fo (show i<s.length by omega)
  generalize s[i]=r at hr
  have ix:=bh hr
  have hmr:=bZ (Fp hr)
  rw [bA hr,iK] at hres
  rcases ai (m≤lim) with ⟨c1,d1⟩|⟨c1,d1⟩
  case inr =>
   rw [if_neg c1] at hres
   subst hres
   simp -implicitDefEqProofs only [RA,ae,zp,↓reduceIte,reduceCtorEq,zq,zr,zs,zt,sj,nu,g1,g2,g3,g8,g9,gx,lv,hc,d1,R72]
  rw [if_pos c1] at hres
  have f2:IntKind.i64.wrap (lim-m)=lim-m:=by rw [w64 (by omega) (by omega)]
  have hle:=p7 d r (lim-m) (by omega)
  have f3:IntKind.i64.wrap (m+(dZ d r (lim-m)).1)=m+(dZ d r (lim-m)).1:=by rw [w64 (by omega) (by omega)]
  simp -implicitDefEqProofs only [RA,ae,zp,↓reduceIte,reduceCtorEq,zq,zr,zs,zt,sj,nu,g1,g2,g3,g8,g9,gx,lv,hc,d1,ix,aY,aU,f2,hf]
  refine (ih r (lim-m) (by omega) (by omega) (by omega) (by omega)).use fun n1 hn1=>?_
  cases hb:(dZ d r (lim-m)).2 with
  | false =>
   rw [hb,if_neg (by simp)] at hres
   subst hres
   simp -implicitDefEqProofs only [RA,ae,zp,↓reduceIte,reduceCtorEq,zq,zr,zs,zt,g1,g2,g3,g8,g9,gx,unA,R72]
  | true =>
   rw [hb,if_pos rfl] at hres
   simp -implicitDefEqProofs only [RA,ae,zp,↓reduceIte,reduceCtorEq,zq,zr,zs,zt,g1,g2,g3,g8,g9,gx,unA,f1,f3]
   exact ⟨s.length-(i+1),by omega,i+1,_,rfl,by omega,hres,by omega,by omega,rfl,rfl⟩
theorem fO {α:Type} {q:α→Bool} {l:List α} {i:Nat} {x:α} (h:l[i]?=some x):(l.drop i).any q=(q x||(l.drop (i+1)).any q):=by
 rw [bA h,List.any_cons]
theorem jG:∀ l:List Tm,oA l=l.any j0
 | []=>by simp [oA]
 | x::r=>by simp [oA,jG r]
theorem jL {α:Type} {q:α→Bool} {l:List α} (h:l.any q=false) {x:α} (hx:x∈l):q x=false:=by
 cases hq:q x with
 | false=>rfl
 | true=>rw [F1.2 ⟨x,hx,hq⟩] at h;cases h
theorem By {x:Tm} (h:grT x=false):szT x≤500∧dpT x≤80∧j0 x=false:=by
 simp only [grT,Bool.or_eq_false_iff,Bool.not_eq_false',decide_eq_false_iff_not] at h
 obtain ⟨h1,h2,h3⟩:=h
 have:=vT 80 x 500 h1 (by omega)
 exact ⟨by omega,this.2,h3⟩
theorem w73:∀ (N:Nat) (x:Tm),szT x≤N→N≤4000000→Pure Tryz.prog 73 [.agg (tmE x)] (.bool (j0 x)):=by
 intro N
 induction N with
 | zero=>intro x h;have:=bR x;omega
 | succ N ih =>
  rintro ⟨k,w,b,n,lo,s⟩ h hN
  refine Pure.of fun nx=>AC.go aI is73 (by simp) ?_
  simp only [szT] at h
  rw [j0,jG]
  have hl:=bJ s
  have lv:=bw s
  rw [gI]
  simp -implicitDefEqProofs only [RA,ae,zp,↓reduceIte,reduceCtorEq,zq,zr,zs,zt,A73,Ev,↓ak,↓aj]
  refine aJ (fun q st=>∃ i:Nat,q=s.length-i∧i≤s.length∧(s.drop i).any j0=s.any j0∧ah st.env 1=some (.op nx 0)∧ah st.env 3=some (.int .i64 i)∧aq st.heap nx=some (.cells [.int .u8 k,.int .i64 w,.int .u64 b,.str n,.int .i64 lo,bg s])∧st.dm=[]) (n:=s.length) aI
   ⟨0,rfl,by omega,by simp,by simp [ah],by simp [ah],by simp [aq],rfl⟩ ?_
  rintro q ⟨env,heap,nx',dm⟩ ⟨i,rfl,hi,hf,g1,g3,gx,hdm⟩
  simp only at g1 g3 gx hdm
  subst hdm
  have f1:=wS (i:=i) (by omega)
  by_cases hc:(i:Int)<(s.length:Int)
  case neg =>
   rw [Ft (by omega),List.any_nil] at hf
   rw [← hf]
   simp -implicitDefEqProofs only [RA,ae,zp,↓reduceIte,reduceCtorEq,zq,zr,zs,zt,wN,qq,g1,g3,gx,lv,hc,R73,Gm]
  have hr:=Fo (show i<s.length by omega)
  generalize s[i]=r at hr
  have ix:=bh hr
  have hm:=bZ (Fp hr)
  rw [fO hr] at hf
  simp -implicitDefEqProofs only [RA,ae,zp,↓reduceIte,reduceCtorEq,zq,zr,zs,zt,wN,qq,g1,g3,gx,lv,hc,ix,aY,aU]
  refine (ih r (by omega) (by omega)).use fun n1 hn1=>?_
  cases hq:j0 r with
  | true =>
   rw [hq,Gl] at hf
   rw [← hf]
   simp -implicitDefEqProofs only [RA,ae,zp,↓reduceIte,reduceCtorEq,zq,zr,zs,zt,g1,g3,gx,R73,Gl]
  | false =>
   rw [hq,Gm] at hf
   simp -implicitDefEqProofs only [RA,ae,zp,↓reduceIte,reduceCtorEq,zq,zr,zs,zt,g1,g3,gx,f1]
   exact ⟨s.length-(i+1),by omega,i+1,rfl,by omega,hf,rfl⟩
theorem w60 (x:Tm) (h:szT x≤4000000):Pure Tryz.prog 60 [.agg (tmE x)] (.bool (grT x)):=by
 have c73:=w73 4000000 x h (Gp _)
 have c72:=w72 80 x 500 (by omega) h (by omega) (by omega)
 have e80:((80:Nat):Int)=80:=rfl
 rw [e80] at c72
 refine Pure.of fun nx=>AC.go aI is60 (by simp) ?_
 simp -implicitDefEqProofs only [RA,ae,zp,↓reduceIte,reduceCtorEq,zq,zr,zs,zt,A60,EE,aY,aU]
 refine c72.use fun n1 hn1=>?_
 unfold grT
 cases hb:(dZ 80 x 500).2 with
 | false=>simp -implicitDefEqProofs only [RA,ae,zp,↓reduceIte,reduceCtorEq,zq,zr,zs,zt,unA,Bool.not_false,Gl,R60]
 | true =>
  rcases ai ((dZ 80 x 500).1 > 500) with ⟨c1,d1⟩|⟨c1,d1⟩
  ·simp -implicitDefEqProofs only [RA,ae,zp,↓reduceIte,reduceCtorEq,zq,zr,zs,zt,unA,d1,Bool.not_true,Gm,Gl,R60]
  ·simp -implicitDefEqProofs only [RA,ae,zp,↓reduceIte,reduceCtorEq,zq,zr,zs,zt,unA,d1,aY,aU]
   refine c73.use fun n2 hn2=>?_
   simp -implicitDefEqProofs only [RA,ae,zp,↓reduceIte,reduceCtorEq,zq,zr,zs,zt,unA,d1,Bool.not_true,Gm,R60]
def oG (l:List Tm):Bool:=decide ((l.length:Int) > 20)||l.any grT
theorem w42 (l:List Tm) (h:bx l≤4000000):Pure Tryz.prog 42 [bg l] (.bool (oG l)):=by
 refine Pure.of fun nx=>AC.go aI is42 (by simp) ?_
 have hl:=bJ l
 have lv:=bw l
 unfold oG
 rcases ai ((l.length:Int) > 20) with ⟨c1,d1⟩|⟨c1,d1⟩
 ·simp -implicitDefEqProofs only [RA,ae,zp,↓reduceIte,reduceCtorEq,zq,zr,zs,zt,A42,Cv,lv,d1,R42,Gl]
 simp -implicitDefEqProofs only [RA,ae,zp,↓reduceIte,reduceCtorEq,zq,zr,zs,zt,A42,Cv,lv,d1,Gm]
 refine aJ (fun q st=>∃ i:Nat,q=l.length-i∧i≤l.length∧(l.drop i).any grT=l.any grT∧ah st.env 0=some (bg l)∧ah st.env 3=some (.int .i64 i)∧st.dm=[]) (n:=l.length) aI
  ⟨0,rfl,by omega,by simp,by simp [ah],by simp [ah],rfl⟩ ?_
 rintro q ⟨env,heap,nx',dm⟩ ⟨i,rfl,hi,hf,g0,g3,hdm⟩
 simp only at g0 g3 hdm
 subst hdm
 have f1:=wS (i:=i) (by omega)
 by_cases hc:(i:Int)<(l.length:Int)
 case neg =>
  rw [Ft (by omega),List.any_nil] at hf
  rw [← hf]
  simp -implicitDefEqProofs only [RA,ae,zp,↓reduceIte,reduceCtorEq,zq,zr,zs,zt,xh,qJ,g0,g3,lv,hc,R42]
 have hr:=Fo (show i<l.length by omega)
 generalize l[i]=r at hr
 have ix:=bh hr
 have hm:=bZ (Fp hr)
 rw [fO hr] at hf
 simp -implicitDefEqProofs only [RA,ae,zp,↓reduceIte,reduceCtorEq,zq,zr,zs,zt,xh,qJ,g0,g3,lv,hc,ix,aY,aU]
 refine (w60 r (by omega)).use fun n1 hn1=>?_
 cases hq:grT r with
 | true =>
  rw [hq,Gl] at hf
  rw [← hf]
  simp -implicitDefEqProofs only [RA,ae,zp,↓reduceIte,reduceCtorEq,zq,zr,zs,zt,g0,g3,R42]
 | false =>
  rw [hq,Gm] at hf
  simp -implicitDefEqProofs only [RA,ae,zp,↓reduceIte,reduceCtorEq,zq,zr,zs,zt,g0,g3,f1]
  exact ⟨l.length-(i+1),by omega,i+1,rfl,by omega,hf,rfl⟩
def szS (s:St):Nat:=bx s.terms+1
def mC:List St→Nat
 | []=>0
 | x::r=>szS x+mC r
theorem nS:∀ {l:List St} {x:St},x∈l→szS x≤mC l
 | [],x,h=>by simp at h
 | y::r,x,h=>by
  simp only [mC]
  rcases FD.1 h with rfl|h
  ·omega
  ·have:=nS h;omega
theorem nT:∀ l:List St,l.length≤mC l
 | []=>by simp
 | x::r=>by have:=nT r;simp only [Fu,mC,szS];omega
def szB (b:Bk):Nat:=mC b.steps+bx b.terms+b.to.length+1
def grS (s:St):Bool:=oG s.terms||(decide ((s.var.length:Int) > 200)||decide ((s.func.length:Int) > 200))
def grB (b:Bk):Bool:=decide ((b.steps.length:Int) > 70)||(decide ((b.to.length:Int) > 70)||(oG b.terms||(decide ((b.func.length:Int) > 200)||b.steps.any grS)))
theorem w20 (b:Bk) (h:szB b≤4000000):Pure Tryz.prog 20 [.agg (bkE b)] (.bool (grB b)):=by
 refine Pure.of fun nx=>AC.go aI is20 (by simp) ?_
 unfold szB at h
 have hl:=nT b.steps
 have lv:=eh b.steps
 have li:=eO b.to
 have c42:=w42 b.terms (by omega)
 unfold grB
 rw [eD]
 rcases ai ((b.steps.length:Int) > 70) with ⟨c1,d1⟩|⟨c1,d1⟩
 ·simp -implicitDefEqProofs only [RA,ae,zp,↓reduceIte,reduceCtorEq,zq,zr,zs,zt,A20,zP,↓ak,↓aj,↓aE,↓aD,↓aC,↓aB,lv,li,d1,R20,Gl]
 rcases ai ((b.to.length:Int) > 70) with ⟨c2,d2⟩|⟨c2,d2⟩
 ·simp -implicitDefEqProofs only [RA,ae,zp,↓reduceIte,reduceCtorEq,zq,zr,zs,zt,A20,zP,↓ak,↓aj,↓aE,↓aD,↓aC,↓aB,lv,li,d1,d2,R20,Gm,Gl]
 simp -implicitDefEqProofs only [RA,ae,zp,↓reduceIte,reduceCtorEq,zq,zr,zs,zt,A20,zP,↓ak,↓aj,↓aE,↓aD,↓aC,↓aB,lv,li,d1,d2,Gm]
 refine c42.use fun n1 hn1=>?_
 cases hq:oG b.terms with
 | true=>simp -implicitDefEqProofs only [RA,ae,zp,↓reduceIte,reduceCtorEq,zq,zr,zs,zt,R20,Gl]
 | false =>
 rcases ai ((b.func.length:Int) > 200) with ⟨c3,d3⟩|⟨c3,d3⟩
 ·simp -implicitDefEqProofs only [RA,ae,zp,↓reduceIte,reduceCtorEq,zq,zr,zs,zt,d3,R20,Gm,Gl]
 simp -implicitDefEqProofs only [RA,ae,zp,↓reduceIte,reduceCtorEq,zq,zr,zs,zt,d3,Gm]
 generalize hC:([eH b.steps,.int .u8 b.kind,.str b.func,bg b.terms,cD b.to]:List AV)=C
 refine aJ (fun q st=>∃ i:Nat,q=b.steps.length-i∧i≤b.steps.length∧(b.steps.drop i).any grS=b.steps.any grS∧ah st.env 1=some (.op nx 0)∧ah st.env 3=some (.int .i64 i)∧aq st.heap nx=some (.cells C)∧nx<st.nx∧st.dm=[]) (n:=b.steps.length) aI
  ⟨0,rfl,by omega,by simp,by simp [ah],by simp [ah],by simp [aq],by simp only;omega,rfl⟩ ?_
 rintro q ⟨env,heap,nx',dm⟩ ⟨i,rfl,hi,hf,g1,g3,gx,hlt,hdm⟩
 simp only at g1 g3 gx hlt hdm
 subst hdm;subst hC
 have f1:=wS (i:=i) (by omega)
 by_cases hc:(i:Int)<(b.steps.length:Int)
 case neg =>
  rw [Ft (by omega),List.any_nil] at hf
  rw [← hf]
  simp -implicitDefEqProofs only [RA,ae,zp,↓reduceIte,reduceCtorEq,zq,zr,zs,zt,xC,qX,g1,g3,gx,lv,hc,R20]
 have hr:=Fo (show i<b.steps.length by omega)
 generalize b.steps[i]=r at hr
 have ix:=fv hr
 have hm:=nS (Fp hr)
 rw [fO hr,grS] at hf
 unfold szS at hm
 have c42':=w42 r.terms (by omega)
 rw [gq] at ix
 have a1:(nx'=nx)=False:=eq_false (by omega)
 simp -implicitDefEqProofs only [RA,ae,zp,↓reduceIte,reduceCtorEq,zq,zr,zs,zt,xC,qX,g1,g3,gx,lv,hc,ix,↓ak,↓aj,a1]
 refine c42'.use fun n2 hn2=>?_
 cases hq2:oG r.terms with
 | true =>
  rw [hq2,Gl,Gl] at hf
  rw [← hf]
  simp -implicitDefEqProofs only [RA,ae,zp,↓reduceIte,reduceCtorEq,zq,zr,zs,zt,R20]
 | false =>
 rw [hq2,Gm] at hf
 rcases ai ((r.var.length:Int) > 200) with ⟨c4,d4⟩|⟨c4,d4⟩
 ·rw [decide_eq_true c4,Gl,Gl] at hf
  rw [← hf]
  simp -implicitDefEqProofs only [RA,ae,zp,↓reduceIte,reduceCtorEq,zq,zr,zs,zt,d4,R20]
 rcases ai ((r.func.length:Int) > 200) with ⟨c5,d5⟩|⟨c5,d5⟩
 ·rw [decide_eq_true c5,Gn,Gl] at hf
  rw [← hf]
  simp -implicitDefEqProofs only [RA,ae,zp,↓reduceIte,reduceCtorEq,zq,zr,zs,zt,d4,d5,R20]
 ·rw [decide_eq_false c4,decide_eq_false c5,Gm,Gm] at hf
  simp -implicitDefEqProofs only [RA,ae,zp,↓reduceIte,reduceCtorEq,zq,zr,zs,zt,d4,d5,g1,g3,gx,a1,f1]
  exact ⟨b.steps.length-(i+1),by omega,i+1,rfl,by omega,hf,rfl,by omega⟩
theorem w43 (l:List Tm) (h:bx l≤4000000):Pure Tryz.prog 43 [bg l] (.int .i64 (bx l)):=by
 refine Pure.of fun nx=>AC.go aI is43 (by simp) ?_
 have hl:=bJ l
 have lv:=bw l
 simp -implicitDefEqProofs only [RA,ae,zp,↓reduceIte,reduceCtorEq,zq,zr,zs,zt,A43,EN]
 refine aJ (fun q st=>∃ i:Nat,q=l.length-i∧i≤l.length∧ah st.env 0=some (bg l)∧ah st.env 3=some (.int .i64 (bx (l.take i)))∧ah st.env 4=some (.int .i64 i)∧st.dm=[]) (n:=l.length) aI
  ⟨0,rfl,by omega,by simp [ah],by simp [ah,bx],by simp [ah],rfl⟩ ?_
 rintro q ⟨env,heap,nx',dm⟩ ⟨i,rfl,hi,g0,g3,g4,hdm⟩
 simp only at g0 g3 g4 hdm
 subst hdm
 have f1:=wS (i:=i) (by omega)
 by_cases hc:(i:Int)<(l.length:Int)
 case neg =>
  rw [Fs (by omega)] at g3
  simp -implicitDefEqProofs only [RA,ae,zp,↓reduceIte,reduceCtorEq,zq,zr,zs,zt,xg,qI,g0,g3,g4,lv,hc,R43]
 have hr:=Fo (show i<l.length by omega)
 generalize l[i]=r at hr
 have ix:=bh hr
 have hm:=bZ (Fp hr)
 have ht:=lJ hr
 have hle:=mB l (i+1)
 have f2:IntKind.i64.wrap ((bx (l.take i):Int)+(szT r:Int))=((bx (l.take (i+1)):Nat):Int):=by rw [w64 (by omega) (by omega)];omega
 simp -implicitDefEqProofs only [RA,ae,zp,↓reduceIte,reduceCtorEq,zq,zr,zs,zt,xg,qI,g0,g3,g4,lv,hc,ix,aY,aU]
 refine (w61 4000000 r (by omega) (Gp _)).use fun n1 hn1=>?_
 simp -implicitDefEqProofs only [RA,ae,zp,↓reduceIte,reduceCtorEq,zq,zr,zs,zt,g0,g3,g4,f1,f2]
 exact ⟨l.length-(i+1),by omega,i+1,rfl,by omega,rfl,rfl⟩
def bC {α:Type} (f:α→Nat):List α→Nat
 | []=>0
 | x::r=>f x+bC f r
theorem kz {α:Type} (f:α→Nat):∀ (a b:List α),bC f (a++b)=bC f a+bC f b
 | [],b=>by simp [bC]
 | x::a,b=>by simp only [F0,bC,kz f a b];omega
theorem jv {α:Type} {f:α→Nat} {l:List α} {i:Nat} {r:α} (h:l[i]?=some r):bC f (l.take (i+1))=bC f (l.take i)+f r:=by
 rw [aQ h,kz];simp [bC]
theorem mE {α:Type} (f:α→Nat) (l:List α) (i:Nat):bC f (l.take i)≤bC f l:=by
 have:=kz f (l.take i) (l.drop i)
 rw [List.take_append_drop] at this;omega
theorem fH {α:Type} {f:α→Nat}:∀ {l:List α} {x:α},x∈l→f x≤bC f l
 | [],x,h=>by simp at h
 | y::r,x,h=>by
  simp only [bC]
  rcases FD.1 h with rfl|h
  ·omega
  ·have:=fH (f:=f) h;omega
theorem fI {α:Type} {f:α→Nat} (h:∀ x,1≤f x):∀ l:List α,l.length≤bC f l
 | []=>by simp
 | x::r=>by have:=fI h r;have:=h x;simp only [Fu,bC];omega
theorem iT:∀ l:List St,mC l=bC szS l
 | []=>rfl
 | x::r=>by simp only [mC,bC,iT r]
def szF (f:Fn):Nat:=f.params.length+f.locals.length+bC szB f.blocks+1
def szI (p:Pi):Nat:=bC szF p
def wtB (b:Bk):Nat:=1+bx b.terms+bC szS b.steps
def wtF (f:Fn):Nat:=bC wtB f.blocks
def wtI (p:Pi):Nat:=bC wtF p
theorem tV (b:Bk):wtB b≤szB b:=by simp only [wtB,szB,iT];omega
theorem mD {α:Type} {f g:α→Nat} (h:∀ x,f x≤g x):∀ l:List α,bC f l≤bC g l
 | []=>Gp _
 | x::r=>by have:=mD h r;have:=h x;simp only [bC];omega
theorem AB (f:Fn):wtF f≤szF f:=by have:=mD tV f.blocks;simp only [wtF,szF];omega
theorem w21 (p:Pi) (h:szI p≤4000000):Pure Tryz.prog 21 [.agg (piE p)] (.int .i64 (wtI p)):=by
 refine Pure.of fun nx=>AC.go aI is21 (by simp) ?_
 have hl:=fI (f:=szF) (fun f=>by simp only [szF];omega) p
 have hw:=mD AB p
 have lv:=cX p
 unfold szI at h
 simp -implicitDefEqProofs only [RA,ae,zp,↓reduceIte,reduceCtorEq,zq,zr,zs,zt,A21,E3,piE,↓aA,↓az]
 refine aJ (fun q st=>∃ i:Nat,q=p.length-i∧i≤p.length∧ah st.env 1=some (.op nx 0)∧ah st.env 3=some (.int .i64 (bC wtF (p.take i)))∧ah st.env 4=some (.int .i64 i)∧aq st.heap nx=some (.cells [bM p])∧nx<st.nx∧st.dm=[]) (n:=p.length) aI
  ⟨0,rfl,by omega,by simp [ah],by simp [ah,bC],by simp [ah],by simp [aq],by simp,rfl⟩ ?_
 rintro q ⟨env,heap,nx',dm⟩ ⟨i,rfl,hi,g1,g3,g4,gx,hlt,hdm⟩
 simp only at g1 g3 g4 gx hlt hdm
 subst hdm
 have f1:=wS (i:=i) (by omega)
 by_cases hc:(i:Int)<(p.length:Int)
 case neg =>
  rw [Fs (by omega)] at g3
  simp -implicitDefEqProofs only [RA,ae,zp,↓reduceIte,reduceCtorEq,zq,zr,zs,zt,xz,qU,g1,g3,g4,gx,lv,hc,R21]
  rfl
 have hr:=Fo (show i<p.length by omega)
 generalize p[i]=f at hr
 have ix:=cL hr
 have hmf:=fH (f:=szF) (Fp hr)
 have ht:=jv (f:=wtF) hr
 have hle:=mE wtF p (i+1)
 rw [bN] at ix
 have lb:=dv f.blocks
 have hsf:szF f=f.params.length+f.locals.length+bC szB f.blocks+1:=rfl
 have hlb:=fI (f:=szB) (fun f=>by simp only [szB];omega) f.blocks
 have hwb:=mD tV f.blocks
 simp -implicitDefEqProofs only [RA,ae,zp,↓reduceIte,reduceCtorEq,zq,zr,zs,zt,xz,qU,g1,g3,g4,gx,lv,hc]
 refine aJ (fun q st=>∃ j:Nat,q=f.blocks.length-j∧j≤f.blocks.length∧ah st.env 1=some (.op nx 0)∧ah st.env 3=some (.int .i64 ((bC wtF (p.take i)+bC wtB (f.blocks.take j):Nat):Int))∧ah st.env 4=some (.int .i64 i)∧ah st.env 5=some (.int .i64 j)∧aq st.heap nx=some (.cells [bM p])∧nx<st.nx∧st.dm=[]) (n:=f.blocks.length) aI
  ⟨0,rfl,by omega,by simp [ah,g1],by simp [ah,g3,bC],by simp [ah,g4],by simp [ah],gx,hlt,rfl⟩ ?_
 clear g1 g3 g4 gx hlt
 rintro q ⟨env,heap,nx2,dm⟩ ⟨j,rfl,hj,g1,g3,g4,g5,gx,hlt,hdm⟩
 simp only at g1 g3 g4 g5 gx hlt hdm
 subst hdm
 have f2:=wS (i:=j) (by omega)
 by_cases hd:(j:Int)<(f.blocks.length:Int)
 case neg =>
  rw [show f.blocks.take j=f.blocks from Fs (by omega)] at g3
  have e:bC wtF (p.take i)+bC wtB f.blocks=bC wtF (p.take (i+1)):=by rw [ht];rfl
  rw [e] at g3
  simp -implicitDefEqProofs only [RA,ae,zp,↓reduceIte,reduceCtorEq,zq,zr,zs,zt,xA,qV,g1,g3,g4,g5,gx,ix,lb,hd,f1]
  exact ⟨p.length-(i+1),by omega,i+1,rfl,by omega,rfl,rfl,hlt⟩
 have hr2:=Fo (show j<f.blocks.length by omega)
 generalize f.blocks[j]=b at hr2
 have iy:=dH hr2
 have hmb:=fH (f:=szB) (Fp hr2)
 have ht2:=jv (f:=wtB) hr2
 have hle2:=mE wtB f.blocks (j+1)
 rw [eD] at iy
 have ls:=eh b.steps
 have hws:wtB b=1+bx b.terms+bC szS b.steps:=rfl
 have hsb:szB b=mC b.steps+bx b.terms+b.to.length+1:=rfl
 rw [iT] at hsb
 have hls:=fI (f:=szS) (fun f=>by simp only [szS];omega) b.steps
 have a1:(nx2=nx)=False:=eq_false (by omega)
 have f3:IntKind.i64.wrap (((bC wtF (p.take i)+bC wtB (f.blocks.take j):Nat):Int)+1)=((bC wtF (p.take i)+bC wtB (f.blocks.take j)+1:Nat):Int):=by rw [w64 (by omega) (by omega)];omega
 have f4:IntKind.i64.wrap (((bC wtF (p.take i)+bC wtB (f.blocks.take j)+1:Nat):Int)+(bx b.terms:Int))=((bC wtF (p.take i)+bC wtB (f.blocks.take j)+1+bx b.terms:Nat):Int):=by rw [w64 (by omega) (by omega)];omega
 simp -implicitDefEqProofs only [RA,ae,zp,↓reduceIte,reduceCtorEq,zq,zr,zs,zt,xA,qV,g1,g3,g4,g5,gx,ix,lb,hd,iy,a1,f3,↓ak,↓aj,↓aE,↓aD,↓aC,↓aB]
 refine (w43 b.terms (by omega)).use fun n1 hn1=>?_
 have a2:(nx2=nx)=False:=a1
 simp -implicitDefEqProofs only [RA,ae,zp,↓reduceIte,reduceCtorEq,zq,zr,zs,zt,g1,g4,g5,gx,a1,f4]
 refine aJ (fun q st=>∃ k:Nat,q=b.steps.length-k∧k≤b.steps.length∧ah st.env 1=some (.op nx 0)∧ah st.env 3=some (.int .i64 ((bC wtF (p.take i)+bC wtB (f.blocks.take j)+1+bx b.terms+bC szS (b.steps.take k):Nat):Int))∧ah st.env 4=some (.int .i64 i)∧ah st.env 5=some (.int .i64 j)∧ah st.env 6=some (.op nx2 0)∧ah st.env 7=some (.int .i64 k)∧aq st.heap nx=some (.cells [bM p])∧aq st.heap nx2=some (.cells [eH b.steps,.int .u8 b.kind,.str b.func,bg b.terms,cD b.to])∧nx2<st.nx∧st.dm=[]) (n:=b.steps.length) aI
  ⟨0,rfl,by omega,by simp [ah,g1],by simp [ah,bC],by simp [ah,g4],by simp [ah,g5],by simp [ah],by simp [ah],by simp [af,a1,gx],by simp [af],by simp only;omega,rfl⟩ ?_
 clear g1 g3 g4 g5 gx
 rintro q ⟨env,heap,nx3,dm⟩ ⟨k,rfl,hk,g1,g3,g4,g5,g6,g7,gx,gy,hlt3,hdm⟩
 simp only at g1 g3 g4 g5 g6 g7 gx gy hlt3 hdm
 subst hdm
 have f5:=wS (i:=k) (by omega)
 by_cases he:(k:Int)<(b.steps.length:Int)
 case neg =>
  rw [show b.steps.take k=b.steps from Fs (by omega)] at g3
  have e:bC wtF (p.take i)+bC wtB (f.blocks.take j)+1+bx b.terms+bC szS b.steps=bC wtF (p.take i)+bC wtB (f.blocks.take (j+1)):=by omega
  rw [e] at g3
  simp -implicitDefEqProofs only [RA,ae,zp,↓reduceIte,reduceCtorEq,zq,zr,zs,zt,xB,qW,g1,g3,g4,g5,g6,g7,gx,gy,ls,he,f2]
  exact ⟨f.blocks.length-(j+1),by omega,j+1,rfl,by omega,rfl,rfl,by omega⟩
 have hr3:=Fo (show k<b.steps.length by omega)
 generalize b.steps[k]=s at hr3
 have iz:=fv hr3
 have hms:=fH (f:=szS) (Fp hr3)
 have ht3:=jv (f:=szS) hr3
 have hle3:=mE szS b.steps (k+1)
 have hsz:szS s=bx s.terms+1:=rfl
 rw [gq] at iz
 have f6:IntKind.i64.wrap (((bC wtF (p.take i)+bC wtB (f.blocks.take j)+1+bx b.terms+bC szS (b.steps.take k):Nat):Int)+1)=((bC wtF (p.take i)+bC wtB (f.blocks.take j)+1+bx b.terms+bC szS (b.steps.take k)+1:Nat):Int):=by rw [w64 (by omega) (by omega)];omega
 have f7:IntKind.i64.wrap (((bC wtF (p.take i)+bC wtB (f.blocks.take j)+1+bx b.terms+bC szS (b.steps.take k)+1:Nat):Int)+(bx s.terms:Int))=((bC wtF (p.take i)+bC wtB (f.blocks.take j)+1+bx b.terms+bC szS (b.steps.take (k+1)):Nat):Int):=by rw [w64 (by omega) (by omega)];omega
 simp -implicitDefEqProofs only [RA,ae,zp,↓reduceIte,reduceCtorEq,zq,zr,zs,zt,xB,qW,g1,g3,g4,g5,g6,g7,gx,gy,ls,he,iz,f6]
 refine (w43 s.terms (by omega)).use fun n2 hn2=>?_
 simp -implicitDefEqProofs only [RA,ae,zp,↓reduceIte,reduceCtorEq,zq,zr,zs,zt,g1,g4,g5,g6,g7,gx,gy,f5,f7]
 exact ⟨b.steps.length-(k+1),by omega,k+1,rfl,by omega,rfl,rfl,by omega⟩
theorem w19 (f:Fn) (h1:f.params.length≤4000000) (h2:f.locals.length≤4000000):Pure Tryz.prog 19 [.agg (fnE f)] (bp (f.params++f.locals)):=by
 refine Pure.own (e:=57) (dR _) fun nx=>AC.go aI is19 (by simp) ?_
 have lv:=bW f.params
 have lw:=bW f.locals
 rw [bN]
 simp -implicitDefEqProofs only [RA,ae,zp,↓reduceIte,reduceCtorEq,zq,zr,zs,zt,A19,E4,↓au,↓ar,↓ay,↓aw]
 generalize hC:([.str f.name,bp f.params,.int .i64 f.result,bp f.locals,cp f.blocks]:List AV)=C
 refine aJ (fun q st=>∃ (i:Nat) (v:AV),q=f.params.length-i∧i≤f.params.length∧ah st.env 1=some (.op nx 0)∧ah st.env 3=some v∧ah st.env 4=some (.int .i64 i)∧aq st.heap nx=some (.cells C)∧aR 57 2 st.heap st.nx v ((f.params.take i).map pmE)∧(∀ b,aP v=some b→nx<b)∧nx<st.nx∧st.dm=[]) (n:=f.params.length) aI
  ⟨0,.nilS,rfl,by omega,by simp [ah],by simp [ah],by simp [ah],by simp [af],.inl ⟨rfl,by simp⟩,by simp [aP],by simp,rfl⟩ ?_
 rintro q ⟨env,heap,nx',dm⟩ ⟨i,v,rfl,hi,g1,g3,g4,gx,ov,bv,hlt,hdm⟩
 simp only at g1 g3 g4 gx ov bv hlt hdm
 subst hdm
 have f1:=wS (i:=i) (by omega)
 by_cases hc:(i:Int)<(f.params.length:Int)
 case pos =>
  have hr:=Fo (show i<f.params.length by omega)
  generalize f.params[i]=r at hr
  have ix:=dG hr
  have rl:=pD r
  have rt:=mJ r
  obtain ⟨v2,hp,n9,ea,ow,hn9,k9,b9⟩:=ov.grw (bytes:=24) (ns:=[pmE r]) (dR _) (by simp [pmE]) (by simp only [Fw,Fx,Fu,Fv];omega) (by simp only [Fw,Fx,Fu,Fv,maxLen];omega)
  subst hC
  simp -implicitDefEqProofs only [RA,ae,zp,↓reduceIte,reduceCtorEq,zq,zr,zs,zt,xE,qZ,g1,g3,g4,gx,lv,hc,ix,rl,rt,ea,f1]
  refine ⟨f.params.length-(i+1),by omega,i+1,v2,rfl,by omega,rfl,rfl,k9 _ _ hlt gx fun e=>by have:=bv nx e;omega,?_,fun b hb=>?_,by omega⟩
  ·rw [aQ hr,FC];exact ow
  ·rcases b9 b hb with h|h
   ·omega
   ·exact bv b h
 subst hC
 rw [Fs (by omega)] at ov
 simp -implicitDefEqProofs only [RA,ae,zp,↓reduceIte,reduceCtorEq,zq,zr,zs,zt,xE,qZ,g1,g3,g4,gx,lv,hc]
 generalize hC:([.str f.name,bp f.params,.int .i64 f.result,bp f.locals,cp f.blocks]:List AV)=C at gx
 refine aJ (fun q st=>∃ (i:Nat) (v:AV),q=f.locals.length-i∧i≤f.locals.length∧ah st.env 1=some (.op nx 0)∧ah st.env 3=some v∧ah st.env 5=some (.int .i64 i)∧aq st.heap nx=some (.cells C)∧aR 57 2 st.heap st.nx v ((f.params++f.locals.take i).map pmE)∧(∀ b,aP v=some b→nx<b)∧nx<st.nx∧st.dm=[]) (n:=f.locals.length) aI
  ⟨0,v,rfl,by omega,by simp [ah,g1],by simp [ah,g3],by simp [ah],gx,by simpa using ov,bv,hlt,rfl⟩ ?_
 clear g1 g3 g4 gx ov bv hlt hi hc f1
 rintro q ⟨env,heap,nx',dm⟩ ⟨i,v,rfl,hi,g1,g3,g5,gx,ov,bv,hlt,hdm⟩
 simp only at g1 g3 g5 gx ov bv hlt hdm
 subst hdm;subst hC
 have f1:=wS (i:=i) (by omega)
 by_cases hc:(i:Int)<(f.locals.length:Int)
 case neg =>
  rw [Fs (by omega)] at ov
  simp -implicitDefEqProofs only [RA,ae,zp,↓reduceIte,reduceCtorEq,zq,zr,zs,zt,xD,qY,g1,g3,g5,gx,lw,hc,R19]
  exact ⟨v,rfl,ov⟩
 have hr:=Fo (show i<f.locals.length by omega)
 generalize f.locals[i]=r at hr
 have ix:=dG hr
 have rl:=pD r
 have rt:=mJ r
 obtain ⟨v2,hp,n9,ea,ow,hn9,k9,b9⟩:=ov.grw (bytes:=24) (ns:=[pmE r]) (dR _) (by simp [pmE]) (by simp only [Fw,FB,Fx,Fu,Fv];omega) (by simp only [Fw,FB,Fx,Fu,Fv,maxLen];omega)
 simp -implicitDefEqProofs only [RA,ae,zp,↓reduceIte,reduceCtorEq,zq,zr,zs,zt,xD,qY,g1,g3,g5,gx,lw,hc,ix,rl,rt,ea,f1]
 refine ⟨f.locals.length-(i+1),by omega,i+1,v2,rfl,by omega,rfl,rfl,k9 _ _ hlt gx fun e=>by have:=bv nx e;omega,?_,fun b hb=>?_,by omega⟩
 ·rw [aQ hr,← List.append_assoc,FC];exact ow
 ·rcases b9 b hb with h|h
  ·omega
  ·exact bv b h
def grV (v:Pm):Bool:=decide ((v.1.length:Int) > 200)
def grF (f:Fn):Bool:=decide ((f.params.length:Int) > 50)||(decide ((f.locals.length:Int) > 50)||(decide ((f.blocks.length:Int) > 70)||(decide ((f.name.length:Int) > 200)||((f.params++f.locals).any grV||f.blocks.any grB))))
def grI (p:Pi):Bool:=decide ((p.length:Int) > 18)||(p.any grF||decide ((wtI p:Int) > 4000))
theorem w5 (p:Pi) (h:szI p≤4000000):Pure Tryz.prog 5 [.agg (piE p)] (.bool (grI p)):=by
 refine Pure.of fun nx=>AC.go aI is5 (by simp) ?_
 have hl:=fI (f:=szF) (fun f=>by simp only [szF];omega) p
 have lv:=cX p
 have c21:=w21 p h
 unfold szI at h
 unfold grI
 rcases ai ((p.length:Int) > 18) with ⟨c1,d1⟩|⟨c1,d1⟩
 ·simp -implicitDefEqProofs only [RA,ae,zp,↓reduceIte,reduceCtorEq,zq,zr,zs,zt,A5,A5p,piE,↓aA,↓az,lv,d1,R5,Gl]
 simp -implicitDefEqProofs only [RA,ae,zp,↓reduceIte,reduceCtorEq,zq,zr,zs,zt,A5,A5p,piE,↓aA,↓az,lv,d1,Gm]
 refine aJ (fun q st=>∃ i:Nat,q=p.length-i∧i≤p.length∧(p.drop i).any grF=p.any grF∧ah st.env 1=some (.op nx 0)∧ah st.env 3=some (.int .i64 i)∧aq st.heap nx=some (.cells [bM p])∧nx<st.nx∧st.dm=[]) (n:=p.length) aI
  ⟨0,rfl,by omega,by simp,by simp [ah],by simp [ah],by simp [aq],by simp,rfl⟩ ?_
 rintro q ⟨env,heap,nx',dm⟩ ⟨i,rfl,hi,hf,g1,g3,gx,hlt,hdm⟩
 simp only at g1 g3 gx hlt hdm
 subst hdm
 have f1:=wS (i:=i) (by omega)
 by_cases hc:(i:Int)<(p.length:Int)
 case neg =>
  rw [Ft (by omega),List.any_nil] at hf
  rw [← hf]
  rw [piE] at c21
  simp -implicitDefEqProofs only [RA,ae,zp,↓reduceIte,reduceCtorEq,zq,zr,zs,zt,qB,lh,g1,g3,gx,lv,hc,↓aA,↓az]
  refine c21.use fun n1 hn1=>?_
  simp -implicitDefEqProofs only [RA,ae,zp,↓reduceIte,reduceCtorEq,zq,zr,zs,zt,R5,Gm]
 have hr:=Fo (show i<p.length by omega)
 generalize p[i]=f at hr
 have ix:=cL hr
 have hmf:=fH (f:=szF) (Fp hr)
 have hsf:szF f=f.params.length+f.locals.length+bC szB f.blocks+1:=rfl
 rw [fO hr] at hf
 have c19:=w19 f (by omega) (by omega)
 rw [bN] at ix c19
 have lb:=dv f.blocks
 have lp:=bW f.params
 have lq:=bW f.locals
 have hlb:=fI (f:=szB) (fun f=>by simp only [szB];omega) f.blocks
 have a1:(nx'=nx)=False:=eq_false (by omega)
 have bad:grF f=true→p.any grF=true:=fun e=>by rw [← hf,e,Gl]
 rcases ai ((f.params.length:Int) > 50) with ⟨c2,d2⟩|⟨c2,d2⟩
 ·rw [bad (by rw [grF,decide_eq_true c2,Gl])]
  simp -implicitDefEqProofs only [RA,ae,zp,↓reduceIte,reduceCtorEq,zq,zr,zs,zt,qB,lh,g1,g3,gx,lv,hc,ix,↓au,↓ar,↓ay,↓aw,lb,lp,lq,a1,d2,R5,Gl]
 rcases ai ((f.locals.length:Int) > 50) with ⟨c3,d3⟩|⟨c3,d3⟩
 ·rw [bad (by rw [grF,decide_eq_true c3,Gl,Gn])]
  simp -implicitDefEqProofs only [RA,ae,zp,↓reduceIte,reduceCtorEq,zq,zr,zs,zt,qB,lh,g1,g3,gx,lv,hc,ix,↓au,↓ar,↓ay,↓aw,lb,lp,lq,a1,d2,d3,R5,Gl]
 rcases ai ((f.blocks.length:Int) > 70) with ⟨c4,d4⟩|⟨c4,d4⟩
 ·rw [bad (by rw [grF,decide_eq_true c4,Gl,Gn,Gn])]
  simp -implicitDefEqProofs only [RA,ae,zp,↓reduceIte,reduceCtorEq,zq,zr,zs,zt,qB,lh,g1,g3,gx,lv,hc,ix,↓au,↓ar,↓ay,↓aw,lb,lp,lq,a1,d2,d3,d4,R5,Gl]
 rcases ai ((f.name.length:Int) > 200) with ⟨c5,d5⟩|⟨c5,d5⟩
 ·rw [bad (by rw [grF,decide_eq_true c5,Gl,Gn,Gn,Gn])]
  simp -implicitDefEqProofs only [RA,ae,zp,↓reduceIte,reduceCtorEq,zq,zr,zs,zt,qB,lh,g1,g3,gx,lv,hc,ix,↓au,↓ar,↓ay,↓aw,lb,lp,lq,a1,d2,d3,d4,d5,R5,Gl]
 have hF:grF f=((f.params++f.locals).any grV||f.blocks.any grB):=by rw [grF,decide_eq_false c2,decide_eq_false c3,decide_eq_false c4,decide_eq_false c5];rfl
 simp -implicitDefEqProofs only [RA,ae,zp,↓reduceIte,reduceCtorEq,zq,zr,zs,zt,qB,lh,g1,g3,gx,lv,hc,ix,↓au,↓ar,↓ay,↓aw,lb,lp,lq,a1,d2,d3,d4,d5]
 refine c19.use fun n2 hn2=>?_
 have lx:=bW (f.params++f.locals)
 generalize hX:f.params++f.locals=X at lx hF
 have hXl:X.length≤2000:=by rw [← hX,FB];omega
 simp -implicitDefEqProofs only [RA,ae,zp,↓reduceIte,reduceCtorEq,zq,zr,zs,zt,g1,g3,gx,a1]
 generalize hC:([.str f.name,bp f.params,.int .i64 f.result,bp f.locals,cp f.blocks]:List AV)=C
 refine aJ (fun q st=>∃ j:Nat,q=X.length-j∧j≤X.length∧(X.drop j).any grV=X.any grV∧ah st.env 1=some (.op nx 0)∧ah st.env 3=some (.int .i64 i)∧ah st.env 4=some (.op nx' 0)∧ah st.env 5=some (bp X)∧ah st.env 6=some (.int .i64 j)∧aq st.heap nx=some (.cells [bM p])∧aq st.heap nx'=some (.cells C)∧nx'<st.nx∧st.dm=[]) (n:=X.length) aI
  ⟨0,rfl,by omega,by simp,by simp [ah,g1],by simp [ah,g3],by simp [ah],by simp [ah],by simp [ah],by simp [af,a1,gx],by simp [af],by simp only;omega,rfl⟩ ?_
 clear g1 g3 gx
 rintro q ⟨env,heap,nx2,dm⟩ ⟨j,rfl,hj,hf2,g1,g3,g4,g5,g6,gx,gy,hlt2,hdm⟩
 simp only at g1 g3 g4 g5 g6 gx gy hlt2 hdm
 subst hdm
 have f2:=wS (i:=j) (by omega)
 by_cases hd:(j:Int)<(X.length:Int)
 case pos =>
  have hr2:=Fo (show j<X.length by omega)
  generalize X[j]=v at hr2
  have iy:=dG hr2
  have re:=jA v
  rw [fO hr2] at hf2
  rcases ai ((v.1.length:Int) > 200) with ⟨c6,d6⟩|⟨c6,d6⟩
  ·have hv:grV v=true:=decide_eq_true c6
   rw [hv,Gl] at hf2
   rw [bad (by rw [hF,← hf2,Gl])]
   simp -implicitDefEqProofs only [RA,ae,zp,↓reduceIte,reduceCtorEq,zq,zr,zs,zt,zO,sr,g1,g3,g4,g5,g6,gx,gy,lx,hd,iy,re,d6,R5,Gl]
  ·have hv:grV v=false:=decide_eq_false c6
   rw [hv,Gm] at hf2
   simp -implicitDefEqProofs only [RA,ae,zp,↓reduceIte,reduceCtorEq,zq,zr,zs,zt,zO,sr,g1,g3,g4,g5,g6,gx,gy,lx,hd,iy,re,d6,f2]
   exact ⟨X.length-(j+1),by omega,j+1,rfl,by omega,hf2,rfl,hlt2⟩
 rw [Ft (by omega),List.any_nil] at hf2
 rw [← hf2,Gm] at hF
 simp -implicitDefEqProofs only [RA,ae,zp,↓reduceIte,reduceCtorEq,zq,zr,zs,zt,zO,sr,g5,g6,lx,hd]
 refine aJ (fun q st=>∃ j:Nat,q=f.blocks.length-j∧j≤f.blocks.length∧(f.blocks.drop j).any grB=f.blocks.any grB∧ah st.env 1=some (.op nx 0)∧ah st.env 3=some (.int .i64 i)∧ah st.env 4=some (.op nx' 0)∧ah st.env 7=some (.int .i64 j)∧aq st.heap nx=some (.cells [bM p])∧aq st.heap nx'=some (.cells C)∧nx'<st.nx∧st.dm=[]) (n:=f.blocks.length) aI
  ⟨0,rfl,by omega,by simp,by simp [ah,g1],by simp [ah,g3],by simp [ah,g4],by simp [ah],gx,gy,hlt2,rfl⟩ ?_
 clear g1 g3 g4 g5 g6 gx gy hlt2 hd hj f2 hf2
 rintro q ⟨env,heap,nx2,dm⟩ ⟨j,rfl,hj,hf2,g1,g3,g4,g7,gx,gy,hlt2,hdm⟩
 simp only at g1 g3 g4 g7 gx gy hlt2 hdm
 subst hdm;subst hC
 have f2:=wS (i:=j) (by omega)
 by_cases hd:(j:Int)<(f.blocks.length:Int)
 case neg =>
  rw [Ft (by omega),List.any_nil] at hf2
  rw [hF,← hf2,Gm] at hf
  simp -implicitDefEqProofs only [RA,ae,zp,↓reduceIte,reduceCtorEq,zq,zr,zs,zt,Ct,xa,g1,g3,g4,g7,gx,gy,lb,hd,f1]
  exact ⟨p.length-(i+1),by omega,i+1,rfl,by omega,hf,rfl,by omega⟩
 have hr2:=Fo (show j<f.blocks.length by omega)
 generalize f.blocks[j]=b at hr2
 have iy:=dH hr2
 have hmb:=fH (f:=szB) (Fp hr2)
 have rl:=iL b
 have rt:=jp b
 rw [fO hr2] at hf2
 simp -implicitDefEqProofs only [RA,ae,zp,↓reduceIte,reduceCtorEq,zq,zr,zs,zt,Ct,xa,g1,g3,g4,g7,gx,gy,lb,hd,iy,rl,rt]
 refine (w20 b (by omega)).use fun n3 hn3=>?_
 cases hq:grB b with
 | true =>
  rw [hq,Gl] at hf2
  rw [bad (by rw [hF,← hf2])]
  simp -implicitDefEqProofs only [RA,ae,zp,↓reduceIte,reduceCtorEq,zq,zr,zs,zt,R5,Gl]
 | false =>
  rw [hq,Gm] at hf2
  simp -implicitDefEqProofs only [RA,ae,zp,↓reduceIte,reduceCtorEq,zq,zr,zs,zt,g1,g3,g4,g7,gx,gy,f2]
  exact ⟨f.blocks.length-(j+1),by omega,j+1,rfl,by omega,hf2,rfl,by omega⟩
mutual
def ndT:Tm→List Tm
 | .mk k w b n l s=>.mk k w b n l s::bD s
def bD:List Tm→List Tm
 | []=>[]
 | x::r=>ndT x++bD r
end
theorem dU (x:Tm):ndT x=x::bD x.sub:=by cases x;simp [ndT,Tm.sub]
theorem db:∀ (a b:List Tm),bD (a++b)=bD a++bD b
 | [],b=>by simp [bD]
 | x::a,b=>by simp [bD,db a b]
theorem mT:∀ (N:Nat) (x:Tm),szT x≤N→(ndT x).length=szT x:=by
 intro N
 induction N with
 | zero=>intro x h;have:=bR x;omega
 | succ N ih =>
  intro x h
  have h1:=bR x
  have key:∀ l:List Tm,bx l≤N→(bD l).length=bx l:=by
   intro l
   induction l with
   | nil=>intro _;simp [bD,bx]
   | cons a r ihr =>
    intro hl
    simp only [bx] at hl
    have e1:=ih a (by omega)
    have e2:=ihr (by omega)
    simp only [bD,bx,FB,e1,e2]
  rw [dU,Fu,key x.sub (by omega),h1]
def VP (F:Nat→Prop) (I:List Tm→Heap→Nat→Prop) (J:Heap→Nat→Prop) (h:Heap) (nx:Nat) (pre:List Tm) (y:AE) (h':Heap) (n':Nat):Prop :=
 nx≤n'∧(∀ k o,k<nx→¬ F k→aq h k=some o→aq h' k=some o)∧((y=.ret (.bool true)∧I pre h' n')∨(y=.ret (.bool false)∧J h' n'))
theorem w105 {b:Nat} (F:Nat→Prop) (n0:Nat) (hF:∀ k,F k→k<n0) (I:List Tm→Heap→Nat→Prop) (J:Heap→Nat→Prop) (Pt:Tm→Prop) (hP:∀ x,Pt x→∀ y∈x.sub,Pt y)
  (hI:∀ pre h nx h' n',I pre h nx→n0≤nx→nx≤n'→(∀ k o,k<nx→aq h k=some o→aq h' k=some o)→I pre h' n')
  (hy:∀ pre x h nx,n0≤nx→Pt x→I pre h nx→AY Tryz.prog b [.agg (tmE x)] h nx (VP F I J h nx (pre++[x]))) :
  ∀ (N:Nat) (t:Tm),szT t≤N→N≤4000000→Pt t→∀ pre h nx,n0≤nx→I pre h nx→AC Tryz.prog 105 [.agg (tmE t),.yl b] h nx (VP F I J h nx (pre++ndT t)):=by
 intro N
 induction N with
 | zero=>intro x h;have:=bR x;omega
 | succ N ih =>
  intro t hN hN2 ht pre h nx hn0 hi
  have hsub:=hP t ht
  obtain ⟨k,w,bi,n,lo,s⟩:=t
  simp only [Tm.sub] at hsub
  refine AC.go aI Dj (by simp) ?_
  simp only [szT] at hN
  have hl:=bJ s
  have lv:=bw s
  have tx:=aY (.mk k w bi n lo s)
  have tk:=aU (.mk k w bi n lo s)
  have e0:=gI k w bi n lo s
  rw [e0] at tx tk ⊢
  have kb:∀ q o,q<nx→aq h q=some o→aq ((nx,AO.cells [.int .u8 k,.int .i64 w,.int .u64 bi,.str n,.int .i64 lo,bg s])::h) q=some o:=fun q o hq ho=>by rw [af,if_neg (by omega)];exact ho
  have i1:=hI pre _ _ _ _ hi hn0 (Nat.le_succ nx) kb
  have hbox:¬ F nx:=fun hf=>by have:=hF nx hf;omega
  simp -implicitDefEqProofs only [RA,ae,zp,↓reduceIte,reduceCtorEq,zq,zr,zs,zt,Fh,Aw,↓ak,↓aj]
  have hyr:=hy pre (.mk k w bi n lo s) _ (nx+1) (by omega) ht i1
  rw [e0] at hyr
  refine hyr.mono ?_
  rintro y h1 n1 ⟨hn1,hk1,hd⟩
  have gb:=hk1 nx _ (by omega) hbox (by rw [af,if_pos rfl])
  have keep1:∀ q o,q<nx→¬ F q→aq h q=some o→aq h1 q=some o:=fun q o hq hf ho=>hk1 q o (by omega) hf (kb q o hq ho)
  rcases hd with ⟨rfl,hi1⟩|⟨rfl,hj⟩
  case inr =>
   simp -implicitDefEqProofs only [RA,ae,zp,↓reduceIte,reduceCtorEq,zq,zr,zs,zt,unA,zv]
   exact ⟨by omega,keep1,.inr ⟨rfl,hj⟩⟩
  simp -implicitDefEqProofs only [RA,ae,zp,↓reduceIte,reduceCtorEq,zq,zr,zs,zt,unA,gb,lv]
  refine aJ (fun q st=>∃ i:Nat,q=s.length-i∧i≤s.length∧ah st.env 1=some (.yl b)∧ah st.env 12=some (bg s)∧ah st.env 13=some (.int .i64 s.length)∧ah st.env 14=some (.int .i64 i)∧n1≤st.nx∧(∀ q o,q<nx→¬ F q→aq h q=some o→aq st.heap q=some o)∧I (pre++[.mk k w bi n lo s]++bD (s.take i)) st.heap st.nx∧st.dm=[]) (n:=s.length) aI
   ⟨0,rfl,by omega,by simp [ah],by simp [ah],by simp [ah],by simp [ah],Gp _,keep1,by simpa [bD] using hi1,rfl⟩ ?_
  rintro q ⟨env,heap,nx',dm⟩ ⟨i,rfl,hii,g1,g12,g13,g14,hlt,hk,hii2,hdm⟩
  simp only at g1 g12 g13 g14 hlt hk hii2 hdm
  subst hdm
  have f1:=wS (i:=i) (by omega)
  by_cases hc:(i:Int)<(s.length:Int)
  case neg =>
   rw [show s.take i=s from Fs (by omega)] at hii2
   simp -implicitDefEqProofs only [RA,ae,zp,↓reduceIte,reduceCtorEq,zq,zr,zs,zt,ra,nG,g1,g12,g13,g14,hc,zv]
   refine ⟨by omega,hk,.inl ⟨rfl,?_⟩⟩
   rw [ndT]
   simpa using hii2
  have hr:=Fo (show i<s.length by omega)
  generalize s[i]=r at hr
  have hmem:=Fp hr
  have hm:=bZ hmem
  have ix:=bh hr
  have e1:=aZ r
  have ek:∀ (X Y:AO) q o,q<nx'→aq heap q=some o→aq ((nx',X)::(nx',Y)::heap) q=some o:=fun X Y q o hq ho=>by rw [af,if_neg (by omega),af,if_neg (by omega)];exact ho
  have i2:=fun X Y=>hI _ _ _ ((nx',X)::(nx',Y)::heap) (nx'+1) hii2 (by omega) (by omega) (ek X Y)
  have ihr:=fun X Y=>ih r (by omega) (by omega) (hsub r hmem) _ ((nx',X)::(nx',Y)::heap) (nx'+1) (by omega) (i2 X Y)
  rw [e1] at ix ihr
  simp -implicitDefEqProofs only [RA,ae,zp,↓reduceIte,reduceCtorEq,zq,zr,zs,zt,ra,nG,g1,g12,g13,g14,hc,ix,↓ak,↓aj]
  refine (ihr _ _).mono ?_
  rintro y h2 n2 ⟨hn2,hk2,hd2⟩
  have keep2:∀ q o,q<nx→¬ F q→aq h q=some o→aq h2 q=some o:=fun q o hq hf ho=>hk2 q o (by omega) hf (ek _ _ q o (by omega) (hk q o hq hf ho))
  rcases hd2 with ⟨rfl,hi3⟩|⟨rfl,hj⟩
  case inr =>
   simp -implicitDefEqProofs only [RA,ae,zp,↓reduceIte,reduceCtorEq,zq,zr,zs,zt,unA,zv]
   exact ⟨by omega,keep2,.inr ⟨rfl,hj⟩⟩
  simp -implicitDefEqProofs only [RA,ae,zp,↓reduceIte,reduceCtorEq,zq,zr,zs,zt,g1,g12,g13,g14,unA,f1]
  refine ⟨s.length-(i+1),by omega,i+1,rfl,by omega,rfl,by omega,keep2,?_⟩
  rw [aQ hr,db]
  simpa [bD] using hi3
theorem w96 (x:Tm) (h:Heap) (nx:Nat):AC Tryz.prog 96 [.agg (tmE x)] h nx fun y h' n'=>y=.ret (.fn (.func 104) [.op nx 0])∧h'=(nx,.cells (tmE x))::h∧n'=nx+1:=by
 refine AC.go aI is96 (by simp) ?_
 rw [aZ]
 simp -implicitDefEqProofs only [RA,ae,zp,↓reduceIte,reduceCtorEq,zq,zr,zs,zt,A96,Ef,bY,↓ak,↓aj,R96]
def nk (gf:Nat):Prop:=∀ {b:Nat} (F:Nat→Prop) (n0:Nat) (hF:∀ k,F k→k<n0) (I:List Tm→Heap→Nat→Prop) (J:Heap→Nat→Prop) (Pt:Tm→Prop) (hP:∀ x,Pt x→∀ y∈x.sub,Pt y)
  (hI:∀ pre h nx h' n',I pre h nx→n0≤nx→nx≤n'→(∀ k o,k<nx→aq h k=some o→aq h' k=some o)→I pre h' n')
  (hy:∀ pre x h nx,n0≤nx→Pt x→I pre h nx→AY Tryz.prog b [.agg (tmE x)] h nx (VP F I J h nx (pre++[x])))
  (t:Tm) (hz:szT t≤4000000) (ht:Pt t) (c:Nat) (h:Heap) (nx:Nat) (hn0:n0≤nx) (hi:I [] h nx) (gc:aq h c=some (.cells (tmE t))) (hcn:c<nx),
  AC Tryz.prog gf [.yl b,.op c 0] h nx fun y h' n'=>y=.ret (.tup [])∧nx≤n'∧(∀ k o,k<nx→¬ F k→aq h k=some o→aq h' k=some o)∧(I (ndT t) h' n'∨J h' n')
theorem AH:nk 104:=by
 intro b F n0 hF I J Pt hP hI hy t hz ht c h nx hn0 hi gc hcn
 refine AC.go aI Dk (by simp) ?_
 have hv:=w105 F n0 hF I J Pt hP hI hy _ t (Gp _) hz ht [] h nx hn0 hi
 rw [aZ] at gc hv
 simp -implicitDefEqProofs only [RA,ae,zp,↓reduceIte,reduceCtorEq,zq,zr,zs,zt,Fi,Ax,gc]
 refine hv.mono ?_
 rintro y h' n' ⟨h1,h2,h3⟩
 rcases h3 with ⟨rfl,h3⟩|⟨rfl,h3⟩
 ·simp -implicitDefEqProofs only [RA,ae,zp,↓reduceIte,reduceCtorEq,zq,zr,zs,zt,B6]
  exact ⟨h1,h2,.inl h3⟩
 ·simp -implicitDefEqProofs only [RA,ae,zp,↓reduceIte,reduceCtorEq,zq,zr,zs,zt,B6]
  exact ⟨h1,h2,.inr h3⟩
theorem ev {H:Heap} {b k:Nat} {o:AO} (h:k≠b):aq (bz H b o) k=aq H k:=by rw [bL,if_neg (fun e=>h e.symm)]
theorem bT {H:Heap} {b k:Nat} (h:k≠b):aq (cC H b) k=aq H k:=by rw [cj,if_neg (fun e=>h e.symm)]
theorem dF (rs:List RV) (Q:AE→Heap→Nat→Prop) (env:Env) (h:Heap) (n b:Nat):Ab.Fin rs Q .ret ⟨env,h,n,[b]⟩=(aq h b=some .dfd∧∃ ys,ey env (cC h b) rs=some ys∧Q (.ret (iA ys)) (cC h b) n):=by simp [Ab.Fin,lA,fm]
theorem io {own:Nat→Nat→Bool} {N:Nat} {st:ASt} {Q:AX→ASt→Prop} {g:Operand} {p:Tmp} {aa ab:aF} {gf c:Nat} {t:Tm} (hgf:nk gf) (Pt:Tm→Prop) (F:Nat→Prop) (I:List Tm→Heap→Nat→Prop) (J:Option Nat→Heap→Nat→Prop)
  (B:Tm→Heap→Nat→Env→Heap→Nat→Prop)
  (hg:oev st.env g=some (.fn (.func gf) [.op c 0])) (gc:aq st.heap c=some (.cells (tmE t))) (hcn:c<st.nx) (hpN:p<N)
  (hz:szT t≤4000000) (hP:∀ x,Pt x→∀ y∈x.sub,Pt y) (ht:Pt t) (hF:∀ k,F k→k<st.nx)
  (hI:∀ pre h nx h' n',I pre h nx→st.nx+2≤nx→nx≤n'→(∀ k o,k<nx→k≠st.nx+1→aq h k=some o→aq h' k=some o)→I pre h' n')
  (hJ:∀ j h nx h',J j h nx→(∀ k o,k<nx→k≠st.nx+1→aq h k=some o→aq h' k=some o)→J j h' nx)
  (h0:I [] st.heap st.nx)
  (h00:∀ h' n',I [] st.heap st.nx→st.nx≤n'→(∀ k o,k<st.nx→aq st.heap k=some o→aq h' k=some o)→I [] h' n')
  (hA:∀ x h nx l,st.nx+2≤nx→AW Tryz.prog own (some l) N aa (fun y s=>y=.normal∧s.dm=[]∧nx≤s.nx∧(∀ k o,k<nx→aq h k=some o→aq s.heap k=some o)∧B x h nx s.env s.heap s.nx) { env:=(p,.agg (tmE x))::st.env,heap:=h,nx:=nx })
  (hBd:∀ pre x h0 nx0 env h nx l,Pt x→st.nx+2≤nx0→nx0≤nx→I pre h nx→(∃ h1,B x h0 nx0 env h1 nx∧(∀ k o,k<nx→k≠st.nx+1→aq h1 k=some o→aq h k=some o)) →
   AW Tryz.prog own (some l) N ab (fun y s=>s.dm=[]∧nx≤s.nx∧(∀ k o,k<nx→¬ F k→aq h k=some o→aq s.heap k=some o) ∧
    ((y=.normal∧I (pre++[x]) s.heap s.nx)∨(y=.ret∧J none s.heap s.nx)∨∃ k,y=.exit k∧J (some k) s.heap s.nx)) { env:=env,heap:=h,nx:=nx })
  (hQ:∀ h' n',st.nx+2≤n'→(∀ k o,k<st.nx→¬ F k→aq st.heap k=some o→aq h' k=some o)→aq h' st.nx=some .dfd→(I (ndT t) h' n'→Q .normal { st with heap:=h',nx:=n',dm:=st.nx::st.dm })∧∀ j,J j h' n'→Q (pL j) { st with heap:=h',nx:=n',dm:=st.nx::st.dm }) :
  AW Tryz.prog own none N (.rangeF g #[p] aa ab) Q st:=by
 refine mq (gf:=gf) (caps:=[.op c 0]) hg fun fn cs bd has hbd=>?_
 obtain ⟨b,hb⟩:∃ b,b=st.nx+1:=⟨_,rfl⟩
 have hnb:∀ k,k<st.nx→k≠b:=fun k hk=>by omega
 obtain ⟨L,hL⟩:∃ L,L=AO.loop false fn N st.env #[p] cs bd st.nx:=⟨_,rfl⟩
 rw [← hb] at hI hJ hBd ⊢
 rw [← hL]
 refine (hgf (b:=b) (fun k=>F k∨k=b) (st.nx+2) (fun k hk=>by rcases hk with hk|hk;have:=hF k hk;omega;omega)
  (fun pre h n=>aq h b=some L∧I pre h n) (fun h n=>∃ j,aq h b=some (.left j)∧J j h n) Pt hP ?_ ?_ t hz ht c _ _ (Gp _) ?_ ?_ (by omega)).mono ?_
 ·rintro pre h nx h' n' ⟨i1,i2⟩ hn hn' hk
  exact ⟨hk _ _ (by omega) i1,hI _ _ _ _ _ i2 hn hn' fun k o h1 _ h2=>hk k o h1 h2⟩
 ·rintro pre x h nx hn hx ⟨i1,i2⟩
  refine pc has hbd (by rw [← hL];exact i1) rfl (by simpa using hpN) fun l=>?_
  refine AW.mono (hA x h nx l hn) ?_
  rintro y ⟨e1,h1,n1,d1⟩ ⟨rfl,hd1,hn1,hk1,hB⟩
  simp only at hd1 hn1 hk1 hB
  subst hd1
  refine ⟨rfl,rfl,by rw [← hL];exact hk1 _ _ (by omega) i1,?_⟩
  have hi2:I pre (bz h1 b (.loop true fn N st.env #[p] cs bd st.nx)) n1:=hI _ _ _ _ _ i2 hn hn1 fun k o h1 h2 h3=>by
   rw [ev h2];exact hk1 _ _ h1 h3
  have hgb:aq (bz h1 b (.loop true fn N st.env #[p] cs bd st.nx)) b=some (.loop true fn N st.env #[p] cs bd st.nx):=by rw [bL,if_pos rfl]
  refine AW.mono (hBd pre x h nx e1 _ n1 l hx hn hn1 hi2 ⟨h1,hB,fun k o h1 h2 h3=>by rw [ev h2];exact h3⟩) ?_
  rintro y2 ⟨e2,h2,n2,d2⟩ ⟨hd2,hn2,hk2,hd⟩
  simp only at hd2 hn2 hk2 hd
  subst hd2
  have hFb:¬ F b:=fun h=>by have:=hF _ h;omega
  have hb2:=hk2 b _ (by omega) hFb hgb
  have hkk:∀ X k o,k<nx→¬ (F k∨k=b)→aq h k=some o→aq (bz h2 b X) k=some o:=fun X k o h1 h3 h4=>by
   rw [ev (fun h=>h3 (.inr h))]
   refine hk2 _ _ (by omega) (fun h=>h3 (.inl h)) ?_
   rw [ev (fun h=>h3 (.inr h))]
   exact hk1 _ _ h1 h4
  have hI2:∀ q X,I q h2 n2→I q (bz h2 b X) n2:=fun q X h=>hI _ _ _ _ _ h (by omega) (Gp _) fun k o h1 h3 h4=>by
   rw [ev h3];exact h4
  have hJ2:∀ q X,J q h2 n2→J q (bz h2 b X) n2:=fun q X h=>hJ _ _ _ _ h fun k o h1 h3 h4=>by
   rw [ev h3];exact h4
  rcases hd with ⟨rfl,hi⟩|⟨rfl,hj⟩|⟨k,rfl,hj⟩
  ·refine ⟨by simp,rfl,hb2,Gr hn1 hn2,hkk _,.inl ⟨rfl,?_,hI2 _ _ hi⟩⟩
   rw [bL,if_pos rfl,hL];rfl
  ·refine ⟨by simp,rfl,hb2,Gr hn1 hn2,hkk _,.inr ⟨rfl,none,?_,hJ2 _ _ hj⟩⟩
   rw [bL,if_pos rfl];rfl
  ·refine ⟨by simp,rfl,hb2,Gr hn1 hn2,hkk _,.inr ⟨rfl,some k,?_,hJ2 _ _ hj⟩⟩
   rw [bL,if_pos rfl];rfl
 ·refine ⟨by rw [af,if_pos rfl],h00 _ _ h0 (by omega) fun k o h1 h2=>?_⟩
  rw [af,if_neg (by omega),af,if_neg (by omega)];exact h2
 ·rw [af,if_neg (by omega),af,if_neg (by omega)];exact gc
 ·rintro y h' n' ⟨rfl,hn,hk,hd⟩
  have hk2:∀ k o,k<st.nx→¬ F k→aq st.heap k=some o→aq (cC h' b) k=some o:=fun k o h1 h2 h3=>by
   rw [bT (hnb k h1)]
   refine hk k o (by omega) (fun h=>by rcases h with h|h;exact h2 h;exact hnb k h1 h) ?_
   rw [af,if_neg (by omega),af,if_neg (by omega)];exact h3
  have hdf:aq (cC h' b) st.nx=some .dfd:=by
   rw [bT (by omega)]
   refine hk _ _ (by omega) (fun h=>by rcases h with h|h;have:=hF _ h;omega;omega) ?_
   rw [af,if_neg (by omega),af,if_pos rfl]
  obtain ⟨q1,q2⟩:=hQ _ n' (by omega) hk2 hdf
  refine ⟨⟨_,rfl⟩,?_⟩
  rcases hd with ⟨i1,i2⟩|⟨j,i1,i2⟩
  ·exact .inl ⟨i1,q1 (hI _ _ _ _ _ i2 (by omega) (Gp _) fun k o h1 h2 h3=>by rw [bT h2];exact h3)⟩
  ·exact .inr ⟨j,i1,q2 j (hJ _ _ _ _ i2 fun k o h1 h2 h3=>by rw [bT h2];exact h3)⟩
theorem w94 (x:Tm) (hz:szT x≤4000000):Pure Tryz.prog 94 [.agg (tmE x)] (.int .i64 (szT x)):=by
 refine Pure.of fun nx=>AC.go aI is94 (by simp) ?_
 have e0:=aZ x
 have tl:=aY x
 have tk:=aU x
 have n1:(nx+1=nx)=False:=eq_false (by omega)
 rw [e0] at tl tk ⊢
 simp -implicitDefEqProofs only [RA,ae,zp,↓reduceIte,reduceCtorEq,zq,zr,zs,zt,A94,Eh,↓ak,↓aj,n1]
 have w:=w96 x ((nx+1,.cells [.int .i64 0])::(nx+1,.cells [.int .i64 0])::[(nx,.cells [.int .u8 x.kind,.int .i64 x.width,.int .u64 x.bits,.str x.name,.int .i64 x.low,bg x.sub])]) (nx+1+1)
 rw [e0] at w
 refine w.mono ?_
 rintro y h n ⟨rfl,rfl,rfl⟩
 simp -implicitDefEqProofs only [RA,ae,zp,↓reduceIte,reduceCtorEq,zq,zr,zs,zt,eQ]
 refine io (c:=nx+1+1) (t:=x) AH (fun _=>True) (fun k=>k=nx+1) (fun pre h n=>∃ m:Int,aq h (nx+1)=some (.cells [.int .i64 m])∧(pre.length≤4000000→m=pre.length)) (fun _ _ _=>False)
  (fun x h' n' env h'' n''=>ah env 3=some (.op (nx+1) 0)) (by simp [oev,ah,bY]) (by rw [af,if_pos rfl,e0]) (by simp only;omega) (by decide) hz (fun _ _ _ _=>trivial) trivial (fun k hk=>by simp only;omega)
  (fun pre h n h' n' hi hn hn' hk=>by
   obtain ⟨m,h1,h2⟩:=hi
   exact ⟨m,hk _ _ (by simp only at hn;omega) (by simp only;omega) h1,h2⟩)
  (fun _ _ _ _ h _=>h.elim) ⟨0,by simp [aq],fun _=>rfl⟩
  (fun h' n' hi hn hk=>by
   obtain ⟨m,h1,h2⟩:=hi
   exact ⟨m,hk _ _ (by simp only;omega) h1,h2⟩)
  ?_ ?_ ?_
 ·intro x h n l hn
  refine e7 aI ?_
  simp -implicitDefEqProofs only [RA,ae,zp,↓reduceIte,reduceCtorEq,zq,zr,zs,zt,Af,wA]
  exact fun _ _ _ h=>h
 ·rintro pre x h0 nx0 env h n l-hn0 hn ⟨m,h1,h2⟩ ⟨_,g3,_⟩
  refine e7 aI ?_
  simp only at hn0
  simp -implicitDefEqProofs only [RA,ae,zp,↓reduceIte,reduceCtorEq,zq,zr,zs,zt,Ae,wv,g3,h1]
  refine ⟨fun k o hk hF ho=>?_,.inl ⟨_,rfl,fun hl=>?_⟩⟩
  ·rw [if_neg (fun h=>hF h.symm)];exact ho
  ·simp only [FB,List.length_singleton] at hl ⊢
   rw [h2 (by omega),w64 (by omega) (by omega)];omega
 ·intro h' n' hn hk hdf
  refine ⟨?_,fun j hj=>hj.elim⟩
  rintro ⟨m,h1,h2⟩
  rw [mT _ x (Gp _)] at h2
  simp only at hdf
  simp -implicitDefEqProofs only [RA,ae,zp,↓reduceIte,reduceCtorEq,zq,zr,zs,zt,h1,h2 hz,hdf,R94,dF]
def shA (k:Int):Int:=if k<3 then 0 else if k<5 then 1 else if k<19 then 2 else if k=19 then 3 else if k=20 then 2 else 1
def shW (k:Int):Int:=if k<3 then 0 else if k<16 then 1 else if k<19 then 2 else if k=19 then 3 else if k=20 then 4 else if k=21 then 5 else if k<24 then 6 else 7
def GT:List AV:=(GL 0).getD []
theorem gl0:GL 0=some GT:=rfl
theorem Bv (k:Int) (h0:0≤k) (h1:k≤24):∃ (nm:Nm) (r:List AV),GT.drop (k.toNat*3)=.str nm::.int .i64 (shA k)::.int .i64 (shW k)::r:=by
 have:k=0∨k=1∨k=2∨k=3∨k=4∨k=5∨k=6∨k=7∨k=8∨k=9∨k=10∨k=11∨k=12∨k=13∨k=14∨k=15∨k=16∨k=17∨k=18∨k=19∨k=20∨k=21∨k=22∨k=23∨k=24:=by omega
 rcases this with h|h|h|h|h|h|h|h|h|h|h|h|h|h|h|h|h|h|h|h|h|h|h|h|h <;> subst h <;> exact ⟨_,_,rfl⟩
theorem w107 (k:Int) (h0:0≤k):∃ (nm:Nm) (a c:Int),Pure Tryz.prog 107 [.int .u8 k] (.tup [.agg [.str nm,.int .i64 a,.int .i64 c],.bool (decide (3≤k)&&decide (k≤24))])∧(3≤k→k≤24→a=shA k∧c=shW k):=by
 rcases ai ((24:Int)<k) with ⟨c1,d1⟩|⟨c1,d1⟩
 ·refine ⟨[],0,0,Pure.of fun nx=>AC.go aI zW (by simp) ?_,fun _ h=>by omega⟩
  have e2:decide (k≤24)=false:=decide_eq_false (by omega)
  simp -implicitDefEqProofs only [RA,ae,zp,↓reduceIte,reduceCtorEq,zq,zr,zs,zt,CA,xM,d1,e2,Bool.and_false,B4]
 ·obtain ⟨nm,r,hr⟩:=Bv k h0 (by omega)
  refine ⟨nm,shA k,shW k,Pure.of fun nx=>AC.go aI zW (by simp) ?_,fun _ _=>⟨rfl,rfl⟩⟩
  have e2:decide (k≤24)=true:=decide_eq_true (by omega)
  have z1:(0≤k)=True:=eq_true h0
  have z2:(k<((25:Nat):Int))=True:=eq_true (by omega)
  have e3:decide ((0:Int)<shA k)=decide (3≤k):=by
   unfold shA
   by_cases h:k<3
   ·rw [if_pos h,decide_eq_false (by omega),decide_eq_false (by omega)]
   ·rw [if_neg h,decide_eq_true (p:=3≤k) (by omega)]
    refine decide_eq_true ?_
    repeat' split
    all_goals omega
  have h255:(3≤r.length+3)=True:=eq_true (by omega)
  simp -implicitDefEqProofs only [RA,ae,zp,↓reduceIte,reduceCtorEq,zq,zr,zs,zt,CA,xM,d1,e2,e3,Bool.and_true,gl0,hr,z1,z2,B4]
theorem w118 (a:Tm) (b:Nat) (w:Int) (h:Heap) (nx:Nat) (hb:aq h b=some (.cells [.int .i64 w])) (hlt:b<nx):AC Tryz.prog 118 [.agg (tmE a),.op b 0] h nx fun y h' n'=>y=.ret (.bool (decide (a.width≠w)))∧nx≤n'∧∀ k o,k<nx→aq h k=some o→aq h' k=some o:=by
 refine AC.go aI C7 (by simp) ?_
 have n1:(nx=b)=False:=eq_false (by omega)
 rw [aZ]
 simp -implicitDefEqProofs only [RA,ae,zp,↓reduceIte,reduceCtorEq,zq,zr,zs,zt,E8,Ap,↓ak,↓aj,hb,n1,D6]
 refine ⟨by simp,by omega,fun k o hk ho=>?_⟩
 rw [if_neg (by omega)];exact ho
def kU (w:Int) (s:List Tm):Bool:=s.any fun a=>decide (a.width≠w)
theorem w122 (s:List Tm) (hs:s.length≤100000000) (b:Nat) (w:Int) (h:Heap) (nx:Nat) (hb:aq h b=some (.cells [.int .i64 w])) (hlt:b<nx) :
  AC Tryz.prog 122 [bg s,.fn (.func 118) [.op b 0]] h nx fun y h' n'=>∃ v:Int,y=.ret (.int .i64 v)∧decide (0≤v)=kU w s∧nx≤n'∧∀ k o,k<nx→aq h k=some o→aq h' k=some o:=by
 refine AC.go aI C3 (by simp) ?_
 have lv:=bw s
 simp -implicitDefEqProofs only [RA,ae,zp,↓reduceIte,reduceCtorEq,zq,zr,zs,zt,E5,Am,lv]
 refine aJ (fun q st=>∃ i:Nat,q=s.length-i∧i≤s.length∧ah st.env 0=some (bg s)∧ah st.env 1=some (.fn (.func 118) [.op b 0])∧ah st.env 7=some (.int .i64 s.length)∧ah st.env 8=some (.int .i64 i)∧nx≤st.nx∧(∀ k o,k<nx→aq h k=some o→aq st.heap k=some o)∧kU w (s.take i)=false∧st.dm=[]) (n:=s.length) aI
  ⟨0,rfl,by omega,by simp [ah],by simp [ah],by simp [ah],by simp [ah],Gp _,fun _ _ _ h=>h,by simp [kU],rfl⟩ ?_
 rintro q ⟨env,heap,nx',dm⟩ ⟨i,rfl,hi,g0,g1,g7,g8,hn,hk,ha,hdm⟩
 simp only at g0 g1 g7 g8 hn hk ha hdm
 subst hdm
 have f1:=wS (i:=i) (by omega)
 by_cases hc:(i:Int)<(s.length:Int)
 case neg =>
  rw [show s.take i=s from Fs (by omega)] at ha
  simp -implicitDefEqProofs only [RA,ae,zp,↓reduceIte,reduceCtorEq,zq,zr,zs,zt,q5,nE,g0,g1,g7,g8,hc,BZ]
  exact ⟨-1,rfl,by rw [ha];rfl,hn,hk⟩
 have hr:=Fo (show i<s.length by omega)
 generalize s[i]=r at hr
 have ix:=bh hr
 have rl:=aY r
 have rt:=aU r
 simp -implicitDefEqProofs only [RA,ae,zp,↓reduceIte,reduceCtorEq,zq,zr,zs,zt,q5,nE,g0,g1,g7,g8,hc,ix,rl,rt]
 refine (w118 r b w heap nx' (hk _ _ hlt hb) (by omega)).mono ?_
 rintro y h2 n2 ⟨rfl,hn2,hk2⟩
 by_cases hw:r.width=w
 ·simp -implicitDefEqProofs only [RA,ae,zp,↓reduceIte,reduceCtorEq,zq,zr,zs,zt,decide_eq_false (not_not_intro hw),g1,g7,g8,g0,f1]
  refine ⟨s.length-(i+1),by omega,i+1,rfl,by omega,rfl,by omega,fun k o h1 h3=>hk2 _ _ (by omega) (hk _ _ h1 h3),?_⟩
  rw [aQ hr]
  simp only [kU,List.any_append,List.any_cons,List.any_nil,Bool.or_false] at ha ⊢
  rw [ha,hw];simp
 ·simp -implicitDefEqProofs only [RA,ae,zp,↓reduceIte,reduceCtorEq,zq,zr,zs,zt,decide_eq_true (p:=¬ r.width=w) hw,g1,g7,g8,g0,BZ]
  refine ⟨i,rfl,?_,by omega,fun k o h1 h3=>hk2 _ _ (by omega) (hk _ _ h1 h3)⟩
  have:kU w s=true:=F1.2 ⟨r,Fp hr,decide_eq_true hw⟩
  rw [this];exact decide_eq_true (by omega)
theorem w117 (s:List Tm) (hs:s.length≤100000000) (b:Nat) (w:Int) (h:Heap) (nx:Nat) (hb:aq h b=some (.cells [.int .i64 w])) (hlt:b<nx) :
  AC Tryz.prog 117 [bg s,.fn (.func 118) [.op b 0]] h nx fun y h' n'=>y=.ret (.bool (kU w s))∧nx≤n'∧∀ k o,k<nx→aq h k=some o→aq h' k=some o:=by
 refine AC.go aI C8 (by simp) ?_
 simp -implicitDefEqProofs only [RA,ae,zp,↓reduceIte,reduceCtorEq,zq,zr,zs,zt,E9,Aq]
 refine (w122 s hs b w h nx hb hlt).mono ?_
 rintro y h2 n2 ⟨v,rfl,hv,hn2,hk2⟩
 simp -implicitDefEqProofs only [RA,ae,zp,↓reduceIte,reduceCtorEq,zq,zr,zs,zt,hv,D7]
 exact ⟨hn2,hk2⟩
def wAt (s:List Tm) (i:Nat):Int:=match s[i]? with|some x=>x.width|none=>0
theorem ca {s:List Tm} {i:Nat} {a:Tm} (h:s[i]?=some a):wAt s i=a.width:=by rw [wAt,h]
def wdB (c w low:Int) (s:List Tm):Bool :=
 if c=1 then !(kU w s)
 else if c=2 then decide (w=1)&&decide (wAt s 1=wAt s 0)
 else if c=3 then decide (wAt s 0=1)&&(decide (wAt s 1=w)&&decide (wAt s 2=w))
 else if c=4 then wide (wAt s 0)&&(wide (wAt s 1)&&decide (wAt s 0+wAt s 1=w))
 else if c=5 then decide (0≤low)&&(wide (wAt s 0)&&(decide (w≤wAt s 0)&&decide (low≤wAt s 0-w)))
 else if c=6 then decide (wAt s 0≤w)
 else ldb w
theorem dz {w:Int} (h:wide w=true):1≤w∧w≤64:=by simpa [wide] using h
theorem w110 (x:Tm) (c:Int) (hc:1≤c∧c≤7) (hw:wide x.width=true) (h1:1≤x.sub.length) (hm:x.sub.length≤100000000) (h2:c=2∨c=4→2≤x.sub.length) (h3:c=3→3≤x.sub.length) :
  Pure Tryz.prog 110 [.agg (tmE x),.int .i64 c] (.bool (wdB c x.width x.low x.sub)):=by
 refine Pure.of fun nx=>AC.go aI Df (by simp) ?_
 obtain ⟨k,w,b,nm,lo,s⟩:=x
 simp only [Tm.sub,Tm.width,Tm.low] at *
 have lv:=bw s
 have n1:(nx+1=nx)=False:=eq_false (by omega)
 obtain ⟨g1,g2⟩:=dz hw
 have ix0:idxA 6 (bg s) 0=some (.fp (tmE s[0])):=bh (n:=0) (Fo (by omega))
 have v0:wAt s 0=s[0].width:=ca (Fo (by omega))
 generalize s[0]=a0 at ix0 v0
 rw [aZ] at ix0
 rw [gI]
 have:c=1∨c=2∨c=3∨c=4∨c=5∨c=6∨c=7:=by omega
 rcases this with rfl|rfl|rfl|rfl|rfl|rfl|rfl
 ·rw [wdB,if_pos rfl]
  simp -implicitDefEqProofs only [RA,ae,zp,↓reduceIte,reduceCtorEq,zq,zr,zs,zt,kd,gv,↓ak,↓aj,ix0,n1,Gy,fQ]
  refine (w117 s hm (nx+1) w _ _ (by rw [af,if_pos rfl]) (by omega)).mono ?_
  rintro y h2 n2 ⟨rfl,-,-⟩
  simp -implicitDefEqProofs only [RA,ae,zp,↓reduceIte,reduceCtorEq,zq,zr,zs,zt,unA,fQ]
 ·obtain ⟨hl⟩:Nonempty (2≤s.length):=⟨h2 (by simp)⟩
  have ix1:idxA 6 (bg s) 1=some (.fp (tmE s[1])):=bh (n:=1) (Fo (by omega))
  have v1:wAt s 1=s[1].width:=ca (Fo (by omega))
  generalize s[1]=a1 at ix1 v1
  rw [aZ] at ix1
  rw [wdB,if_neg (by omega),if_pos rfl,v0,v1]
  rcases ai (w=1) with ⟨c1,d1⟩|⟨c1,d1⟩
  ·subst c1
   simp -implicitDefEqProofs only [RA,ae,zp,↓reduceIte,reduceCtorEq,zq,zr,zs,zt,kd,gv,↓ak,↓aj,ix0,ix1,n1,Gy,Ge,Gf,fQ]
  ·simp -implicitDefEqProofs only [RA,ae,zp,↓reduceIte,reduceCtorEq,zq,zr,zs,zt,kd,gv,↓ak,↓aj,ix0,ix1,n1,Gy,d1,Ge,Gf,fQ]
 ·obtain ⟨hl⟩:Nonempty (3≤s.length):=⟨h3 rfl⟩
  have ix1:idxA 6 (bg s) 1=some (.fp (tmE s[1])):=bh (n:=1) (Fo (by omega))
  have v1:wAt s 1=s[1].width:=ca (Fo (by omega))
  have ix2:idxA 6 (bg s) 2=some (.fp (tmE s[2])):=bh (n:=2) (Fo (by omega))
  have v2:wAt s 2=s[2].width:=ca (Fo (by omega))
  generalize s[1]=a1 at ix1 v1
  generalize s[2]=a2 at ix2 v2
  rw [aZ] at ix1 ix2
  rw [wdB,if_neg (by omega),if_neg (by omega),if_pos rfl,v0,v1,v2]
  rcases ai (a0.width=1) with ⟨c1,d1⟩|⟨c1,d1⟩
  ·rcases ai (a1.width=w) with ⟨c2,d2⟩|⟨c2,d2⟩
   ·simp -implicitDefEqProofs only [RA,ae,zp,↓reduceIte,reduceCtorEq,zq,zr,zs,zt,kd,gv,↓ak,↓aj,ix0,ix1,ix2,n1,Gy,d1,d2,Ge,Gf,fQ]
   ·simp -implicitDefEqProofs only [RA,ae,zp,↓reduceIte,reduceCtorEq,zq,zr,zs,zt,kd,gv,↓ak,↓aj,ix0,ix1,ix2,n1,Gy,d1,d2,Ge,Gf,fQ]
  ·simp -implicitDefEqProofs only [RA,ae,zp,↓reduceIte,reduceCtorEq,zq,zr,zs,zt,kd,gv,↓ak,↓aj,ix0,ix1,ix2,n1,Gy,d1,Ge,Gf,fQ]
 ·obtain ⟨hl⟩:Nonempty (2≤s.length):=⟨h2 (by simp)⟩
  have ix1:idxA 6 (bg s) 1=some (.fp (tmE s[1])):=bh (n:=1) (Fo (by omega))
  have v1:wAt s 1=s[1].width:=ca (Fo (by omega))
  generalize s[1]=a1 at ix1 v1
  rw [aZ] at ix1
  rw [wdB,if_neg (by omega),if_neg (by omega),if_neg (by omega),if_pos rfl,v0,v1]
  simp -implicitDefEqProofs only [RA,ae,zp,↓reduceIte,reduceCtorEq,zq,zr,zs,zt,kd,gv,↓ak,↓aj,ix0,ix1,n1,Gy,fQ]
  refine (xU _).use fun n2 hn2=>?_
  have m1:(n2=nx)=False:=eq_false (by omega)
  cases h4:wide a0.width
  ·simp -implicitDefEqProofs only [RA,ae,zp,↓reduceIte,reduceCtorEq,zq,zr,zs,zt,Gf,Gy,fQ]
  ·simp -implicitDefEqProofs only [RA,ae,zp,↓reduceIte,reduceCtorEq,zq,zr,zs,zt,ix1,Gy,↓ak,↓aj,n1]
   refine (xU _).use fun n3 hn3=>?_
   obtain ⟨e1,e2⟩:=dz h4
   cases h5:wide a1.width
   ·simp -implicitDefEqProofs only [RA,ae,zp,↓reduceIte,reduceCtorEq,zq,zr,zs,zt,Gf,Ge,Gy,fQ]
   ·obtain ⟨e3,e4⟩:=dz h5
    have f1:IntKind.i64.wrap (a0.width+a1.width)=a0.width+a1.width:=w64 (by omega) (by omega)
    simp -implicitDefEqProofs only [RA,ae,zp,↓reduceIte,reduceCtorEq,zq,zr,zs,zt,Ge,ix1,f1,↓ak,↓aj,n1,Gy,fQ]
 ·rw [wdB,if_neg (by omega),if_neg (by omega),if_neg (by omega),if_neg (by omega),if_pos rfl,v0]
  rcases ai ((0:Int)≤lo) with ⟨c1,d1⟩|⟨c1,d1⟩
  ·simp -implicitDefEqProofs only [RA,ae,zp,↓reduceIte,reduceCtorEq,zq,zr,zs,zt,kd,gv,↓ak,↓aj,ix0,n1,Gy,d1,fQ]
   refine (xU _).use fun n2 hn2=>?_
   cases h4:wide a0.width
   ·simp -implicitDefEqProofs only [RA,ae,zp,↓reduceIte,reduceCtorEq,zq,zr,zs,zt,Gf,Ge,Gy,fQ]
   ·obtain ⟨e1,e2⟩:=dz h4
    have f1:IntKind.i64.wrap (a0.width-w)=a0.width-w:=w64 (by omega) (by omega)
    rcases ai (w≤a0.width) with ⟨c2,d2⟩|⟨c2,d2⟩
    ·simp -implicitDefEqProofs only [RA,ae,zp,↓reduceIte,reduceCtorEq,zq,zr,zs,zt,Ge,f1,d2,↓ak,↓aj,n1,Gy,fQ]
    ·simp -implicitDefEqProofs only [RA,ae,zp,↓reduceIte,reduceCtorEq,zq,zr,zs,zt,Ge,Gf,f1,d2,↓ak,↓aj,n1,Gy,fQ]
  ·simp -implicitDefEqProofs only [RA,ae,zp,↓reduceIte,reduceCtorEq,zq,zr,zs,zt,kd,gv,↓ak,↓aj,ix0,n1,Gy,d1,Gf,fQ]
 ·rw [wdB,if_neg (by omega),if_neg (by omega),if_neg (by omega),if_neg (by omega),if_neg (by omega),if_pos rfl,v0]
  simp -implicitDefEqProofs only [RA,ae,zp,↓reduceIte,reduceCtorEq,zq,zr,zs,zt,kd,gv,↓ak,↓aj,ix0,n1,Gy,fQ]
 ·rw [wdB,if_neg (by omega),if_neg (by omega),if_neg (by omega),if_neg (by omega),if_neg (by omega),if_neg (by omega)]
  simp -implicitDefEqProofs only [RA,ae,zp,↓reduceIte,reduceCtorEq,zq,zr,zs,zt,kd,gv,↓ak,↓aj,ix0,n1,Gy,fQ]
  refine (w119 _).use fun n2 hn2=>?_
  simp -implicitDefEqProofs only [RA,ae,zp,↓reduceIte,reduceCtorEq,zq,zr,zs,zt,fQ]
end Go.Proofs.YtkhjclmfbmfahaaGreatDoor
