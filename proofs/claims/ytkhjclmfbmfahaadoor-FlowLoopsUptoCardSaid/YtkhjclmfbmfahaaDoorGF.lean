/- Terms: how large, how deep, and whether they are looked at. -/
import Derived.Test.YtkhjclmfbmfahaaDoorGE
namespace Go.Proofs.YtkhjclmfbmfahaaDoor
open List renaming getElem?_eq_getElem → D9, mem_of_getElem? → Ea, take_of_length_le → Ec, drop_of_length_le → Ed, length_cons → Ee, length_nil → Ef, length_map → Eg, length_take → Eh, length_append → El, map_append → Em, mem_cons → En, cons_append → EH, any_eq_true → EI
open Bool renaming true_and → EV, false_and → EW, true_or → E2, false_or → E3, or_true → E4
open Nat renaming le_refl → E5, le_trans → E7
open Int renaming reduceEq → Ff
set_option maxHeartbeats 64000000
open Go Go.Ab Go.Proofs
open Nat renaming reduceEqDiff → zp, reduceAdd → zq, reduceLeDiff → zr, reduceLT → zs, reduceBEq → zt
set_option linter.unusedVariables false
set_option linter.unusedSimpArgs false
set_option maxRecDepth 20000
mutual
def szT:Tm→Nat
 | .mk _ _ _ _ _ s=>bF s+1
def bF:List Tm→Nat
 | []=>0
 | x::r=>szT x+bF r
end
mutual
def dpT:Tm→Nat
 | .mk _ _ _ _ _ s=>dN s+1
def dN:List Tm→Nat
 | []=>0
 | x::r=>max (dpT x) (dN r)
end
theorem bW (x:Tm):szT x=bF x.sub+1:=by cases x;simp [szT,Tm.sub]
theorem vr (x:Tm):dpT x=dN x.sub+1:=by cases x;simp [dpT,Tm.sub]
theorem cp:∀ {l:List Tm} {x:Tm},x∈l→szT x≤bF l
 | [],x,h=>by simp at h
 | y::r,x,h=>by
  simp only [bF]
  rcases En.1 h with rfl|h
  ·omega
  ·have:=cp h;omega
theorem cq:∀ l:List Tm,l.length≤bF l
 | []=>by simp
 | x::r=>by have:=cq r;have:=bW x;simp only [Ee,bF];omega
theorem ky:∀ (a b:List Tm),bF (a++b)=bF a+bF b
 | [],b=>by simp [bF]
 | x::a,b=>by simp only [EH,bF,ky a b];omega
theorem oP:∀ (a b:List Tm),dN (a++b)=max (dN a) (dN b)
 | [],b=>by simp [dN]
 | x::a,b=>by simp only [EH,dN,oP a b];omega
theorem lJ {l:List Tm} {i:Nat} {r:Tm} (h:l[i]?=some r):bF (l.take (i+1))=bF (l.take i)+szT r:=by
 rw [aO h,ky];simp [bF]
theorem mh {l:List Tm} {i:Nat} {r:Tm} (h:l[i]?=some r):dN (l.take (i+1))=max (dN (l.take i)) (dpT r):=by
 rw [aO h,oP];simp [dN]
theorem mA (l:List Tm) (i:Nat):bF (l.take i)≤bF l:=by
 have:=ky (l.take i) (l.drop i)
 rw [List.take_append_drop] at this;omega
theorem yW:∀ (N:Nat) (x:Tm),szT x≤N→dpT x≤szT x:=by
 intro N
 induction N with
 | zero=>intro x h;have:=bW x;omega
 | succ N ih =>
  intro x h
  have key:∀ l:List Tm,bF l≤N→dN l≤bF l:=by
   intro l
   induction l with
   | nil=>intro _;simp [dN]
   | cons a r ihr =>
    intro hl
    simp only [bF,dN] at hl ⊢
    have h1:=ih a (by omega)
    have h2:=ihr (by omega)
    omega
  have h1:=bW x
  have h2:=vr x
  have h3:=key x.sub (by omega)
  omega
theorem w61:∀ (N:Nat) (x:Tm),szT x≤N→N≤4000000→Pure Tryd.prog 33 [.agg (tmE x)] (.int .i64 (szT x)):=by
 intro N
 induction N with
 | zero=>intro x h;have:=bW x;omega
 | succ N ih =>
  rintro ⟨k,w,b,n,lo,s⟩ h hN
  refine Pure.of fun nx=>AC.go aI is61 (by simp) ?_
  simp only [szT] at h ⊢
  have hl:=cq s
  have lv:=bN s
  rw [iG]
  simp -implicitDefEqProofs only [RA,ae,zp,↓reduceIte,reduceCtorEq,zq,zr,zs,zt,A61,De,↓ak,↓aj]
  refine aJ (fun q st=>∃ i:Nat,q=s.length-i∧i≤s.length∧ah st.env 1=some (.op nx 0)∧ah st.env 3=some (.int .i64 ((bF (s.take i)+1:Nat):Int))∧ah st.env 4=some (.int .i64 i)∧ay st.heap nx=some (.cells [.int .u8 k,.int .i64 w,.int .u64 b,.str n,.int .i64 lo,br s])∧st.dm=[]) (n:=s.length) aI
   ⟨0,rfl,by omega,by simp [ah],by simp [ah,bF],by simp [ah],by simp [ay],rfl⟩ ?_
  rintro q ⟨env,heap,nx',dm⟩ ⟨i,rfl,hi,g1,g3,g4,gx,hdm⟩
  simp only at g1 g3 g4 gx hdm
  subst hdm
  have f1:=wS (i:=i) (by omega)
  by_cases hc:(i:Int)<(s.length:Int)
  case neg =>
   rw [Ec (by omega)] at g3
   simp -implicitDefEqProofs only [RA,ae,zp,↓reduceIte,reduceCtorEq,zq,zr,zs,zt,wn,qt,g1,g3,g4,gx,lv,hc,R61]
  have hr:=D9 (show i<s.length by omega)
  generalize s[i]=r at hr
  have ix:=bg hr
  have hm:=cp (Ea hr)
  have ht:=lJ hr
  have hle:=mA s (i+1)
  have f2:IntKind.i64.wrap (((bF (s.take i)+1:Nat):Int)+(szT r:Int))=((bF (s.take (i+1))+1:Nat):Int):=by rw [w64 (by omega) (by omega)];omega
  simp -implicitDefEqProofs only [RA,ae,zp,↓reduceIte,reduceCtorEq,zq,zr,zs,zt,wn,qt,g1,g3,g4,gx,lv,hc,ix,bc,aV]
  refine (ih r (by omega) (by omega)).use fun n1 hn1=>?_
  simp -implicitDefEqProofs only [RA,ae,zp,↓reduceIte,reduceCtorEq,zq,zr,zs,zt,g1,g3,g4,gx,f1,f2]
  exact ⟨s.length-(i+1),by omega,i+1,rfl,by omega,rfl,rfl⟩
theorem w101:∀ (N:Nat) (x:Tm),szT x≤N→N≤4000000→Pure Tryd.prog 80 [.agg (tmE x)] (.int .i64 (dpT x)):=by
 intro N
 induction N with
 | zero=>intro x h;have:=bW x;omega
 | succ N ih =>
  intro x h hN
  have hds:=yW _ x (E5 _)
  obtain ⟨k,w,b,n,lo,s⟩:=x
  refine Pure.of fun nx=>AC.go aI B7 (by simp) ?_
  simp only [szT,dpT] at h hds ⊢
  have hl:=cq s
  have lv:=bN s
  rw [iG]
  simp -implicitDefEqProofs only [RA,ae,zp,↓reduceIte,reduceCtorEq,zq,zr,zs,zt,D6,zG,↓ak,↓aj]
  refine aJ (fun q st=>∃ i:Nat,q=s.length-i∧i≤s.length∧ah st.env 1=some (.op nx 0)∧ah st.env 3=some (.int .i64 (dN (s.take i)))∧ah st.env 4=some (.int .i64 i)∧ay st.heap nx=some (.cells [.int .u8 k,.int .i64 w,.int .u64 b,.str n,.int .i64 lo,br s])∧st.dm=[]) (n:=s.length) aI
   ⟨0,rfl,by omega,by simp [ah],by simp [ah,dN],by simp [ah],by simp [ay],rfl⟩ ?_
  rintro q ⟨env,heap,nx',dm⟩ ⟨i,rfl,hi,g1,g3,g4,gx,hdm⟩
  simp only at g1 g3 g4 gx hdm
  subst hdm
  have f1:=wS (i:=i) (by omega)
  by_cases hc:(i:Int)<(s.length:Int)
  case neg =>
   rw [Ec (by omega)] at g3
   have f2:IntKind.i64.wrap ((dN s:Int)+1)=((dN s+1:Nat):Int):=by rw [w64 (by omega) (by omega)];omega
   simp -implicitDefEqProofs only [RA,ae,zp,↓reduceIte,reduceCtorEq,zq,zr,zs,zt,q8,nO,g1,g3,g4,gx,lv,hc,f2,CM]
  have hr:=D9 (show i<s.length by omega)
  generalize s[i]=r at hr
  have ix:=bg hr
  have hm:=cp (Ea hr)
  have ht:=mh hr
  have f2:(if (dpT r:Int) > (dN (s.take i):Int) then (dpT r:Int) else (dN (s.take i):Int))=((dN (s.take (i+1)):Nat):Int):=by split <;> omega
  simp -implicitDefEqProofs only [RA,ae,zp,↓reduceIte,reduceCtorEq,zq,zr,zs,zt,q8,nO,g1,g3,g4,gx,lv,hc,ix,bc,aV]
  refine (ih r (by omega) (by omega)).use fun n1 hn1=>?_
  simp -implicitDefEqProofs only [RA,ae,zp,↓reduceIte,reduceCtorEq,zq,zr,zs,zt,g1,g3,g4,gx,f1,f2]
  exact ⟨s.length-(i+1),by omega,i+1,rfl,by omega,rfl,rfl⟩
theorem w95:∀ (N:Nat) (x:Tm),szT x≤N→N≤4000000→Pure Tryd.prog 65 [.agg (tmE x)] (.int .i64 (dpT x)):=by
 intro N
 induction N with
 | zero=>intro x h;have:=bW x;omega
 | succ N ih =>
  intro x h hN
  have hds:=yW _ x (E5 _)
  obtain ⟨k,w,b,n,lo,s⟩:=x
  refine Pure.of fun nx=>AC.go aI is95 (by simp) ?_
  simp only [szT,dpT] at h hds ⊢
  have hl:=cq s
  have lv:=bN s
  rw [iG]
  simp -implicitDefEqProofs only [RA,ae,zp,↓reduceIte,reduceCtorEq,zq,zr,zs,zt,A95,CT,↓ak,↓aj,lv]
  refine aJ (fun q st=>∃ i:Nat,q=s.length-i∧i≤s.length∧ah st.env 7=some (br s)∧ah st.env 8=some (.int .i64 s.length)∧ah st.env 3=some (.int .i64 (dN (s.take i)))∧ah st.env 9=some (.int .i64 i)∧st.dm=[]) (n:=s.length) aI
   ⟨0,rfl,by omega,by simp [ah],by simp [ah],by simp [ah,dN],by simp [ah],rfl⟩ ?_
  rintro q ⟨env,heap,nx',dm⟩ ⟨i,rfl,hi,g7,g8,g3,g9,hdm⟩
  simp only at g7 g8 g3 g9 hdm
  subst hdm
  have f1:=wS (i:=i) (by omega)
  by_cases hc:(i:Int)<(s.length:Int)
  case neg =>
   rw [Ec (by omega)] at g3
   have f2:IntKind.i64.wrap ((dN s:Int)+1)=((dN s+1:Nat):Int):=by rw [w64 (by omega) (by omega)];omega
   simp -implicitDefEqProofs only [RA,ae,zp,↓reduceIte,reduceCtorEq,zq,zr,zs,zt,vY,qe,g7,g8,g3,g9,hc,f2,R95]
  have hr:=D9 (show i<s.length by omega)
  generalize s[i]=r at hr
  have ix:=bg hr
  have hm:=cp (Ea hr)
  have ht:=mh hr
  have f2:(if (dpT r:Int) > (dN (s.take i):Int) then (dpT r:Int) else (dN (s.take i):Int))=((dN (s.take (i+1)):Nat):Int):=by split <;> omega
  rw [aY] at ix
  have ihr:=ih r (by omega) (by omega)
  rw [aY] at ihr
  simp -implicitDefEqProofs only [RA,ae,zp,↓reduceIte,reduceCtorEq,zq,zr,zs,zt,vY,qe,g7,g8,g3,g9,hc,ix,↓ak,↓aj]
  refine ihr.use fun n1 hn1=>?_
  simp -implicitDefEqProofs only [RA,ae,zp,↓reduceIte,reduceCtorEq,zq,zr,zs,zt,g7,g8,g3,g9,f1,f2]
  exact ⟨s.length-(i+1),by omega,i+1,rfl,by omega,rfl,rfl⟩
def iQ (f:Tm→Int→Int × Bool):List Tm→Int→Int→Int × Bool
 | [],_,n=>(n,true)
 | x::r,lim,n=>if n≤lim then (if (f x (lim-n)).2=true then iQ f r lim (n+(f x (lim-n)).1) else (n,false)) else (n,true)
def eg:Nat→Tm→Int→Int × Bool
 | 0,_,_=>(1,false)
 | d+1,x,lim=>iQ (eg d) x.sub lim 1
theorem pY:∀ (d:Nat) (x:Tm) (lim:Int),0≤lim→1≤(eg d x lim).1∧(eg d x lim).1≤lim+d+1
 | 0,x,lim,h=>by simp only [eg];omega
 | d+1,x,lim,h=>by
  have key:∀ (l:List Tm) (n:Int),1≤n→n≤lim+d+2→1≤(iQ (eg d) l lim n).1∧(iQ (eg d) l lim n).1≤lim+d+2:=by
   intro l
   induction l with
   | nil=>intro n h1 h2;simp only [iQ];omega
   | cons y r ih =>
    intro n h1 h2
    rw [iQ]
    split
    ·have:=pY d y (lim-n) (by omega)
     split
     ·exact ih _ (by omega) (by omega)
     ·simp only;omega
    ·simp only;omega
  have:=key x.sub 1 (by omega) (by omega)
  simp only [eg]
  omega
theorem vD:∀ (d:Nat) (x:Tm) (lim:Int),(eg d x lim).2=true→(eg d x lim).1≤lim→(szT x:Int)=(eg d x lim).1∧dpT x≤d
 | 0,x,lim,h,_=>by simp [eg] at h
 | d+1,x,lim,h,hl=>by
  have key:∀ (l:List Tm) (n:Int),(iQ (eg d) l lim n).2=true→(iQ (eg d) l lim n).1≤lim→n≤(iQ (eg d) l lim n).1∧n+(bF l:Int)=(iQ (eg d) l lim n).1∧dN l≤d:=by
   intro l
   induction l with
   | nil=>intro n h1 h2;simp [iQ,bF,dN]
   | cons y r ih =>
    intro n h1 h2
    rw [iQ] at h1 h2 ⊢
    split at h1
    ·rename_i c1
     rw [if_pos c1] at h2 ⊢
     split at h1
     ·rename_i c2
      rw [if_pos c2] at h2 ⊢
      obtain ⟨e1,e2,e3⟩:=ih _ h1 h2
      obtain ⟨e4,e5⟩:=vD d y (lim-n) c2 (by omega)
      have:=(pY d y (lim-n) (by omega)).1
      simp only [bF,dN]
      refine ⟨by omega,by omega,by omega⟩
     ·simp at h1
    ·rename_i c1
     rw [if_neg c1] at h2
     exact absurd h2 c1
  rw [eg] at h hl ⊢
  obtain ⟨e1,e2,e3⟩:=key x.sub 1 h hl
  have h1:=bW x
  have h2:=vr x
  exact ⟨by omega,by omega⟩
mutual
def kd:Tm→Bool
 | .mk _ _ _ n _ s=>oz s||decide ((n.length:Int) > 200)
def oz:List Tm→Bool
 | []=>false
 | x::r=>kd x||oz r
end
def grT (x:Tm):Bool:=!(eg 80 x 500).2||(decide ((eg 80 x 500).1 > 500)||kd x)
theorem w72:∀ (d:Nat) (x:Tm) (lim:Int),d≤1000→szT x≤4000000→0≤lim→lim≤1000→Pure Tryd.prog 41 [.agg (tmE x),.int .i64 lim,.int .i64 d] (.tup [.int .i64 (eg d x lim).1,.bool (eg d x lim).2]):=by
 intro d
 induction d with
 | zero =>
  rintro ⟨k,w,b,n,lo,s⟩ lim hd hz h0 h1
  refine Pure.of fun nx=>AC.go aI BE (by simp) ?_
  have zz:((0:Nat):Int)=0:=rfl
  rw [iG]
  simp -implicitDefEqProofs only [RA,ae,zp,↓reduceIte,reduceCtorEq,zq,zr,zs,zt,A72,Bb,↓ak,↓aj,zz,Ff,R72]
  rfl
 | succ d ih =>
  rintro ⟨k,w,b,n,lo,s⟩ lim hd hz h0 h1
  refine Pure.of fun nx=>AC.go aI BE (by simp) ?_
  have hd0:(((d+1:Nat):Int)=0)=False:=eq_false (by omega)
  have hf:IntKind.i64.wrap (((d+1:Nat):Int)-1)=(d:Int):=by rw [w64 (by omega) (by omega)];omega
  simp only [szT] at hz
  have hl:=cq s
  have lv:=bN s
  rw [iG]
  obtain ⟨R,hR⟩:∃ R,eg (d+1) (.mk k w b n lo s) lim=R:=⟨_,rfl⟩
  rw [hR]
  simp only [eg,Tm.sub] at hR
  simp -implicitDefEqProofs only [RA,ae,zp,↓reduceIte,reduceCtorEq,zq,zr,zs,zt,A72,Bb,↓ak,↓aj,hd0]
  refine aJ (fun q st=>∃ (i:Nat) (m:Int),q=s.length-i∧i≤s.length∧iQ (eg d) (s.drop i) lim m=R∧1≤m∧m≤lim+d+2∧ah st.env 1=some (.int .i64 lim)∧ah st.env 2=some (.int .i64 ((d+1:Nat):Int))∧ah st.env 3=some (.op nx 0)∧ah st.env 8=some (.int .i64 m)∧ah st.env 9=some (.int .i64 i)∧ay st.heap nx=some (.cells [.int .u8 k,.int .i64 w,.int .u64 b,.str n,.int .i64 lo,br s])∧st.dm=[]) (n:=s.length) aI
   ⟨0,1,rfl,by omega,by simpa using hR,by omega,by omega,by simp [ah],by simp [ah],by simp [ah],by simp [ah],by simp [ah],by simp [ay],rfl⟩ ?_
  rintro q ⟨env,heap,nx',dm⟩ ⟨i,m,rfl,hi,hres,hm0,hm1,g1,g2,g3,g8,g9,gx,hdm⟩
  simp only at g1 g2 g3 g8 g9 gx hdm
  subst hdm
  have f1:=wS (i:=i) (by omega)
  by_cases hc:(i:Int)<(s.length:Int)
  case neg =>
   rw [Ed (by omega),iQ] at hres
   subst hres
   simp -implicitDefEqProofs only [RA,ae,zp,↓reduceIte,reduceCtorEq,zq,zr,zs,zt,sh,nl,g1,g2,g3,g8,g9,gx,lv,hc,R72]
  have hr:=D9 (show i<s.length by omega)
  generalize s[i]=r at hr
  have ix:=bg hr
  have hmr:=cp (Ea hr)
  rw [bt hr,iQ] at hres
  rcases ai (m≤lim) with ⟨c1,d1⟩|⟨c1,d1⟩
  case inr =>
   rw [if_neg c1] at hres
   subst hres
   simp -implicitDefEqProofs only [RA,ae,zp,↓reduceIte,reduceCtorEq,zq,zr,zs,zt,sh,nl,g1,g2,g3,g8,g9,gx,lv,hc,d1,R72]
  rw [if_pos c1] at hres
  have f2:IntKind.i64.wrap (lim-m)=lim-m:=by rw [w64 (by omega) (by omega)]
  have hle:=pY d r (lim-m) (by omega)
  have f3:IntKind.i64.wrap (m+(eg d r (lim-m)).1)=m+(eg d r (lim-m)).1:=by rw [w64 (by omega) (by omega)]
  simp -implicitDefEqProofs only [RA,ae,zp,↓reduceIte,reduceCtorEq,zq,zr,zs,zt,sh,nl,g1,g2,g3,g8,g9,gx,lv,hc,d1,ix,bc,aV,f2,hf]
  refine (ih r (lim-m) (by omega) (by omega) (by omega) (by omega)).use fun n1 hn1=>?_
  cases hb:(eg d r (lim-m)).2 with
  | false =>
   rw [hb,if_neg (by simp)] at hres
   subst hres
   simp -implicitDefEqProofs only [RA,ae,zp,↓reduceIte,reduceCtorEq,zq,zr,zs,zt,g1,g2,g3,g8,g9,gx,unA,R72]
  | true =>
   rw [hb,if_pos rfl] at hres
   simp -implicitDefEqProofs only [RA,ae,zp,↓reduceIte,reduceCtorEq,zq,zr,zs,zt,g1,g2,g3,g8,g9,gx,unA,f1,f3]
   exact ⟨s.length-(i+1),by omega,i+1,_,rfl,by omega,hres,by omega,by omega,rfl,rfl⟩
theorem fS {α:Type} {q:α→Bool} {l:List α} {i:Nat} {x:α} (h:l[i]?=some x):(l.drop i).any q=(q x||(l.drop (i+1)).any q):=by
 rw [bt h,List.any_cons]
theorem jJ:∀ l:List Tm,oz l=l.any kd
 | []=>by simp [oz]
 | x::r=>by simp [oz,jJ r]
theorem jO {α:Type} {q:α→Bool} {l:List α} (h:l.any q=false) {x:α} (hx:x∈l):q x=false:=by
 cases hq:q x with
 | false=>rfl
 | true=>rw [EI.2 ⟨x,hx,hq⟩] at h;cases h
theorem Ak {x:Tm} (h:grT x=false):szT x≤500∧dpT x≤80∧kd x=false:=by
 simp only [grT,Bool.or_eq_false_iff,Bool.not_eq_false',decide_eq_false_iff_not] at h
 obtain ⟨h1,h2,h3⟩:=h
 have:=vD 80 x 500 h1 (by omega)
 exact ⟨by omega,this.2,h3⟩
theorem w73:∀ (N:Nat) (x:Tm),szT x≤N→N≤4000000→Pure Tryd.prog 42 [.agg (tmE x)] (.bool (kd x)):=by
 intro N
 induction N with
 | zero=>intro x h;have:=bW x;omega
 | succ N ih =>
  rintro ⟨k,w,b,n,lo,s⟩ h hN
  refine Pure.of fun nx=>AC.go aI is73 (by simp) ?_
  simp only [szT] at h
  rw [kd,jJ]
  have hl:=cq s
  have lv:=bN s
  rw [iG]
  simp -implicitDefEqProofs only [RA,ae,zp,↓reduceIte,reduceCtorEq,zq,zr,zs,zt,A73,C8,↓ak,↓aj]
  refine aJ (fun q st=>∃ i:Nat,q=s.length-i∧i≤s.length∧(s.drop i).any kd=s.any kd∧ah st.env 1=some (.op nx 0)∧ah st.env 3=some (.int .i64 i)∧ay st.heap nx=some (.cells [.int .u8 k,.int .i64 w,.int .u64 b,.str n,.int .i64 lo,br s])∧st.dm=[]) (n:=s.length) aI
   ⟨0,rfl,by omega,by simp,by simp [ah],by simp [ah],by simp [ay],rfl⟩ ?_
  rintro q ⟨env,heap,nx',dm⟩ ⟨i,rfl,hi,hf,g1,g3,gx,hdm⟩
  simp only at g1 g3 gx hdm
  subst hdm
  have f1:=wS (i:=i) (by omega)
  by_cases hc:(i:Int)<(s.length:Int)
  case neg =>
   rw [Ed (by omega),List.any_nil] at hf
   rw [← hf]
   simp -implicitDefEqProofs only [RA,ae,zp,↓reduceIte,reduceCtorEq,zq,zr,zs,zt,wg,ql,g1,g3,gx,lv,hc,R73,E3]
  have hr:=D9 (show i<s.length by omega)
  generalize s[i]=r at hr
  have ix:=bg hr
  have hm:=cp (Ea hr)
  rw [fS hr] at hf
  simp -implicitDefEqProofs only [RA,ae,zp,↓reduceIte,reduceCtorEq,zq,zr,zs,zt,wg,ql,g1,g3,gx,lv,hc,ix,bc,aV]
  refine (ih r (by omega) (by omega)).use fun n1 hn1=>?_
  cases hq:kd r with
  | true =>
   rw [hq,E2] at hf
   rw [← hf]
   simp -implicitDefEqProofs only [RA,ae,zp,↓reduceIte,reduceCtorEq,zq,zr,zs,zt,g1,g3,gx,R73,E2]
  | false =>
   rw [hq,E3] at hf
   simp -implicitDefEqProofs only [RA,ae,zp,↓reduceIte,reduceCtorEq,zq,zr,zs,zt,g1,g3,gx,f1]
   exact ⟨s.length-(i+1),by omega,i+1,rfl,by omega,hf,rfl⟩
theorem w60 (x:Tm) (h:szT x≤4000000):Pure Tryd.prog 32 [.agg (tmE x)] (.bool (grT x)):=by
 have c73:=w73 4000000 x h (E5 _)
 have c72:=w72 80 x 500 (by omega) h (by omega) (by omega)
 have e80:((80:Nat):Int)=80:=rfl
 rw [e80] at c72
 refine Pure.of fun nx=>AC.go aI is60 (by simp) ?_
 simp -implicitDefEqProofs only [RA,ae,zp,↓reduceIte,reduceCtorEq,zq,zr,zs,zt,A60,Df,bc,aV]
 refine c72.use fun n1 hn1=>?_
 unfold grT
 cases hb:(eg 80 x 500).2 with
 | false=>simp -implicitDefEqProofs only [RA,ae,zp,↓reduceIte,reduceCtorEq,zq,zr,zs,zt,unA,Bool.not_false,E2,R60]
 | true =>
  rcases ai ((eg 80 x 500).1 > 500) with ⟨c1,d1⟩|⟨c1,d1⟩
  ·simp -implicitDefEqProofs only [RA,ae,zp,↓reduceIte,reduceCtorEq,zq,zr,zs,zt,unA,d1,Bool.not_true,E3,E2,R60]
  ·simp -implicitDefEqProofs only [RA,ae,zp,↓reduceIte,reduceCtorEq,zq,zr,zs,zt,unA,d1,bc,aV]
   refine c73.use fun n2 hn2=>?_
   simp -implicitDefEqProofs only [RA,ae,zp,↓reduceIte,reduceCtorEq,zq,zr,zs,zt,unA,d1,Bool.not_true,E3,R60]
def oG (l:List Tm):Bool:=decide ((l.length:Int) > 20)||l.any grT
theorem w42 (l:List Tm) (h:bF l≤4000000):Pure Tryd.prog 21 [br l] (.bool (oG l)):=by
 refine Pure.of fun nx=>AC.go aI is42 (by simp) ?_
 have hl:=cq l
 have lv:=bN l
 unfold oG
 rcases ai ((l.length:Int) > 20) with ⟨c1,d1⟩|⟨c1,d1⟩
 ·simp -implicitDefEqProofs only [RA,ae,zp,↓reduceIte,reduceCtorEq,zq,zr,zs,zt,A42,Bi,lv,d1,R42,E2]
 simp -implicitDefEqProofs only [RA,ae,zp,↓reduceIte,reduceCtorEq,zq,zr,zs,zt,A42,Bi,lv,d1,E3]
 refine aJ (fun q st=>∃ i:Nat,q=l.length-i∧i≤l.length∧(l.drop i).any grT=l.any grT∧ah st.env 0=some (br l)∧ah st.env 3=some (.int .i64 i)∧st.dm=[]) (n:=l.length) aI
  ⟨0,rfl,by omega,by simp,by simp [ah],by simp [ah],rfl⟩ ?_
 rintro q ⟨env,heap,nx',dm⟩ ⟨i,rfl,hi,hf,g0,g3,hdm⟩
 simp only at g0 g3 hdm
 subst hdm
 have f1:=wS (i:=i) (by omega)
 by_cases hc:(i:Int)<(l.length:Int)
 case neg =>
  rw [Ed (by omega),List.any_nil] at hf
  rw [← hf]
  simp -implicitDefEqProofs only [RA,ae,zp,↓reduceIte,reduceCtorEq,zq,zr,zs,zt,wv,qA,g0,g3,lv,hc,R42]
 have hr:=D9 (show i<l.length by omega)
 generalize l[i]=r at hr
 have ix:=bg hr
 have hm:=cp (Ea hr)
 rw [fS hr] at hf
 simp -implicitDefEqProofs only [RA,ae,zp,↓reduceIte,reduceCtorEq,zq,zr,zs,zt,wv,qA,g0,g3,lv,hc,ix,bc,aV]
 refine (w60 r (by omega)).use fun n1 hn1=>?_
 cases hq:grT r with
 | true =>
  rw [hq,E2] at hf
  rw [← hf]
  simp -implicitDefEqProofs only [RA,ae,zp,↓reduceIte,reduceCtorEq,zq,zr,zs,zt,g0,g3,R42]
 | false =>
  rw [hq,E3] at hf
  simp -implicitDefEqProofs only [RA,ae,zp,↓reduceIte,reduceCtorEq,zq,zr,zs,zt,g0,g3,f1]
  exact ⟨l.length-(i+1),by omega,i+1,rfl,by omega,hf,rfl⟩
def szS (s:St):Nat:=bF s.terms+1
def mB:List St→Nat
 | []=>0
 | x::r=>szS x+mB r
theorem nV:∀ {l:List St} {x:St},x∈l→szS x≤mB l
 | [],x,h=>by simp at h
 | y::r,x,h=>by
  simp only [mB]
  rcases En.1 h with rfl|h
  ·omega
  ·have:=nV h;omega
theorem nW:∀ l:List St,l.length≤mB l
 | []=>by simp
 | x::r=>by have:=nW r;simp only [Ee,mB,szS];omega
def szB (b:Bk):Nat:=mB b.steps+bF b.terms+b.to.length+1
def grS (s:St):Bool:=oG s.terms||(decide ((s.var.length:Int) > 200)||decide ((s.func.length:Int) > 200))
def grB (b:Bk):Bool:=decide ((b.steps.length:Int) > 70)||(decide ((b.to.length:Int) > 70)||(oG b.terms||(decide ((b.func.length:Int) > 200)||b.steps.any grS)))
theorem w20 (b:Bk) (h:szB b≤4000000):Pure Tryd.prog 9 [.agg (bkE b)] (.bool (grB b)):=by
 refine Pure.of fun nx=>AC.go aI is20 (by simp) ?_
 unfold szB at h
 have hl:=nW b.steps
 have lv:=iA b.steps
 have li:=eQ b.to
 have c42:=w42 b.terms (by omega)
 unfold grB
 rw [jv]
 rcases ai ((b.steps.length:Int) > 70) with ⟨c1,d1⟩|⟨c1,d1⟩
 ·simp -implicitDefEqProofs only [RA,ae,zp,↓reduceIte,reduceCtorEq,zq,zr,zs,zt,A20,yM,↓ak,↓aj,↓aE,↓aD,↓aC,↓aB,lv,li,d1,R20,E2]
 rcases ai ((b.to.length:Int) > 70) with ⟨c2,d2⟩|⟨c2,d2⟩
 ·simp -implicitDefEqProofs only [RA,ae,zp,↓reduceIte,reduceCtorEq,zq,zr,zs,zt,A20,yM,↓ak,↓aj,↓aE,↓aD,↓aC,↓aB,lv,li,d1,d2,R20,E3,E2]
 simp -implicitDefEqProofs only [RA,ae,zp,↓reduceIte,reduceCtorEq,zq,zr,zs,zt,A20,yM,↓ak,↓aj,↓aE,↓aD,↓aC,↓aB,lv,li,d1,d2,E3]
 refine c42.use fun n1 hn1=>?_
 cases hq:oG b.terms with
 | true=>simp -implicitDefEqProofs only [RA,ae,zp,↓reduceIte,reduceCtorEq,zq,zr,zs,zt,R20,E2]
 | false =>
 rcases ai ((b.func.length:Int) > 200) with ⟨c3,d3⟩|⟨c3,d3⟩
 ·simp -implicitDefEqProofs only [RA,ae,zp,↓reduceIte,reduceCtorEq,zq,zr,zs,zt,d3,R20,E3,E2]
 simp -implicitDefEqProofs only [RA,ae,zp,↓reduceIte,reduceCtorEq,zq,zr,zs,zt,d3,E3]
 generalize hC:([iK b.steps,.int .u8 b.kind,.str b.func,br b.terms,cL b.to]:List AV)=C
 refine aJ (fun q st=>∃ i:Nat,q=b.steps.length-i∧i≤b.steps.length∧(b.steps.drop i).any grS=b.steps.any grS∧ah st.env 1=some (.op nx 0)∧ah st.env 3=some (.int .i64 i)∧ay st.heap nx=some (.cells C)∧nx<st.nx∧st.dm=[]) (n:=b.steps.length) aI
  ⟨0,rfl,by omega,by simp,by simp [ah],by simp [ah],by simp [ay],by simp only;omega,rfl⟩ ?_
 rintro q ⟨env,heap,nx',dm⟩ ⟨i,rfl,hi,hf,g1,g3,gx,hlt,hdm⟩
 simp only at g1 g3 gx hlt hdm
 subst hdm;subst hC
 have f1:=wS (i:=i) (by omega)
 by_cases hc:(i:Int)<(b.steps.length:Int)
 case neg =>
  rw [Ed (by omega),List.any_nil] at hf
  rw [← hf]
  simp -implicitDefEqProofs only [RA,ae,zp,↓reduceIte,reduceCtorEq,zq,zr,zs,zt,wM,qN,g1,g3,gx,lv,hc,R20]
 have hr:=D9 (show i<b.steps.length by omega)
 generalize b.steps[i]=r at hr
 have ix:=kh hr
 have hm:=nV (Ea hr)
 rw [fS hr,grS] at hf
 unfold szS at hm
 have c42':=w42 r.terms (by omega)
 rw [kA] at ix
 have a1:(nx'=nx)=False:=eq_false (by omega)
 simp -implicitDefEqProofs only [RA,ae,zp,↓reduceIte,reduceCtorEq,zq,zr,zs,zt,wM,qN,g1,g3,gx,lv,hc,ix,↓ak,↓aj,a1]
 refine c42'.use fun n2 hn2=>?_
 cases hq2:oG r.terms with
 | true =>
  rw [hq2,E2,E2] at hf
  rw [← hf]
  simp -implicitDefEqProofs only [RA,ae,zp,↓reduceIte,reduceCtorEq,zq,zr,zs,zt,R20]
 | false =>
 rw [hq2,E3] at hf
 rcases ai ((r.var.length:Int) > 200) with ⟨c4,d4⟩|⟨c4,d4⟩
 ·rw [decide_eq_true c4,E2,E2] at hf
  rw [← hf]
  simp -implicitDefEqProofs only [RA,ae,zp,↓reduceIte,reduceCtorEq,zq,zr,zs,zt,d4,R20]
 rcases ai ((r.func.length:Int) > 200) with ⟨c5,d5⟩|⟨c5,d5⟩
 ·rw [decide_eq_true c5,E4,E2] at hf
  rw [← hf]
  simp -implicitDefEqProofs only [RA,ae,zp,↓reduceIte,reduceCtorEq,zq,zr,zs,zt,d4,d5,R20]
 ·rw [decide_eq_false c4,decide_eq_false c5,E3,E3] at hf
  simp -implicitDefEqProofs only [RA,ae,zp,↓reduceIte,reduceCtorEq,zq,zr,zs,zt,d4,d5,g1,g3,gx,a1,f1]
  exact ⟨b.steps.length-(i+1),by omega,i+1,rfl,by omega,hf,rfl,by omega⟩
theorem w43 (l:List Tm) (h:bF l≤4000000):Pure Tryd.prog 22 [br l] (.int .i64 (bF l)):=by
 refine Pure.of fun nx=>AC.go aI is43 (by simp) ?_
 have hl:=cq l
 have lv:=bN l
 simp -implicitDefEqProofs only [RA,ae,zp,↓reduceIte,reduceCtorEq,zq,zr,zs,zt,A43,Dp]
 refine aJ (fun q st=>∃ i:Nat,q=l.length-i∧i≤l.length∧ah st.env 0=some (br l)∧ah st.env 3=some (.int .i64 (bF (l.take i)))∧ah st.env 4=some (.int .i64 i)∧st.dm=[]) (n:=l.length) aI
  ⟨0,rfl,by omega,by simp [ah],by simp [ah,bF],by simp [ah],rfl⟩ ?_
 rintro q ⟨env,heap,nx',dm⟩ ⟨i,rfl,hi,g0,g3,g4,hdm⟩
 simp only at g0 g3 g4 hdm
 subst hdm
 have f1:=wS (i:=i) (by omega)
 by_cases hc:(i:Int)<(l.length:Int)
 case neg =>
  rw [Ec (by omega)] at g3
  simp -implicitDefEqProofs only [RA,ae,zp,↓reduceIte,reduceCtorEq,zq,zr,zs,zt,wu,qz,g0,g3,g4,lv,hc,R43]
 have hr:=D9 (show i<l.length by omega)
 generalize l[i]=r at hr
 have ix:=bg hr
 have hm:=cp (Ea hr)
 have ht:=lJ hr
 have hle:=mA l (i+1)
 have f2:IntKind.i64.wrap ((bF (l.take i):Int)+(szT r:Int))=((bF (l.take (i+1)):Nat):Int):=by rw [w64 (by omega) (by omega)];omega
 simp -implicitDefEqProofs only [RA,ae,zp,↓reduceIte,reduceCtorEq,zq,zr,zs,zt,wu,qz,g0,g3,g4,lv,hc,ix,bc,aV]
 refine (w61 4000000 r (by omega) (E5 _)).use fun n1 hn1=>?_
 simp -implicitDefEqProofs only [RA,ae,zp,↓reduceIte,reduceCtorEq,zq,zr,zs,zt,g0,g3,g4,f1,f2]
 exact ⟨l.length-(i+1),by omega,i+1,rfl,by omega,rfl,rfl⟩
def bu {α:Type} (f:α→Nat):List α→Nat
 | []=>0
 | x::r=>f x+bu f r
theorem kz {α:Type} (f:α→Nat):∀ (a b:List α),bu f (a++b)=bu f a+bu f b
 | [],b=>by simp [bu]
 | x::a,b=>by simp only [EH,bu,kz f a b];omega
theorem jB {α:Type} {f:α→Nat} {l:List α} {i:Nat} {r:α} (h:l[i]?=some r):bu f (l.take (i+1))=bu f (l.take i)+f r:=by
 rw [aO h,kz];simp [bu]
theorem mD {α:Type} (f:α→Nat) (l:List α) (i:Nat):bu f (l.take i)≤bu f l:=by
 have:=kz f (l.take i) (l.drop i)
 rw [List.take_append_drop] at this;omega
theorem fL {α:Type} {f:α→Nat}:∀ {l:List α} {x:α},x∈l→f x≤bu f l
 | [],x,h=>by simp at h
 | y::r,x,h=>by
  simp only [bu]
  rcases En.1 h with rfl|h
  ·omega
  ·have:=fL (f:=f) h;omega
theorem fM {α:Type} {f:α→Nat} (h:∀ x,1≤f x):∀ l:List α,l.length≤bu f l
 | []=>by simp
 | x::r=>by have:=fM h r;have:=h x;simp only [Ee,bu];omega
theorem iZ:∀ l:List St,mB l=bu szS l
 | []=>rfl
 | x::r=>by simp only [mB,bu,iZ r]
def szF (f:Fn):Nat:=f.params.length+f.locals.length+bu szB f.blocks+1
def szI (p:Pi):Nat:=bu szF p
def wtB (b:Bk):Nat:=1+bF b.terms+bu szS b.steps
def wtF (f:Fn):Nat:=bu wtB f.blocks
def wtI (p:Pi):Nat:=bu wtF p
theorem tP (b:Bk):wtB b≤szB b:=by simp only [wtB,szB,iZ];omega
theorem mC {α:Type} {f g:α→Nat} (h:∀ x,f x≤g x):∀ l:List α,bu f l≤bu g l
 | []=>E5 _
 | x::r=>by have:=mC h r;have:=h x;simp only [bu];omega
theorem zI (f:Fn):wtF f≤szF f:=by have:=mC tP f.blocks;simp only [wtF,szF];omega
theorem w21 (p:Pi) (h:szI p≤4000000):Pure Tryd.prog 10 [.agg (piE p)] (.int .i64 (wtI p)):=by
 refine Pure.of fun nx=>AC.go aI is21 (by simp) ?_
 have hl:=fM (f:=szF) (fun f=>by simp only [szF];omega) p
 have hw:=mC zI p
 have lv:=dI p
 unfold szI at h
 simp -implicitDefEqProofs only [RA,ae,zp,↓reduceIte,reduceCtorEq,zq,zr,zs,zt,A21,Dz,piE,↓az,↓aA]
 refine aJ (fun q st=>∃ i:Nat,q=p.length-i∧i≤p.length∧ah st.env 1=some (.op nx 0)∧ah st.env 3=some (.int .i64 (bu wtF (p.take i)))∧ah st.env 4=some (.int .i64 i)∧ay st.heap nx=some (.cells [cr p])∧nx<st.nx∧st.dm=[]) (n:=p.length) aI
  ⟨0,rfl,by omega,by simp [ah],by simp [ah,bu],by simp [ah],by simp [ay],by simp,rfl⟩ ?_
 rintro q ⟨env,heap,nx',dm⟩ ⟨i,rfl,hi,g1,g3,g4,gx,hlt,hdm⟩
 simp only at g1 g3 g4 gx hlt hdm
 subst hdm
 have f1:=wS (i:=i) (by omega)
 by_cases hc:(i:Int)<(p.length:Int)
 case neg =>
  rw [Ec (by omega)] at g3
  simp -implicitDefEqProofs only [RA,ae,zp,↓reduceIte,reduceCtorEq,zq,zr,zs,zt,wI,qI,g1,g3,g4,gx,lv,hc,R21]
  rfl
 have hr:=D9 (show i<p.length by omega)
 generalize p[i]=f at hr
 have ix:=du hr
 have hmf:=fL (f:=szF) (Ea hr)
 have ht:=jB (f:=wtF) hr
 have hle:=mD wtF p (i+1)
 rw [bK] at ix
 have lb:=ec f.blocks
 have hsf:szF f=f.params.length+f.locals.length+bu szB f.blocks+1:=rfl
 have hlb:=fM (f:=szB) (fun f=>by simp only [szB];omega) f.blocks
 have hwb:=mC tP f.blocks
 simp -implicitDefEqProofs only [RA,ae,zp,↓reduceIte,reduceCtorEq,zq,zr,zs,zt,wI,qI,g1,g3,g4,gx,lv,hc]
 refine aJ (fun q st=>∃ j:Nat,q=f.blocks.length-j∧j≤f.blocks.length∧ah st.env 1=some (.op nx 0)∧ah st.env 3=some (.int .i64 ((bu wtF (p.take i)+bu wtB (f.blocks.take j):Nat):Int))∧ah st.env 4=some (.int .i64 i)∧ah st.env 5=some (.int .i64 j)∧ay st.heap nx=some (.cells [cr p])∧nx<st.nx∧st.dm=[]) (n:=f.blocks.length) aI
  ⟨0,rfl,by omega,by simp [ah,g1],by simp [ah,g3,bu],by simp [ah,g4],by simp [ah],gx,hlt,rfl⟩ ?_
 clear g1 g3 g4 gx hlt
 rintro q ⟨env,heap,nx2,dm⟩ ⟨j,rfl,hj,g1,g3,g4,g5,gx,hlt,hdm⟩
 simp only at g1 g3 g4 g5 gx hlt hdm
 subst hdm
 have f2:=wS (i:=j) (by omega)
 by_cases hd:(j:Int)<(f.blocks.length:Int)
 case neg =>
  rw [show f.blocks.take j=f.blocks from Ec (by omega)] at g3
  have e:bu wtF (p.take i)+bu wtB f.blocks=bu wtF (p.take (i+1)):=by rw [ht];rfl
  rw [e] at g3
  simp -implicitDefEqProofs only [RA,ae,zp,↓reduceIte,reduceCtorEq,zq,zr,zs,zt,wJ,qJ,g1,g3,g4,g5,gx,ix,lb,hd,f1]
  exact ⟨p.length-(i+1),by omega,i+1,rfl,by omega,rfl,rfl,hlt⟩
 have hr2:=D9 (show j<f.blocks.length by omega)
 generalize f.blocks[j]=b at hr2
 have iy:=fE hr2
 have hmb:=fL (f:=szB) (Ea hr2)
 have ht2:=jB (f:=wtB) hr2
 have hle2:=mD wtB f.blocks (j+1)
 rw [jv] at iy
 have ls:=iA b.steps
 have hws:wtB b=1+bF b.terms+bu szS b.steps:=rfl
 have hsb:szB b=mB b.steps+bF b.terms+b.to.length+1:=rfl
 rw [iZ] at hsb
 have hls:=fM (f:=szS) (fun f=>by simp only [szS];omega) b.steps
 have a1:(nx2=nx)=False:=eq_false (by omega)
 have f3:IntKind.i64.wrap (((bu wtF (p.take i)+bu wtB (f.blocks.take j):Nat):Int)+1)=((bu wtF (p.take i)+bu wtB (f.blocks.take j)+1:Nat):Int):=by rw [w64 (by omega) (by omega)];omega
 have f4:IntKind.i64.wrap (((bu wtF (p.take i)+bu wtB (f.blocks.take j)+1:Nat):Int)+(bF b.terms:Int))=((bu wtF (p.take i)+bu wtB (f.blocks.take j)+1+bF b.terms:Nat):Int):=by rw [w64 (by omega) (by omega)];omega
 simp -implicitDefEqProofs only [RA,ae,zp,↓reduceIte,reduceCtorEq,zq,zr,zs,zt,wJ,qJ,g1,g3,g4,g5,gx,ix,lb,hd,iy,a1,f3,↓ak,↓aj,↓aE,↓aD,↓aC,↓aB]
 refine (w43 b.terms (by omega)).use fun n1 hn1=>?_
 have a2:(nx2=nx)=False:=a1
 simp -implicitDefEqProofs only [RA,ae,zp,↓reduceIte,reduceCtorEq,zq,zr,zs,zt,g1,g4,g5,gx,a1,f4]
 refine aJ (fun q st=>∃ k:Nat,q=b.steps.length-k∧k≤b.steps.length∧ah st.env 1=some (.op nx 0)∧ah st.env 3=some (.int .i64 ((bu wtF (p.take i)+bu wtB (f.blocks.take j)+1+bF b.terms+bu szS (b.steps.take k):Nat):Int))∧ah st.env 4=some (.int .i64 i)∧ah st.env 5=some (.int .i64 j)∧ah st.env 6=some (.op nx2 0)∧ah st.env 7=some (.int .i64 k)∧ay st.heap nx=some (.cells [cr p])∧ay st.heap nx2=some (.cells [iK b.steps,.int .u8 b.kind,.str b.func,br b.terms,cL b.to])∧nx2<st.nx∧st.dm=[]) (n:=b.steps.length) aI
  ⟨0,rfl,by omega,by simp [ah,g1],by simp [ah,bu],by simp [ah,g4],by simp [ah,g5],by simp [ah],by simp [ah],by simp [af,a1,gx],by simp [af],by simp only;omega,rfl⟩ ?_
 clear g1 g3 g4 g5 gx
 rintro q ⟨env,heap,nx3,dm⟩ ⟨k,rfl,hk,g1,g3,g4,g5,g6,g7,gx,gy,hlt3,hdm⟩
 simp only at g1 g3 g4 g5 g6 g7 gx gy hlt3 hdm
 subst hdm
 have f5:=wS (i:=k) (by omega)
 by_cases he:(k:Int)<(b.steps.length:Int)
 case neg =>
  rw [show b.steps.take k=b.steps from Ec (by omega)] at g3
  have e:bu wtF (p.take i)+bu wtB (f.blocks.take j)+1+bF b.terms+bu szS b.steps=bu wtF (p.take i)+bu wtB (f.blocks.take (j+1)):=by omega
  rw [e] at g3
  simp -implicitDefEqProofs only [RA,ae,zp,↓reduceIte,reduceCtorEq,zq,zr,zs,zt,wK,qK,g1,g3,g4,g5,g6,g7,gx,gy,ls,he,f2]
  exact ⟨f.blocks.length-(j+1),by omega,j+1,rfl,by omega,rfl,rfl,by omega⟩
 have hr3:=D9 (show k<b.steps.length by omega)
 generalize b.steps[k]=s at hr3
 have iz:=kh hr3
 have hms:=fL (f:=szS) (Ea hr3)
 have ht3:=jB (f:=szS) hr3
 have hle3:=mD szS b.steps (k+1)
 have hsz:szS s=bF s.terms+1:=rfl
 rw [kA] at iz
 have f6:IntKind.i64.wrap (((bu wtF (p.take i)+bu wtB (f.blocks.take j)+1+bF b.terms+bu szS (b.steps.take k):Nat):Int)+1)=((bu wtF (p.take i)+bu wtB (f.blocks.take j)+1+bF b.terms+bu szS (b.steps.take k)+1:Nat):Int):=by rw [w64 (by omega) (by omega)];omega
 have f7:IntKind.i64.wrap (((bu wtF (p.take i)+bu wtB (f.blocks.take j)+1+bF b.terms+bu szS (b.steps.take k)+1:Nat):Int)+(bF s.terms:Int))=((bu wtF (p.take i)+bu wtB (f.blocks.take j)+1+bF b.terms+bu szS (b.steps.take (k+1)):Nat):Int):=by rw [w64 (by omega) (by omega)];omega
 simp -implicitDefEqProofs only [RA,ae,zp,↓reduceIte,reduceCtorEq,zq,zr,zs,zt,wK,qK,g1,g3,g4,g5,g6,g7,gx,gy,ls,he,iz,f6]
 refine (w43 s.terms (by omega)).use fun n2 hn2=>?_
 simp -implicitDefEqProofs only [RA,ae,zp,↓reduceIte,reduceCtorEq,zq,zr,zs,zt,g1,g4,g5,g6,g7,gx,gy,f5,f7]
 exact ⟨b.steps.length-(k+1),by omega,k+1,rfl,by omega,rfl,rfl,by omega⟩
theorem w19 (f:Fn) (h1:f.params.length≤4000000) (h2:f.locals.length≤4000000):Pure Tryd.prog 8 [.agg (fnE f)] (bj (f.params++f.locals)):=by
 refine Pure.own (e:=40) (fU _) fun nx=>AC.go aI is19 (by simp) ?_
 have lv:=dj f.params
 have lw:=dj f.locals
 rw [bK]
 simp -implicitDefEqProofs only [RA,ae,zp,↓reduceIte,reduceCtorEq,zq,zr,zs,zt,A19,DH,↓ar,↓aq,↓aw,↓au]
 generalize hC:([.str f.name,bj f.params,.int .i64 f.result,bj f.locals,cg f.blocks]:List AV)=C
 refine aJ (fun q st=>∃ (i:Nat) (v:AV),q=f.params.length-i∧i≤f.params.length∧ah st.env 1=some (.op nx 0)∧ah st.env 3=some v∧ah st.env 4=some (.int .i64 i)∧ay st.heap nx=some (.cells C)∧aU 40 2 st.heap st.nx v ((f.params.take i).map pmE)∧(∀ b,aS v=some b→nx<b)∧nx<st.nx∧st.dm=[]) (n:=f.params.length) aI
  ⟨0,.nilS,rfl,by omega,by simp [ah],by simp [ah],by simp [ah],by simp [af],.inl ⟨rfl,by simp⟩,by simp [aS],by simp,rfl⟩ ?_
 rintro q ⟨env,heap,nx',dm⟩ ⟨i,v,rfl,hi,g1,g3,g4,gx,ov,bv,hlt,hdm⟩
 simp only at g1 g3 g4 gx ov bv hlt hdm
 subst hdm
 have f1:=wS (i:=i) (by omega)
 by_cases hc:(i:Int)<(f.params.length:Int)
 case pos =>
  have hr:=D9 (show i<f.params.length by omega)
  generalize f.params[i]=r at hr
  have ix:=fw hr
  have rl:=us r
  have rt:=rp r
  obtain ⟨v2,hp,n9,ea,ow,hn9,k9,b9⟩:=ov.grw (bytes:=24) (ns:=[pmE r]) (fU _) (by simp [pmE]) (by simp only [Eg,Eh,Ee,Ef];omega) (by simp only [Eg,Eh,Ee,Ef,maxLen];omega)
  subst hC
  simp -implicitDefEqProofs only [RA,ae,zp,↓reduceIte,reduceCtorEq,zq,zr,zs,zt,wO,qW,g1,g3,g4,gx,lv,hc,ix,rl,rt,ea,f1]
  refine ⟨f.params.length-(i+1),by omega,i+1,v2,rfl,by omega,rfl,rfl,k9 _ _ hlt gx fun e=>by have:=bv nx e;omega,?_,fun b hb=>?_,by omega⟩
  ·rw [aO hr,Em];exact ow
  ·rcases b9 b hb with h|h
   ·omega
   ·exact bv b h
 subst hC
 rw [Ec (by omega)] at ov
 simp -implicitDefEqProofs only [RA,ae,zp,↓reduceIte,reduceCtorEq,zq,zr,zs,zt,wO,qW,g1,g3,g4,gx,lv,hc]
 generalize hC:([.str f.name,bj f.params,.int .i64 f.result,bj f.locals,cg f.blocks]:List AV)=C at gx
 refine aJ (fun q st=>∃ (i:Nat) (v:AV),q=f.locals.length-i∧i≤f.locals.length∧ah st.env 1=some (.op nx 0)∧ah st.env 3=some v∧ah st.env 5=some (.int .i64 i)∧ay st.heap nx=some (.cells C)∧aU 40 2 st.heap st.nx v ((f.params++f.locals.take i).map pmE)∧(∀ b,aS v=some b→nx<b)∧nx<st.nx∧st.dm=[]) (n:=f.locals.length) aI
  ⟨0,v,rfl,by omega,by simp [ah,g1],by simp [ah,g3],by simp [ah],gx,by simpa using ov,bv,hlt,rfl⟩ ?_
 clear g1 g3 g4 gx ov bv hlt hi hc f1
 rintro q ⟨env,heap,nx',dm⟩ ⟨i,v,rfl,hi,g1,g3,g5,gx,ov,bv,hlt,hdm⟩
 simp only at g1 g3 g5 gx ov bv hlt hdm
 subst hdm;subst hC
 have f1:=wS (i:=i) (by omega)
 by_cases hc:(i:Int)<(f.locals.length:Int)
 case neg =>
  rw [Ec (by omega)] at ov
  simp -implicitDefEqProofs only [RA,ae,zp,↓reduceIte,reduceCtorEq,zq,zr,zs,zt,wN,qV,g1,g3,g5,gx,lw,hc,R19]
  exact ⟨v,rfl,ov⟩
 have hr:=D9 (show i<f.locals.length by omega)
 generalize f.locals[i]=r at hr
 have ix:=fw hr
 have rl:=us r
 have rt:=rp r
 obtain ⟨v2,hp,n9,ea,ow,hn9,k9,b9⟩:=ov.grw (bytes:=24) (ns:=[pmE r]) (fU _) (by simp [pmE]) (by simp only [Eg,El,Eh,Ee,Ef];omega) (by simp only [Eg,El,Eh,Ee,Ef,maxLen];omega)
 simp -implicitDefEqProofs only [RA,ae,zp,↓reduceIte,reduceCtorEq,zq,zr,zs,zt,wN,qV,g1,g3,g5,gx,lw,hc,ix,rl,rt,ea,f1]
 refine ⟨f.locals.length-(i+1),by omega,i+1,v2,rfl,by omega,rfl,rfl,k9 _ _ hlt gx fun e=>by have:=bv nx e;omega,?_,fun b hb=>?_,by omega⟩
 ·rw [aO hr,← List.append_assoc,Em];exact ow
 ·rcases b9 b hb with h|h
  ·omega
  ·exact bv b h
def grV (v:Pm):Bool:=decide ((v.1.length:Int) > 200)
def grF (f:Fn):Bool:=decide ((f.params.length:Int) > 50)||(decide ((f.locals.length:Int) > 50)||(decide ((f.blocks.length:Int) > 70)||(decide ((f.name.length:Int) > 200)||((f.params++f.locals).any grV||f.blocks.any grB))))
def grI (p:Pi):Bool:=decide ((p.length:Int) > 18)||(p.any grF||decide ((wtI p:Int) > 4000))
theorem w5 (p:Pi) (h:szI p≤4000000):Pure Tryd.prog 4 [.agg (piE p)] (.bool (grI p)):=by
 refine Pure.of fun nx=>AC.go aI is5 (by simp) ?_
 have hl:=fM (f:=szF) (fun f=>by simp only [szF];omega) p
 have lv:=dI p
 have c21:=w21 p h
 unfold szI at h
 unfold grI
 rcases ai ((p.length:Int) > 18) with ⟨c1,d1⟩|⟨c1,d1⟩
 ·simp -implicitDefEqProofs only [RA,ae,zp,↓reduceIte,reduceCtorEq,zq,zr,zs,zt,A5,A5p,piE,↓az,↓aA,lv,d1,R5,E2]
 simp -implicitDefEqProofs only [RA,ae,zp,↓reduceIte,reduceCtorEq,zq,zr,zs,zt,A5,A5p,piE,↓az,↓aA,lv,d1,E3]
 refine aJ (fun q st=>∃ i:Nat,q=p.length-i∧i≤p.length∧(p.drop i).any grF=p.any grF∧ah st.env 1=some (.op nx 0)∧ah st.env 3=some (.int .i64 i)∧ay st.heap nx=some (.cells [cr p])∧nx<st.nx∧st.dm=[]) (n:=p.length) aI
  ⟨0,rfl,by omega,by simp,by simp [ah],by simp [ah],by simp [ay],by simp,rfl⟩ ?_
 rintro q ⟨env,heap,nx',dm⟩ ⟨i,rfl,hi,hf,g1,g3,gx,hlt,hdm⟩
 simp only at g1 g3 gx hlt hdm
 subst hdm
 have f1:=wS (i:=i) (by omega)
 by_cases hc:(i:Int)<(p.length:Int)
 case neg =>
  rw [Ed (by omega),List.any_nil] at hf
  rw [← hf]
  rw [piE] at c21
  simp -implicitDefEqProofs only [RA,ae,zp,↓reduceIte,reduceCtorEq,zq,zr,zs,zt,qv,kZ,g1,g3,gx,lv,hc,↓az,↓aA]
  refine c21.use fun n1 hn1=>?_
  simp -implicitDefEqProofs only [RA,ae,zp,↓reduceIte,reduceCtorEq,zq,zr,zs,zt,R5,E3]
 have hr:=D9 (show i<p.length by omega)
 generalize p[i]=f at hr
 have ix:=du hr
 have hmf:=fL (f:=szF) (Ea hr)
 have hsf:szF f=f.params.length+f.locals.length+bu szB f.blocks+1:=rfl
 rw [fS hr] at hf
 have c19:=w19 f (by omega) (by omega)
 rw [bK] at ix c19
 have lb:=ec f.blocks
 have lp:=dj f.params
 have lq:=dj f.locals
 have hlb:=fM (f:=szB) (fun f=>by simp only [szB];omega) f.blocks
 have a1:(nx'=nx)=False:=eq_false (by omega)
 have bad:grF f=true→p.any grF=true:=fun e=>by rw [← hf,e,E2]
 rcases ai ((f.params.length:Int) > 50) with ⟨c2,d2⟩|⟨c2,d2⟩
 ·rw [bad (by rw [grF,decide_eq_true c2,E2])]
  simp -implicitDefEqProofs only [RA,ae,zp,↓reduceIte,reduceCtorEq,zq,zr,zs,zt,qv,kZ,g1,g3,gx,lv,hc,ix,↓ar,↓aq,↓aw,↓au,lb,lp,lq,a1,d2,R5,E2]
 rcases ai ((f.locals.length:Int) > 50) with ⟨c3,d3⟩|⟨c3,d3⟩
 ·rw [bad (by rw [grF,decide_eq_true c3,E2,E4])]
  simp -implicitDefEqProofs only [RA,ae,zp,↓reduceIte,reduceCtorEq,zq,zr,zs,zt,qv,kZ,g1,g3,gx,lv,hc,ix,↓ar,↓aq,↓aw,↓au,lb,lp,lq,a1,d2,d3,R5,E2]
 rcases ai ((f.blocks.length:Int) > 70) with ⟨c4,d4⟩|⟨c4,d4⟩
 ·rw [bad (by rw [grF,decide_eq_true c4,E2,E4,E4])]
  simp -implicitDefEqProofs only [RA,ae,zp,↓reduceIte,reduceCtorEq,zq,zr,zs,zt,qv,kZ,g1,g3,gx,lv,hc,ix,↓ar,↓aq,↓aw,↓au,lb,lp,lq,a1,d2,d3,d4,R5,E2]
 rcases ai ((f.name.length:Int) > 200) with ⟨c5,d5⟩|⟨c5,d5⟩
 ·rw [bad (by rw [grF,decide_eq_true c5,E2,E4,E4,E4])]
  simp -implicitDefEqProofs only [RA,ae,zp,↓reduceIte,reduceCtorEq,zq,zr,zs,zt,qv,kZ,g1,g3,gx,lv,hc,ix,↓ar,↓aq,↓aw,↓au,lb,lp,lq,a1,d2,d3,d4,d5,R5,E2]
 have hF:grF f=((f.params++f.locals).any grV||f.blocks.any grB):=by rw [grF,decide_eq_false c2,decide_eq_false c3,decide_eq_false c4,decide_eq_false c5];rfl
 simp -implicitDefEqProofs only [RA,ae,zp,↓reduceIte,reduceCtorEq,zq,zr,zs,zt,qv,kZ,g1,g3,gx,lv,hc,ix,↓ar,↓aq,↓aw,↓au,lb,lp,lq,a1,d2,d3,d4,d5]
 refine c19.use fun n2 hn2=>?_
 have lx:=dj (f.params++f.locals)
 generalize hX:f.params++f.locals=X at lx hF
 have hXl:X.length≤2000:=by rw [← hX,El];omega
 simp -implicitDefEqProofs only [RA,ae,zp,↓reduceIte,reduceCtorEq,zq,zr,zs,zt,g1,g3,gx,a1]
 generalize hC:([.str f.name,bj f.params,.int .i64 f.result,bj f.locals,cg f.blocks]:List AV)=C
 refine aJ (fun q st=>∃ j:Nat,q=X.length-j∧j≤X.length∧(X.drop j).any grV=X.any grV∧ah st.env 1=some (.op nx 0)∧ah st.env 3=some (.int .i64 i)∧ah st.env 4=some (.op nx' 0)∧ah st.env 5=some (bj X)∧ah st.env 6=some (.int .i64 j)∧ay st.heap nx=some (.cells [cr p])∧ay st.heap nx'=some (.cells C)∧nx'<st.nx∧st.dm=[]) (n:=X.length) aI
  ⟨0,rfl,by omega,by simp,by simp [ah,g1],by simp [ah,g3],by simp [ah],by simp [ah],by simp [ah],by simp [af,a1,gx],by simp [af],by simp only;omega,rfl⟩ ?_
 clear g1 g3 gx
 rintro q ⟨env,heap,nx2,dm⟩ ⟨j,rfl,hj,hf2,g1,g3,g4,g5,g6,gx,gy,hlt2,hdm⟩
 simp only at g1 g3 g4 g5 g6 gx gy hlt2 hdm
 subst hdm
 have f2:=wS (i:=j) (by omega)
 by_cases hd:(j:Int)<(X.length:Int)
 case pos =>
  have hr2:=D9 (show j<X.length by omega)
  generalize X[j]=v at hr2
  have iy:=fw hr2
  have re:=jF v
  rw [fS hr2] at hf2
  rcases ai ((v.1.length:Int) > 200) with ⟨c6,d6⟩|⟨c6,d6⟩
  ·have hv:grV v=true:=decide_eq_true c6
   rw [hv,E2] at hf2
   rw [bad (by rw [hF,← hf2,E2])]
   simp -implicitDefEqProofs only [RA,ae,zp,↓reduceIte,reduceCtorEq,zq,zr,zs,zt,yL,sp,g1,g3,g4,g5,g6,gx,gy,lx,hd,iy,re,d6,R5,E2]
  ·have hv:grV v=false:=decide_eq_false c6
   rw [hv,E3] at hf2
   simp -implicitDefEqProofs only [RA,ae,zp,↓reduceIte,reduceCtorEq,zq,zr,zs,zt,yL,sp,g1,g3,g4,g5,g6,gx,gy,lx,hd,iy,re,d6,f2]
   exact ⟨X.length-(j+1),by omega,j+1,rfl,by omega,hf2,rfl,hlt2⟩
 rw [Ed (by omega),List.any_nil] at hf2
 rw [← hf2,E3] at hF
 simp -implicitDefEqProofs only [RA,ae,zp,↓reduceIte,reduceCtorEq,zq,zr,zs,zt,yL,sp,g5,g6,lx,hd]
 refine aJ (fun q st=>∃ j:Nat,q=f.blocks.length-j∧j≤f.blocks.length∧(f.blocks.drop j).any grB=f.blocks.any grB∧ah st.env 1=some (.op nx 0)∧ah st.env 3=some (.int .i64 i)∧ah st.env 4=some (.op nx' 0)∧ah st.env 7=some (.int .i64 j)∧ay st.heap nx=some (.cells [cr p])∧ay st.heap nx'=some (.cells C)∧nx'<st.nx∧st.dm=[]) (n:=f.blocks.length) aI
  ⟨0,rfl,by omega,by simp,by simp [ah,g1],by simp [ah,g3],by simp [ah,g4],by simp [ah],gx,gy,hlt2,rfl⟩ ?_
 clear g1 g3 g4 g5 g6 gx gy hlt2 hd hj f2 hf2
 rintro q ⟨env,heap,nx2,dm⟩ ⟨j,rfl,hj,hf2,g1,g3,g4,g7,gx,gy,hlt2,hdm⟩
 simp only at g1 g3 g4 g7 gx gy hlt2 hdm
 subst hdm;subst hC
 have f2:=wS (i:=j) (by omega)
 by_cases hd:(j:Int)<(f.blocks.length:Int)
 case neg =>
  rw [Ed (by omega),List.any_nil] at hf2
  rw [hF,← hf2,E3] at hf
  simp -implicitDefEqProofs only [RA,ae,zp,↓reduceIte,reduceCtorEq,zq,zr,zs,zt,Be,wo,g1,g3,g4,g7,gx,gy,lb,hd,f1]
  exact ⟨p.length-(i+1),by omega,i+1,rfl,by omega,hf,rfl,by omega⟩
 have hr2:=D9 (show j<f.blocks.length by omega)
 generalize f.blocks[j]=b at hr2
 have iy:=fE hr2
 have hmb:=fL (f:=szB) (Ea hr2)
 have rl:=vG b
 have rt:=ym b
 rw [fS hr2] at hf2
 simp -implicitDefEqProofs only [RA,ae,zp,↓reduceIte,reduceCtorEq,zq,zr,zs,zt,Be,wo,g1,g3,g4,g7,gx,gy,lb,hd,iy,rl,rt]
 refine (w20 b (by omega)).use fun n3 hn3=>?_
 cases hq:grB b with
 | true =>
  rw [hq,E2] at hf2
  rw [bad (by rw [hF,← hf2])]
  simp -implicitDefEqProofs only [RA,ae,zp,↓reduceIte,reduceCtorEq,zq,zr,zs,zt,R5,E2]
 | false =>
  rw [hq,E3] at hf2
  simp -implicitDefEqProofs only [RA,ae,zp,↓reduceIte,reduceCtorEq,zq,zr,zs,zt,g1,g3,g4,g7,gx,gy,f2]
  exact ⟨f.blocks.length-(j+1),by omega,j+1,rfl,by omega,hf2,rfl,by omega⟩
mutual
def ndT:Tm→List Tm
 | .mk k w b n l s=>.mk k w b n l s::bP s
def bP:List Tm→List Tm
 | []=>[]
 | x::r=>ndT x++bP r
end
theorem eY (x:Tm):ndT x=x::bP x.sub:=by cases x;simp [ndT,Tm.sub]
theorem eZ:∀ (a b:List Tm),bP (a++b)=bP a++bP b
 | [],b=>by simp [bP]
 | x::a,b=>by simp [bP,eZ a b]
theorem mO:∀ (N:Nat) (x:Tm),szT x≤N→(ndT x).length=szT x:=by
 intro N
 induction N with
 | zero=>intro x h;have:=bW x;omega
 | succ N ih =>
  intro x h
  have h1:=bW x
  have key:∀ l:List Tm,bF l≤N→(bP l).length=bF l:=by
   intro l
   induction l with
   | nil=>intro _;simp [bP,bF]
   | cons a r ihr =>
    intro hl
    simp only [bF] at hl
    have e1:=ih a (by omega)
    have e2:=ihr (by omega)
    simp only [bP,bF,El,e1,e2]
  rw [eY,Ee,key x.sub (by omega),h1]
def VP (F:Nat→Prop) (I:List Tm→Heap→Nat→Prop) (J:Heap→Nat→Prop) (h:Heap) (nx:Nat) (pre:List Tm) (y:AE) (h':Heap) (n':Nat):Prop :=
 nx≤n'∧(∀ k o,k<nx→¬ F k→ay h k=some o→ay h' k=some o)∧((y=.ret (.bool true)∧I pre h' n')∨(y=.ret (.bool false)∧J h' n'))
theorem w105 {b:Nat} (F:Nat→Prop) (n0:Nat) (hF:∀ k,F k→k<n0) (I:List Tm→Heap→Nat→Prop) (J:Heap→Nat→Prop) (Pt:Tm→Prop) (hP:∀ x,Pt x→∀ y∈x.sub,Pt y)
  (hI:∀ pre h nx h' n',I pre h nx→n0≤nx→nx≤n'→(∀ k o,k<nx→ay h k=some o→ay h' k=some o)→I pre h' n')
  (hy:∀ pre x h nx,n0≤nx→Pt x→I pre h nx→AY Tryd.prog b [.agg (tmE x)] h nx (VP F I J h nx (pre++[x]))) :
  ∀ (N:Nat) (t:Tm),szT t≤N→N≤4000000→Pt t→∀ pre h nx,n0≤nx→I pre h nx→AC Tryd.prog 74 [.agg (tmE t),.yl b] h nx (VP F I J h nx (pre++ndT t)):=by
 intro N
 induction N with
 | zero=>intro x h;have:=bW x;omega
 | succ N ih =>
  intro t hN hN2 ht pre h nx hn0 hi
  have hsub:=hP t ht
  obtain ⟨k,w,bi,n,lo,s⟩:=t
  simp only [Tm.sub] at hsub
  refine AC.go aI B3 (by simp) ?_
  simp only [szT] at hN
  have hl:=cq s
  have lv:=bN s
  have tx:=bc (.mk k w bi n lo s)
  have tk:=aV (.mk k w bi n lo s)
  have e0:=iG k w bi n lo s
  rw [e0] at tx tk ⊢
  have kb:∀ q o,q<nx→ay h q=some o→ay ((nx,AO.cells [.int .u8 k,.int .i64 w,.int .u64 bi,.str n,.int .i64 lo,br s])::h) q=some o:=fun q o hq ho=>by rw [af,if_neg (by omega)];exact ho
  have i1:=hI pre _ _ _ _ hi hn0 (Nat.le_succ nx) kb
  have hbox:¬ F nx:=fun hf=>by have:=hF nx hf;omega
  simp -implicitDefEqProofs only [RA,ae,zp,↓reduceIte,reduceCtorEq,zq,zr,zs,zt,DZ,zD,↓ak,↓aj]
  have hyr:=hy pre (.mk k w bi n lo s) _ (nx+1) (by omega) ht i1
  rw [e0] at hyr
  refine hyr.mono ?_
  rintro y h1 n1 ⟨hn1,hk1,hd⟩
  have gb:=hk1 nx _ (by omega) hbox (by rw [af,if_pos rfl])
  have keep1:∀ q o,q<nx→¬ F q→ay h q=some o→ay h1 q=some o:=fun q o hq hf ho=>hk1 q o (by omega) hf (kb q o hq ho)
  rcases hd with ⟨rfl,hi1⟩|⟨rfl,hj⟩
  case inr =>
   simp -implicitDefEqProofs only [RA,ae,zp,↓reduceIte,reduceCtorEq,zq,zr,zs,zt,unA,yw]
   exact ⟨by omega,keep1,.inr ⟨rfl,hj⟩⟩
  simp -implicitDefEqProofs only [RA,ae,zp,↓reduceIte,reduceCtorEq,zq,zr,zs,zt,unA,gb,lv]
  refine aJ (fun q st=>∃ i:Nat,q=s.length-i∧i≤s.length∧ah st.env 1=some (.yl b)∧ah st.env 12=some (br s)∧ah st.env 13=some (.int .i64 s.length)∧ah st.env 14=some (.int .i64 i)∧n1≤st.nx∧(∀ q o,q<nx→¬ F q→ay h q=some o→ay st.heap q=some o)∧I (pre++[.mk k w bi n lo s]++bP (s.take i)) st.heap st.nx∧st.dm=[]) (n:=s.length) aI
   ⟨0,rfl,by omega,by simp [ah],by simp [ah],by simp [ah],by simp [ah],E5 _,keep1,by simpa [bP] using hi1,rfl⟩ ?_
  rintro q ⟨env,heap,nx',dm⟩ ⟨i,rfl,hii,g1,g12,g13,g14,hlt,hk,hii2,hdm⟩
  simp only at g1 g12 g13 g14 hlt hk hii2 hdm
  subst hdm
  have f1:=wS (i:=i) (by omega)
  by_cases hc:(i:Int)<(s.length:Int)
  case neg =>
   rw [show s.take i=s from Ec (by omega)] at hii2
   simp -implicitDefEqProofs only [RA,ae,zp,↓reduceIte,reduceCtorEq,zq,zr,zs,zt,q6,nJ,g1,g12,g13,g14,hc,yw]
   refine ⟨by omega,hk,.inl ⟨rfl,?_⟩⟩
   rw [ndT]
   simpa using hii2
  have hr:=D9 (show i<s.length by omega)
  generalize s[i]=r at hr
  have hmem:=Ea hr
  have hm:=cp hmem
  have ix:=bg hr
  have e1:=aY r
  have ek:∀ (X Y:AO) q o,q<nx'→ay heap q=some o→ay ((nx',X)::(nx',Y)::heap) q=some o:=fun X Y q o hq ho=>by rw [af,if_neg (by omega),af,if_neg (by omega)];exact ho
  have i2:=fun X Y=>hI _ _ _ ((nx',X)::(nx',Y)::heap) (nx'+1) hii2 (by omega) (by omega) (ek X Y)
  have ihr:=fun X Y=>ih r (by omega) (by omega) (hsub r hmem) _ ((nx',X)::(nx',Y)::heap) (nx'+1) (by omega) (i2 X Y)
  rw [e1] at ix ihr
  simp -implicitDefEqProofs only [RA,ae,zp,↓reduceIte,reduceCtorEq,zq,zr,zs,zt,q6,nJ,g1,g12,g13,g14,hc,ix,↓ak,↓aj]
  refine (ihr _ _).mono ?_
  rintro y h2 n2 ⟨hn2,hk2,hd2⟩
  have keep2:∀ q o,q<nx→¬ F q→ay h q=some o→ay h2 q=some o:=fun q o hq hf ho=>hk2 q o (by omega) hf (ek _ _ q o (by omega) (hk q o hq hf ho))
  rcases hd2 with ⟨rfl,hi3⟩|⟨rfl,hj⟩
  case inr =>
   simp -implicitDefEqProofs only [RA,ae,zp,↓reduceIte,reduceCtorEq,zq,zr,zs,zt,unA,yw]
   exact ⟨by omega,keep2,.inr ⟨rfl,hj⟩⟩
  simp -implicitDefEqProofs only [RA,ae,zp,↓reduceIte,reduceCtorEq,zq,zr,zs,zt,g1,g12,g13,g14,unA,f1]
  refine ⟨s.length-(i+1),by omega,i+1,rfl,by omega,rfl,by omega,keep2,?_⟩
  rw [aO hr,eZ]
  simpa [bP] using hi3
theorem w96 (x:Tm) (h:Heap) (nx:Nat):AC Tryd.prog 66 [.agg (tmE x)] h nx fun y h' n'=>y=.ret (.fn (.func 73) [.op nx 0])∧h'=(nx,.cells (tmE x))::h∧n'=nx+1:=by
 refine AC.go aI is96 (by simp) ?_
 rw [aY]
 simp -implicitDefEqProofs only [RA,ae,zp,↓reduceIte,reduceCtorEq,zq,zr,zs,zt,A96,CS,cn,↓ak,↓aj,R96]
def ng (gf:Nat):Prop:=∀ {b:Nat} (F:Nat→Prop) (n0:Nat) (hF:∀ k,F k→k<n0) (I:List Tm→Heap→Nat→Prop) (J:Heap→Nat→Prop) (Pt:Tm→Prop) (hP:∀ x,Pt x→∀ y∈x.sub,Pt y)
  (hI:∀ pre h nx h' n',I pre h nx→n0≤nx→nx≤n'→(∀ k o,k<nx→ay h k=some o→ay h' k=some o)→I pre h' n')
  (hy:∀ pre x h nx,n0≤nx→Pt x→I pre h nx→AY Tryd.prog b [.agg (tmE x)] h nx (VP F I J h nx (pre++[x])))
  (t:Tm) (hz:szT t≤4000000) (ht:Pt t) (c:Nat) (h:Heap) (nx:Nat) (hn0:n0≤nx) (hi:I [] h nx) (gc:ay h c=some (.cells (tmE t))) (hcn:c<nx),
  AC Tryd.prog gf [.yl b,.op c 0] h nx fun y h' n'=>y=.ret (.tup [])∧nx≤n'∧(∀ k o,k<nx→¬ F k→ay h k=some o→ay h' k=some o)∧(I (ndT t) h' n'∨J h' n')
theorem zL:ng 73:=by
 intro b F n0 hF I J Pt hP hI hy t hz ht c h nx hn0 hi gc hcn
 refine AC.go aI B4 (by simp) ?_
 have hv:=w105 F n0 hF I J Pt hP hI hy _ t (E5 _) hz ht [] h nx hn0 hi
 rw [aY] at gc hv
 simp -implicitDefEqProofs only [RA,ae,zp,↓reduceIte,reduceCtorEq,zq,zr,zs,zt,D4,zE,gc]
 refine hv.mono ?_
 rintro y h' n' ⟨h1,h2,h3⟩
 rcases h3 with ⟨rfl,h3⟩|⟨rfl,h3⟩
 ·simp -implicitDefEqProofs only [RA,ae,zp,↓reduceIte,reduceCtorEq,zq,zr,zs,zt,A2]
  exact ⟨h1,h2,.inl h3⟩
 ·simp -implicitDefEqProofs only [RA,ae,zp,↓reduceIte,reduceCtorEq,zq,zr,zs,zt,A2]
  exact ⟨h1,h2,.inr h3⟩
theorem dZ {H:Heap} {b k:Nat} {o:AO} (h:k≠b):ay (bA H b o) k=ay H k:=by rw [bG,if_neg (fun e=>h e.symm)]
theorem bq {H:Heap} {b k:Nat} (h:k≠b):ay (bQ H b) k=ay H k:=by rw [bT,if_neg (fun e=>h e.symm)]
theorem dG (rs:List RV) (Q:AE→Heap→Nat→Prop) (env:Env) (h:Heap) (n b:Nat):Ab.Fin rs Q .ret ⟨env,h,n,[b]⟩=(ay h b=some .dfd∧∃ ys,eo env (bQ h b) rs=some ys∧Q (.ret (gP ys)) (bQ h b) n):=by simp [Ab.Fin,kf,eK]
theorem iq {own:Nat→Nat→Bool} {N:Nat} {st:ASt} {Q:AX→ASt→Prop} {g:Operand} {p:Tmp} {aa ab:aF} {gf c:Nat} {t:Tm} (hgf:ng gf) (Pt:Tm→Prop) (F:Nat→Prop) (I:List Tm→Heap→Nat→Prop) (J:Option Nat→Heap→Nat→Prop)
  (B:Tm→Heap→Nat→Env→Heap→Nat→Prop)
  (hg:oev st.env g=some (.fn (.func gf) [.op c 0])) (gc:ay st.heap c=some (.cells (tmE t))) (hcn:c<st.nx) (hpN:p<N)
  (hz:szT t≤4000000) (hP:∀ x,Pt x→∀ y∈x.sub,Pt y) (ht:Pt t) (hF:∀ k,F k→k<st.nx)
  (hI:∀ pre h nx h' n',I pre h nx→st.nx+2≤nx→nx≤n'→(∀ k o,k<nx→k≠st.nx+1→ay h k=some o→ay h' k=some o)→I pre h' n')
  (hJ:∀ j h nx h',J j h nx→(∀ k o,k<nx→k≠st.nx+1→ay h k=some o→ay h' k=some o)→J j h' nx)
  (h0:I [] st.heap st.nx)
  (h00:∀ h' n',I [] st.heap st.nx→st.nx≤n'→(∀ k o,k<st.nx→ay st.heap k=some o→ay h' k=some o)→I [] h' n')
  (hA:∀ x h nx l,st.nx+2≤nx→AW Tryd.prog own (some l) N aa (fun y s=>y=.normal∧s.dm=[]∧nx≤s.nx∧(∀ k o,k<nx→ay h k=some o→ay s.heap k=some o)∧B x h nx s.env s.heap s.nx) { env:=(p,.agg (tmE x))::st.env,heap:=h,nx:=nx })
  (hBd:∀ pre x h0 nx0 env h nx l,Pt x→st.nx+2≤nx0→nx0≤nx→I pre h nx→(∃ h1,B x h0 nx0 env h1 nx∧(∀ k o,k<nx→k≠st.nx+1→ay h1 k=some o→ay h k=some o)) →
   AW Tryd.prog own (some l) N ab (fun y s=>s.dm=[]∧nx≤s.nx∧(∀ k o,k<nx→¬ F k→ay h k=some o→ay s.heap k=some o) ∧
    ((y=.normal∧I (pre++[x]) s.heap s.nx)∨(y=.ret∧J none s.heap s.nx)∨∃ k,y=.exit k∧J (some k) s.heap s.nx)) { env:=env,heap:=h,nx:=nx })
  (hQ:∀ h' n',st.nx+2≤n'→(∀ k o,k<st.nx→¬ F k→ay st.heap k=some o→ay h' k=some o)→ay h' st.nx=some .dfd→(I (ndT t) h' n'→Q .normal { st with heap:=h',nx:=n',dm:=st.nx::st.dm })∧∀ j,J j h' n'→Q (pJ j) { st with heap:=h',nx:=n',dm:=st.nx::st.dm }) :
  AW Tryd.prog own none N (.rangeF g #[p] aa ab) Q st:=by
 refine mt (gf:=gf) (caps:=[.op c 0]) hg fun fn cs bd has hbd=>?_
 obtain ⟨b,hb⟩:∃ b,b=st.nx+1:=⟨_,rfl⟩
 have hnb:∀ k,k<st.nx→k≠b:=fun k hk=>by omega
 obtain ⟨L,hL⟩:∃ L,L=AO.loop false fn N st.env #[p] cs bd st.nx:=⟨_,rfl⟩
 rw [← hb] at hI hJ hBd ⊢
 rw [← hL]
 refine (hgf (b:=b) (fun k=>F k∨k=b) (st.nx+2) (fun k hk=>by rcases hk with hk|hk;have:=hF k hk;omega;omega)
  (fun pre h n=>ay h b=some L∧I pre h n) (fun h n=>∃ j,ay h b=some (.left j)∧J j h n) Pt hP ?_ ?_ t hz ht c _ _ (E5 _) ?_ ?_ (by omega)).mono ?_
 ·rintro pre h nx h' n' ⟨i1,i2⟩ hn hn' hk
  exact ⟨hk _ _ (by omega) i1,hI _ _ _ _ _ i2 hn hn' fun k o h1 _ h2=>hk k o h1 h2⟩
 ·rintro pre x h nx hn hx ⟨i1,i2⟩
  refine pa has hbd (by rw [← hL];exact i1) rfl (by simpa using hpN) fun l=>?_
  refine AW.mono (hA x h nx l hn) ?_
  rintro y ⟨e1,h1,n1,d1⟩ ⟨rfl,hd1,hn1,hk1,hB⟩
  simp only at hd1 hn1 hk1 hB
  subst hd1
  refine ⟨rfl,rfl,by rw [← hL];exact hk1 _ _ (by omega) i1,?_⟩
  have hi2:I pre (bA h1 b (.loop true fn N st.env #[p] cs bd st.nx)) n1:=hI _ _ _ _ _ i2 hn hn1 fun k o h1 h2 h3=>by
   rw [dZ h2];exact hk1 _ _ h1 h3
  have hgb:ay (bA h1 b (.loop true fn N st.env #[p] cs bd st.nx)) b=some (.loop true fn N st.env #[p] cs bd st.nx):=by rw [bG,if_pos rfl]
  refine AW.mono (hBd pre x h nx e1 _ n1 l hx hn hn1 hi2 ⟨h1,hB,fun k o h1 h2 h3=>by rw [dZ h2];exact h3⟩) ?_
  rintro y2 ⟨e2,h2,n2,d2⟩ ⟨hd2,hn2,hk2,hd⟩
  simp only at hd2 hn2 hk2 hd
  subst hd2
  have hFb:¬ F b:=fun h=>by have:=hF _ h;omega
  have hb2:=hk2 b _ (by omega) hFb hgb
  have hkk:∀ X k o,k<nx→¬ (F k∨k=b)→ay h k=some o→ay (bA h2 b X) k=some o:=fun X k o h1 h3 h4=>by
   rw [dZ (fun h=>h3 (.inr h))]
   refine hk2 _ _ (by omega) (fun h=>h3 (.inl h)) ?_
   rw [dZ (fun h=>h3 (.inr h))]
   exact hk1 _ _ h1 h4
  have hI2:∀ q X,I q h2 n2→I q (bA h2 b X) n2:=fun q X h=>hI _ _ _ _ _ h (by omega) (E5 _) fun k o h1 h3 h4=>by
   rw [dZ h3];exact h4
  have hJ2:∀ q X,J q h2 n2→J q (bA h2 b X) n2:=fun q X h=>hJ _ _ _ _ h fun k o h1 h3 h4=>by
   rw [dZ h3];exact h4
  rcases hd with ⟨rfl,hi⟩|⟨rfl,hj⟩|⟨k,rfl,hj⟩
  ·refine ⟨by simp,rfl,hb2,E7 hn1 hn2,hkk _,.inl ⟨rfl,?_,hI2 _ _ hi⟩⟩
   rw [bG,if_pos rfl,hL];rfl
  ·refine ⟨by simp,rfl,hb2,E7 hn1 hn2,hkk _,.inr ⟨rfl,none,?_,hJ2 _ _ hj⟩⟩
   rw [bG,if_pos rfl];rfl
  ·refine ⟨by simp,rfl,hb2,E7 hn1 hn2,hkk _,.inr ⟨rfl,some k,?_,hJ2 _ _ hj⟩⟩
   rw [bG,if_pos rfl];rfl
 ·refine ⟨by rw [af,if_pos rfl],h00 _ _ h0 (by omega) fun k o h1 h2=>?_⟩
  rw [af,if_neg (by omega),af,if_neg (by omega)];exact h2
 ·rw [af,if_neg (by omega),af,if_neg (by omega)];exact gc
 ·rintro y h' n' ⟨rfl,hn,hk,hd⟩
  have hk2:∀ k o,k<st.nx→¬ F k→ay st.heap k=some o→ay (bQ h' b) k=some o:=fun k o h1 h2 h3=>by
   rw [bq (hnb k h1)]
   refine hk k o (by omega) (fun h=>by rcases h with h|h;exact h2 h;exact hnb k h1 h) ?_
   rw [af,if_neg (by omega),af,if_neg (by omega)];exact h3
  have hdf:ay (bQ h' b) st.nx=some .dfd:=by
   rw [bq (by omega)]
   refine hk _ _ (by omega) (fun h=>by rcases h with h|h;have:=hF _ h;omega;omega) ?_
   rw [af,if_neg (by omega),af,if_pos rfl]
  obtain ⟨q1,q2⟩:=hQ _ n' (by omega) hk2 hdf
  refine ⟨⟨_,rfl⟩,?_⟩
  rcases hd with ⟨i1,i2⟩|⟨j,i1,i2⟩
  ·exact .inl ⟨i1,q1 (hI _ _ _ _ _ i2 (by omega) (E5 _) fun k o h1 h2 h3=>by rw [bq h2];exact h3)⟩
  ·exact .inr ⟨j,i1,q2 j (hJ _ _ _ _ i2 fun k o h1 h2 h3=>by rw [bq h2];exact h3)⟩
theorem w94 (x:Tm) (hz:szT x≤4000000):Pure Tryd.prog 64 [.agg (tmE x)] (.int .i64 (szT x)):=by
 refine Pure.of fun nx=>AC.go aI is94 (by simp) ?_
 have e0:=aY x
 have tl:=bc x
 have tk:=aV x
 have n1:(nx+1=nx)=False:=eq_false (by omega)
 rw [e0] at tl tk ⊢
 simp -implicitDefEqProofs only [RA,ae,zp,↓reduceIte,reduceCtorEq,zq,zr,zs,zt,A94,CU,↓ak,↓aj,n1]
 have w:=w96 x ((nx+1,.cells [.int .i64 0])::(nx+1,.cells [.int .i64 0])::[(nx,.cells [.int .u8 x.kind,.int .i64 x.width,.int .u64 x.bits,.str x.name,.int .i64 x.low,br x.sub])]) (nx+1+1)
 rw [e0] at w
 refine w.mono ?_
 rintro y h n ⟨rfl,rfl,rfl⟩
 simp -implicitDefEqProofs only [RA,ae,zp,↓reduceIte,reduceCtorEq,zq,zr,zs,zt,cN]
 refine iq (c:=nx+1+1) (t:=x) zL (fun _=>True) (fun k=>k=nx+1) (fun pre h n=>∃ m:Int,ay h (nx+1)=some (.cells [.int .i64 m])∧(pre.length≤4000000→m=pre.length)) (fun _ _ _=>False)
  (fun x h' n' env h'' n''=>ah env 3=some (.op (nx+1) 0)) (by simp [oev,ah,cn]) (by rw [af,if_pos rfl,e0]) (by simp only;omega) (by decide) hz (fun _ _ _ _=>trivial) trivial (fun k hk=>by simp only;omega)
  (fun pre h n h' n' hi hn hn' hk=>by
   obtain ⟨m,h1,h2⟩:=hi
   exact ⟨m,hk _ _ (by simp only at hn;omega) (by simp only;omega) h1,h2⟩)
  (fun _ _ _ _ h _=>h.elim) ⟨0,by simp [ay],fun _=>rfl⟩
  (fun h' n' hi hn hk=>by
   obtain ⟨m,h1,h2⟩:=hi
   exact ⟨m,hk _ _ (by simp only;omega) h1,h2⟩)
  ?_ ?_ ?_
 ·intro x h n l hn
  refine dH aI ?_
  simp -implicitDefEqProofs only [RA,ae,zp,↓reduceIte,reduceCtorEq,zq,zr,zs,zt,zb,v3]
  exact fun _ _ _ h=>h
 ·rintro pre x h0 nx0 env h n l-hn0 hn ⟨m,h1,h2⟩ ⟨_,g3,_⟩
  refine dH aI ?_
  simp only at hn0
  simp -implicitDefEqProofs only [RA,ae,zp,↓reduceIte,reduceCtorEq,zq,zr,zs,zt,za,vZ,g3,h1]
  refine ⟨fun k o hk hF ho=>?_,.inl ⟨_,rfl,fun hl=>?_⟩⟩
  ·rw [if_neg (fun h=>hF h.symm)];exact ho
  ·simp only [El,List.length_singleton] at hl ⊢
   rw [h2 (by omega),w64 (by omega) (by omega)];omega
 ·intro h' n' hn hk hdf
  refine ⟨?_,fun j hj=>hj.elim⟩
  rintro ⟨m,h1,h2⟩
  rw [mO _ x (E5 _)] at h2
  simp only at hdf
  simp -implicitDefEqProofs only [RA,ae,zp,↓reduceIte,reduceCtorEq,zq,zr,zs,zt,h1,h2 hz,hdf,R94,dG]
def shA (k:Int):Int:=if k<3 then 0 else if k<5 then 1 else if k<19 then 2 else if k=19 then 3 else if k=20 then 2 else 1
def shW (k:Int):Int:=if k<3 then 0 else if k<16 then 1 else if k<19 then 2 else if k=19 then 3 else if k=20 then 4 else if k=21 then 5 else if k<24 then 6 else 7
def GT:List AV:=(GL 0).getD []
theorem gl0:GL 0=some GT:=rfl
theorem Ai (k:Int) (h0:0≤k) (h1:k≤24):∃ (nm:Nm) (r:List AV),GT.drop (k.toNat*3)=.str nm::.int .i64 (shA k)::.int .i64 (shW k)::r:=by
 have:k=0∨k=1∨k=2∨k=3∨k=4∨k=5∨k=6∨k=7∨k=8∨k=9∨k=10∨k=11∨k=12∨k=13∨k=14∨k=15∨k=16∨k=17∨k=18∨k=19∨k=20∨k=21∨k=22∨k=23∨k=24:=by omega
 rcases this with h|h|h|h|h|h|h|h|h|h|h|h|h|h|h|h|h|h|h|h|h|h|h|h|h <;> subst h <;> exact ⟨_,_,rfl⟩
theorem w107 (k:Int) (h0:0≤k):∃ (nm:Nm) (a c:Int),Pure Tryd.prog 76 [.int .u8 k] (.tup [.agg [.str nm,.int .i64 a,.int .i64 c],.bool (decide (3≤k)&&decide (k≤24))])∧(3≤k→k≤24→a=shA k∧c=shW k):=by
 rcases ai ((24:Int)<k) with ⟨c1,d1⟩|⟨c1,d1⟩
 ·refine ⟨[],0,0,Pure.of fun nx=>AC.go aI yS (by simp) ?_,fun _ h=>by omega⟩
  have e2:decide (k≤24)=false:=decide_eq_false (by omega)
  simp -implicitDefEqProofs only [RA,ae,zp,↓reduceIte,reduceCtorEq,zq,zr,zs,zt,Bm,wW,d1,e2,Bool.and_false,A0]
 ·obtain ⟨nm,r,hr⟩:=Ai k h0 (by omega)
  refine ⟨nm,shA k,shW k,Pure.of fun nx=>AC.go aI yS (by simp) ?_,fun _ _=>⟨rfl,rfl⟩⟩
  have e2:decide (k≤24)=true:=decide_eq_true (by omega)
  have z1:(0≤k)=True:=eq_true h0
  have z2:(k<((25:Nat):Int))=True:=eq_true (by omega)
  have e3:decide ((0:Int)<shA k)=decide (3≤k):=by
   unfold shA
   by_cases h:k<3
   ·rw [if_pos h,decide_eq_false (by omega),decide_eq_false (by omega)]
   ·rw [if_neg h,decide_eq_true (p:=3≤k) (by omega)]
    refine decide_eq_true ?_
    repeat' split
    all_goals omega
  have h255:(3≤r.length+3)=True:=eq_true (by omega)
  simp -implicitDefEqProofs only [RA,ae,zp,↓reduceIte,reduceCtorEq,zq,zr,zs,zt,Bm,wW,d1,e2,e3,Bool.and_true,gl0,hr,z1,z2,A0]
theorem w118 (a:Tm) (b:Nat) (w:Int) (h:Heap) (nx:Nat) (hb:ay h b=some (.cells [.int .i64 w])) (hlt:b<nx):AC Tryd.prog 87 [.agg (tmE a),.op b 0] h nx fun y h' n'=>y=.ret (.bool (decide (a.width≠w)))∧nx≤n'∧∀ k o,k<nx→ay h k=some o→ay h' k=some o:=by
 refine AC.go aI BQ (by simp) ?_
 have n1:(nx=b)=False:=eq_false (by omega)
 rw [aY]
 simp -implicitDefEqProofs only [RA,ae,zp,↓reduceIte,reduceCtorEq,zq,zr,zs,zt,DP,zv,↓ak,↓aj,hb,n1,CI]
 refine ⟨by simp,by omega,fun k o hk ho=>?_⟩
 rw [if_neg (by omega)];exact ho
def kQ (w:Int) (s:List Tm):Bool:=s.any fun a=>decide (a.width≠w)
theorem w122 (s:List Tm) (hs:s.length≤100000000) (b:Nat) (w:Int) (h:Heap) (nx:Nat) (hb:ay h b=some (.cells [.int .i64 w])) (hlt:b<nx) :
  AC Tryd.prog 93 [br s,.fn (.func 87) [.op b 0]] h nx fun y h' n'=>∃ v:Int,y=.ret (.int .i64 v)∧decide (0≤v)=kQ w s∧nx≤n'∧∀ k o,k<nx→ay h k=some o→ay h' k=some o:=by
 refine AC.go aI BM (by simp) ?_
 have lv:=bN s
 simp -implicitDefEqProofs only [RA,ae,zp,↓reduceIte,reduceCtorEq,zq,zr,zs,zt,DM,zm,lv]
 refine aJ (fun q st=>∃ i:Nat,q=s.length-i∧i≤s.length∧ah st.env 0=some (br s)∧ah st.env 1=some (.fn (.func 87) [.op b 0])∧ah st.env 7=some (.int .i64 s.length)∧ah st.env 8=some (.int .i64 i)∧nx≤st.nx∧(∀ k o,k<nx→ay h k=some o→ay st.heap k=some o)∧kQ w (s.take i)=false∧st.dm=[]) (n:=s.length) aI
  ⟨0,rfl,by omega,by simp [ah],by simp [ah],by simp [ah],by simp [ah],E5 _,fun _ _ _ h=>h,by simp [kQ],rfl⟩ ?_
 rintro q ⟨env,heap,nx',dm⟩ ⟨i,rfl,hi,g0,g1,g7,g8,hn,hk,ha,hdm⟩
 simp only at g0 g1 g7 g8 hn hk ha hdm
 subst hdm
 have f1:=wS (i:=i) (by omega)
 by_cases hc:(i:Int)<(s.length:Int)
 case neg =>
  rw [show s.take i=s from Ec (by omega)] at ha
  simp -implicitDefEqProofs only [RA,ae,zp,↓reduceIte,reduceCtorEq,zq,zr,zs,zt,qZ,nH,g0,g1,g7,g8,hc,AQ]
  exact ⟨-1,rfl,by rw [ha];rfl,hn,hk⟩
 have hr:=D9 (show i<s.length by omega)
 generalize s[i]=r at hr
 have ix:=bg hr
 have rl:=bc r
 have rt:=aV r
 simp -implicitDefEqProofs only [RA,ae,zp,↓reduceIte,reduceCtorEq,zq,zr,zs,zt,qZ,nH,g0,g1,g7,g8,hc,ix,rl,rt]
 refine (w118 r b w heap nx' (hk _ _ hlt hb) (by omega)).mono ?_
 rintro y h2 n2 ⟨rfl,hn2,hk2⟩
 by_cases hw:r.width=w
 ·simp -implicitDefEqProofs only [RA,ae,zp,↓reduceIte,reduceCtorEq,zq,zr,zs,zt,decide_eq_false (not_not_intro hw),g1,g7,g8,g0,f1]
  refine ⟨s.length-(i+1),by omega,i+1,rfl,by omega,rfl,by omega,fun k o h1 h3=>hk2 _ _ (by omega) (hk _ _ h1 h3),?_⟩
  rw [aO hr]
  simp only [kQ,List.any_append,List.any_cons,List.any_nil,Bool.or_false] at ha ⊢
  rw [ha,hw];simp
 ·simp -implicitDefEqProofs only [RA,ae,zp,↓reduceIte,reduceCtorEq,zq,zr,zs,zt,decide_eq_true (p:=¬ r.width=w) hw,g1,g7,g8,g0,AQ]
  refine ⟨i,rfl,?_,by omega,fun k o h1 h3=>hk2 _ _ (by omega) (hk _ _ h1 h3)⟩
  have:kQ w s=true:=EI.2 ⟨r,Ea hr,decide_eq_true hw⟩
  rw [this];exact decide_eq_true (by omega)
theorem w117 (s:List Tm) (hs:s.length≤100000000) (b:Nat) (w:Int) (h:Heap) (nx:Nat) (hb:ay h b=some (.cells [.int .i64 w])) (hlt:b<nx) :
  AC Tryd.prog 86 [br s,.fn (.func 87) [.op b 0]] h nx fun y h' n'=>y=.ret (.bool (kQ w s))∧nx≤n'∧∀ k o,k<nx→ay h k=some o→ay h' k=some o:=by
 refine AC.go aI BR (by simp) ?_
 simp -implicitDefEqProofs only [RA,ae,zp,↓reduceIte,reduceCtorEq,zq,zr,zs,zt,DQ,zw]
 refine (w122 s hs b w h nx hb hlt).mono ?_
 rintro y h2 n2 ⟨v,rfl,hv,hn2,hk2⟩
 simp -implicitDefEqProofs only [RA,ae,zp,↓reduceIte,reduceCtorEq,zq,zr,zs,zt,hv,CJ]
 exact ⟨hn2,hk2⟩
def wAt (s:List Tm) (i:Nat):Int:=match s[i]? with|some x=>x.width|none=>0
theorem bV {s:List Tm} {i:Nat} {a:Tm} (h:s[i]?=some a):wAt s i=a.width:=by rw [wAt,h]
def wdB (c w low:Int) (s:List Tm):Bool :=
 if c=1 then !(kQ w s)
 else if c=2 then decide (w=1)&&decide (wAt s 1=wAt s 0)
 else if c=3 then decide (wAt s 0=1)&&(decide (wAt s 1=w)&&decide (wAt s 2=w))
 else if c=4 then wide (wAt s 0)&&(wide (wAt s 1)&&decide (wAt s 0+wAt s 1=w))
 else if c=5 then decide (0≤low)&&(wide (wAt s 0)&&(decide (w≤wAt s 0)&&decide (low≤wAt s 0-w)))
 else if c=6 then decide (wAt s 0≤w)
 else ldb w
theorem dU {w:Int} (h:wide w=true):1≤w∧w≤64:=by simpa [wide] using h
theorem w110 (x:Tm) (c:Int) (hc:1≤c∧c≤7) (hw:wide x.width=true) (h1:1≤x.sub.length) (hm:x.sub.length≤100000000) (h2:c=2∨c=4→2≤x.sub.length) (h3:c=3→3≤x.sub.length) :
  Pure Tryd.prog 79 [.agg (tmE x),.int .i64 c] (.bool (wdB c x.width x.low x.sub)):=by
 refine Pure.of fun nx=>AC.go aI BZ (by simp) ?_
 obtain ⟨k,w,b,nm,lo,s⟩:=x
 simp only [Tm.sub,Tm.width,Tm.low] at *
 have lv:=bN s
 have n1:(nx+1=nx)=False:=eq_false (by omega)
 obtain ⟨g1,g2⟩:=dU hw
 have ix0:idxA 6 (br s) 0=some (.fp (tmE s[0])):=bg (n:=0) (D9 (by omega))
 have v0:wAt s 0=s[0].width:=bV (D9 (by omega))
 generalize s[0]=a0 at ix0 v0
 rw [aY] at ix0
 rw [iG]
 have:c=1∨c=2∨c=3∨c=4∨c=5∨c=6∨c=7:=by omega
 rcases this with rfl|rfl|rfl|rfl|rfl|rfl|rfl
 ·rw [wdB,if_pos rfl]
  simp -implicitDefEqProofs only [RA,ae,zp,↓reduceIte,reduceCtorEq,zq,zr,zs,zt,kg,gC,↓ak,↓aj,ix0,n1,Ff,fT]
  refine (w117 s hm (nx+1) w _ _ (by rw [af,if_pos rfl]) (by omega)).mono ?_
  rintro y h2 n2 ⟨rfl,-,-⟩
  simp -implicitDefEqProofs only [RA,ae,zp,↓reduceIte,reduceCtorEq,zq,zr,zs,zt,unA,fT]
 ·obtain ⟨hl⟩:Nonempty (2≤s.length):=⟨h2 (by simp)⟩
  have ix1:idxA 6 (br s) 1=some (.fp (tmE s[1])):=bg (n:=1) (D9 (by omega))
  have v1:wAt s 1=s[1].width:=bV (D9 (by omega))
  generalize s[1]=a1 at ix1 v1
  rw [aY] at ix1
  rw [wdB,if_neg (by omega),if_pos rfl,v0,v1]
  rcases ai (w=1) with ⟨c1,d1⟩|⟨c1,d1⟩
  ·subst c1
   simp -implicitDefEqProofs only [RA,ae,zp,↓reduceIte,reduceCtorEq,zq,zr,zs,zt,kg,gC,↓ak,↓aj,ix0,ix1,n1,Ff,EV,EW,fT]
  ·simp -implicitDefEqProofs only [RA,ae,zp,↓reduceIte,reduceCtorEq,zq,zr,zs,zt,kg,gC,↓ak,↓aj,ix0,ix1,n1,Ff,d1,EV,EW,fT]
 ·obtain ⟨hl⟩:Nonempty (3≤s.length):=⟨h3 rfl⟩
  have ix1:idxA 6 (br s) 1=some (.fp (tmE s[1])):=bg (n:=1) (D9 (by omega))
  have v1:wAt s 1=s[1].width:=bV (D9 (by omega))
  have ix2:idxA 6 (br s) 2=some (.fp (tmE s[2])):=bg (n:=2) (D9 (by omega))
  have v2:wAt s 2=s[2].width:=bV (D9 (by omega))
  generalize s[1]=a1 at ix1 v1
  generalize s[2]=a2 at ix2 v2
  rw [aY] at ix1 ix2
  rw [wdB,if_neg (by omega),if_neg (by omega),if_pos rfl,v0,v1,v2]
  rcases ai (a0.width=1) with ⟨c1,d1⟩|⟨c1,d1⟩
  ·rcases ai (a1.width=w) with ⟨c2,d2⟩|⟨c2,d2⟩
   ·simp -implicitDefEqProofs only [RA,ae,zp,↓reduceIte,reduceCtorEq,zq,zr,zs,zt,kg,gC,↓ak,↓aj,ix0,ix1,ix2,n1,Ff,d1,d2,EV,EW,fT]
   ·simp -implicitDefEqProofs only [RA,ae,zp,↓reduceIte,reduceCtorEq,zq,zr,zs,zt,kg,gC,↓ak,↓aj,ix0,ix1,ix2,n1,Ff,d1,d2,EV,EW,fT]
  ·simp -implicitDefEqProofs only [RA,ae,zp,↓reduceIte,reduceCtorEq,zq,zr,zs,zt,kg,gC,↓ak,↓aj,ix0,ix1,ix2,n1,Ff,d1,EV,EW,fT]
 ·obtain ⟨hl⟩:Nonempty (2≤s.length):=⟨h2 (by simp)⟩
  have ix1:idxA 6 (br s) 1=some (.fp (tmE s[1])):=bg (n:=1) (D9 (by omega))
  have v1:wAt s 1=s[1].width:=bV (D9 (by omega))
  generalize s[1]=a1 at ix1 v1
  rw [aY] at ix1
  rw [wdB,if_neg (by omega),if_neg (by omega),if_neg (by omega),if_pos rfl,v0,v1]
  simp -implicitDefEqProofs only [RA,ae,zp,↓reduceIte,reduceCtorEq,zq,zr,zs,zt,kg,gC,↓ak,↓aj,ix0,ix1,n1,Ff,fT]
  refine (w6 _).use fun n2 hn2=>?_
  have m1:(n2=nx)=False:=eq_false (by omega)
  cases h4:wide a0.width
  ·simp -implicitDefEqProofs only [RA,ae,zp,↓reduceIte,reduceCtorEq,zq,zr,zs,zt,EW,Ff,fT]
  ·simp -implicitDefEqProofs only [RA,ae,zp,↓reduceIte,reduceCtorEq,zq,zr,zs,zt,ix1,Ff,↓ak,↓aj,n1]
   refine (w6 _).use fun n3 hn3=>?_
   obtain ⟨e1,e2⟩:=dU h4
   cases h5:wide a1.width
   ·simp -implicitDefEqProofs only [RA,ae,zp,↓reduceIte,reduceCtorEq,zq,zr,zs,zt,EW,EV,Ff,fT]
   ·obtain ⟨e3,e4⟩:=dU h5
    have f1:IntKind.i64.wrap (a0.width+a1.width)=a0.width+a1.width:=w64 (by omega) (by omega)
    simp -implicitDefEqProofs only [RA,ae,zp,↓reduceIte,reduceCtorEq,zq,zr,zs,zt,EV,ix1,f1,↓ak,↓aj,n1,Ff,fT]
 ·rw [wdB,if_neg (by omega),if_neg (by omega),if_neg (by omega),if_neg (by omega),if_pos rfl,v0]
  rcases ai ((0:Int)≤lo) with ⟨c1,d1⟩|⟨c1,d1⟩
  ·simp -implicitDefEqProofs only [RA,ae,zp,↓reduceIte,reduceCtorEq,zq,zr,zs,zt,kg,gC,↓ak,↓aj,ix0,n1,Ff,d1,fT]
   refine (w6 _).use fun n2 hn2=>?_
   cases h4:wide a0.width
   ·simp -implicitDefEqProofs only [RA,ae,zp,↓reduceIte,reduceCtorEq,zq,zr,zs,zt,EW,EV,Ff,fT]
   ·obtain ⟨e1,e2⟩:=dU h4
    have f1:IntKind.i64.wrap (a0.width-w)=a0.width-w:=w64 (by omega) (by omega)
    rcases ai (w≤a0.width) with ⟨c2,d2⟩|⟨c2,d2⟩
    ·simp -implicitDefEqProofs only [RA,ae,zp,↓reduceIte,reduceCtorEq,zq,zr,zs,zt,EV,f1,d2,↓ak,↓aj,n1,Ff,fT]
    ·simp -implicitDefEqProofs only [RA,ae,zp,↓reduceIte,reduceCtorEq,zq,zr,zs,zt,EV,EW,f1,d2,↓ak,↓aj,n1,Ff,fT]
  ·simp -implicitDefEqProofs only [RA,ae,zp,↓reduceIte,reduceCtorEq,zq,zr,zs,zt,kg,gC,↓ak,↓aj,ix0,n1,Ff,d1,EW,fT]
 ·rw [wdB,if_neg (by omega),if_neg (by omega),if_neg (by omega),if_neg (by omega),if_neg (by omega),if_pos rfl,v0]
  simp -implicitDefEqProofs only [RA,ae,zp,↓reduceIte,reduceCtorEq,zq,zr,zs,zt,kg,gC,↓ak,↓aj,ix0,n1,Ff,fT]
 ·rw [wdB,if_neg (by omega),if_neg (by omega),if_neg (by omega),if_neg (by omega),if_neg (by omega),if_neg (by omega)]
  simp -implicitDefEqProofs only [RA,ae,zp,↓reduceIte,reduceCtorEq,zq,zr,zs,zt,kg,gC,↓ak,↓aj,ix0,n1,Ff,fT]
  refine (w119 _).use fun n2 hn2=>?_
  simp -implicitDefEqProofs only [RA,ae,zp,↓reduceIte,reduceCtorEq,zq,zr,zs,zt,fT]
end Go.Proofs.YtkhjclmfbmfahaaDoor
