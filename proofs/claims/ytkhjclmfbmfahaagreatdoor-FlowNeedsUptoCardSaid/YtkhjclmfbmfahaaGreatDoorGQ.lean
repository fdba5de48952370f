/- What a block needs first, and what it sets. -/
import Derived.Test.YtkhjclmfbmfahaaGreatDoorGP
namespace Go.Proofs.YtkhjclmfbmfahaaGreatDoor
open List renaming getElem?_eq_getElem → Fo, mem_of_getElem? → Fp, getElem?_eq_some_iff → Fq, take_of_length_le → Fs, length_cons → Fu, length_map → Fw, mem_map → Fy, all_eq_true → Fz, length_append → FB, map_append → FC, mem_cons → FD, map_cons → FU, set_cons_succ → F2, length_set → F4
open Bool renaming and_eq_true → Gd
open Nat renaming le_refl → Gp
open Int renaming toNat_natCast → Gz
set_option maxHeartbeats 64000000
open Go Go.Ab Go.Proofs
open Nat renaming reduceEqDiff → zp, reduceAdd → zq, reduceLeDiff → zr, reduceLT → zs, reduceBEq → zt
set_option linter.unusedVariables false
set_option linter.unusedSimpArgs false
set_option maxRecDepth 20000
def gnA (ns:List Nm) (a:Nat × Nat) (s:St):Nat × Nat:=(a.1 ||| lsN (usL ns s.terms) a.2,if 0≤ixN s.var ns then a.2 ||| 2 ^ (ixN s.var ns).toNat else a.2)
def gnL (ns:List Nm) (l:List St):Nat × Nat:=l.foldl (gnA ns) (0,0)
theorem oH (ns:List Nm) (l:List St) (s:St):gnL ns (l++[s])=gnA ns (gnL ns l) s:=by rw [gnL,List.foldl_append];rfl
def gnB (ns:List Nm) (b:Bk):Nat × Nat:=((gnL ns b.steps).1 ||| lsN (usL ns b.terms) (gnL ns b.steps).2,(gnL ns b.steps).2)
theorem vg {s:Nm} {ns:List Nm} (h:0≤ixN s ns):ixN s ns<(ns.length:Int):=by
 unfold ixN at h ⊢
 split at h
 ·rename_i hm;rw [if_pos hm]
  have:=List.idxOf_lt_length_iff.2 hm
  omega
 ·omega
theorem BD {ns:List Nm} (hn:ns.length≤60) {a:Nat × Nat} (h1:a.1<18446744073709551616) (h2:a.2<18446744073709551616) {s:St} (hs:vOk ns s.terms):(gnA ns a s).1<18446744073709551616∧(gnA ns a s).2<18446744073709551616:=by
 refine ⟨iD h1 (Nat.lt_of_le_of_lt (lV _ _) (gH hs hn)),?_⟩
 unfold gnA
 simp only
 split
 ·rename_i h
  have:=vg h
  exact iD h2 (jz (by omega))
 ·exact h2
theorem vy {ns:List Nm} (hn:ns.length≤60):∀ (l:List St) (a:Nat × Nat),a.1<18446744073709551616→a.2<18446744073709551616→(∀ s∈l,vOk ns s.terms)→(l.foldl (gnA ns) a).1<18446744073709551616∧(l.foldl (gnA ns) a).2<18446744073709551616
 | [],a,h1,h2,_=>⟨h1,h2⟩
 | s::r,a,h1,h2,hs=>by
  obtain ⟨q1,q2⟩:=BD hn h1 h2 (hs s (by simp))
  exact vy hn r _ q1 q2 fun x hx=>hs x (List.mem_cons_of_mem _ hx)
theorem kO {ns:List Nm} (hn:ns.length≤60) {l:List St} (hs:∀ s∈l,vOk ns s.terms):(gnL ns l).1<18446744073709551616∧(gnL ns l).2<18446744073709551616:=vy hn l (0,0) (by simp) (by simp) hs
theorem vz {ns:List Nm} (hn:ns.length≤60) {b:Bk} (hs:∀ s∈b.steps,vOk ns s.terms) (ht:vOk ns b.terms):(gnB ns b).1<18446744073709551616∧(gnB ns b).2<18446744073709551616:=by
 obtain ⟨h1,h2⟩:=kO hn hs
 exact ⟨iD h1 (Nat.lt_of_le_of_lt (lV _ _) (gH ht hn)),h2⟩
theorem w27 (ns:List Nm) (b:Bk) (hn:ns.length≤60) (h1:b.steps.length≤4000000) (h2:∀ s∈b.steps,vOk ns s.terms∧bx s.terms≤1000000000000000) (h3:vOk ns b.terms) (h4:bx b.terms≤1000000000000000) :
  Pure Tryz.prog 27 [.agg (bkE b),nmA ns] (.tup [.agg [.int .u64 ((gnB ns b).1:Nat)],.agg [.int .u64 ((gnB ns b).2:Nat)]]):=by
 refine Pure.of fun nx=>AC.go aI is27 (by simp) ?_
 have lo:=eh b.steps
 have hgb:=vz hn (fun s hs=>(h2 s hs).1) h3
 rw [eD]
 have z1:(nx+1=nx)=False:=eq_false (by omega)
 have z2:(nx+1+1=nx)=False:=eq_false (by omega)
 have z3:(nx+2=nx)=False:=eq_false (by omega)
 simp -implicitDefEqProofs only [RA,ae,zp,↓reduceIte,reduceCtorEq,zq,zr,zs,zt,↓aA,↓az,↓au,↓ar,↓ay,↓aw,↓ak,↓aj,↓aC,↓aB,↓aE,↓aD,unA,ne_eq,not_true_eq_false,not_false_eq_true,A27,EX,lo,z1,z2,z3]
 obtain ⟨c2,hc2⟩:∃ c,c=nx:=⟨_,rfl⟩
 obtain ⟨c4,hc4⟩:∃ c,c=nx+1:=⟨_,rfl⟩
 obtain ⟨c5,hc5⟩:∃ c,c=nx+1+1:=⟨_,rfl⟩
 refine aJ (fun q st=>∃ (i:Nat),q=b.steps.length-i∧i≤b.steps.length∧ah st.env 1=some (nmA ns)∧ah st.env 2=some (.op c2 0)∧ah st.env 4=some (.op c4 0)∧ah st.env 5=some (.op c5 0)∧ah st.env 10=some (eH b.steps)∧ah st.env 11=some (.int .i64 b.steps.length)∧ah st.env 12=some (.int .i64 i) ∧
   aq st.heap c2=some (.cells [eH b.steps,.int .u8 b.kind,.str b.func,bg b.terms,cD b.to])∧aq st.heap c4=some (.cells [.int .u64 ((gnL ns (b.steps.take i)).1:Nat)])∧aq st.heap c5=some (.cells [.int .u64 ((gnL ns (b.steps.take i)).2:Nat)])∧c5<st.nx∧st.dm=[]) (n:=b.steps.length) aI
  ⟨0,rfl,by omega,by simp [ah],by simp [ah,hc2],by simp [ah,hc4],by simp [ah,hc5],by simp [ah],by simp [ah],by simp [ah],
   by simp only;rw [af,if_neg (by omega),af,if_neg (by omega),af,if_pos hc2.symm],by simp only;rw [af,if_neg (by omega),af,if_pos hc4.symm];rfl,by simp only;rw [af,if_pos hc5.symm];rfl,by simp only;omega,rfl⟩ ?_
 rintro q ⟨env,heap,nx',dm⟩ ⟨i,rfl,hi,g1,g2,g4,g5,g10,g11,g12,b2,b4,b5,hlt,hdm⟩
 simp only at g1 g2 g4 g5 g10 g11 g12 b2 b4 b5 hlt hdm
 subst hdm
 have f1:=wS (i:=i) (by omega)
 have y1:(c4=c2)=False:=eq_false (by omega)
 have y2:(c5=c2)=False:=eq_false (by omega)
 have y3:(c5=c4)=False:=eq_false (by omega)
 have y4:(c4=c5)=False:=eq_false (by omega)
 by_cases hc:(i:Int)<(b.steps.length:Int)
 case neg =>
  rw [show b.steps.take i=b.steps from Fs (by omega)] at b4 b5
  have hl:=kO hn fun s hs=>(h2 s hs).1
  have wu:=w48 ns hn _ b.terms (Gp _) h4 h3
  have hu:=gH h3 hn
  have wl:=w28 (usL ns b.terms) (gnL ns b.steps).2 hu hl.2
  have wo:=w26 (gnL ns b.steps).1 (lsN (usL ns b.terms) (gnL ns b.steps).2) hl.1 (Nat.lt_of_le_of_lt (lV _ _) hu)
  simp -implicitDefEqProofs only [RA,ae,zp,↓reduceIte,reduceCtorEq,zq,zr,zs,zt,↓aA,↓az,↓au,↓ar,↓ay,↓aw,↓ak,↓aj,↓aC,↓aB,↓aE,↓aD,unA,ne_eq,not_true_eq_false,not_false_eq_true,xr,qQ,g1,g2,g4,g5,g10,g11,g12,hc,b2,b4,b5,y1,y2,y3,y4]
  refine wu.use fun k1 hk1=>?_
  simp -implicitDefEqProofs only [RA,ae,zp,↓reduceIte,reduceCtorEq,zq,zr,zs,zt,↓aA,↓az,↓au,↓ar,↓ay,↓aw,↓ak,↓aj,↓aC,↓aB,↓aE,↓aD,unA,ne_eq,not_true_eq_false,not_false_eq_true,g1,g2,g4,g5,g10,g11,g12,b2,b4,b5,y1,y2,y3,y4]
  refine wl.use fun k2 hk2=>?_
  simp -implicitDefEqProofs only [RA,ae,zp,↓reduceIte,reduceCtorEq,zq,zr,zs,zt,↓aA,↓az,↓au,↓ar,↓ay,↓aw,↓ak,↓aj,↓aC,↓aB,↓aE,↓aD,unA,ne_eq,not_true_eq_false,not_false_eq_true,g1,g2,g4,g5,g10,g11,g12,b2,b4,b5,y1,y2,y3,y4]
  refine wo.use fun k3 hk3=>?_
  simp -implicitDefEqProofs only [RA,ae,zp,↓reduceIte,reduceCtorEq,zq,zr,zs,zt,↓aA,↓az,↓au,↓ar,↓ay,↓aw,↓ak,↓aj,↓aC,↓aB,↓aE,↓aD,unA,ne_eq,not_true_eq_false,not_false_eq_true,g1,g2,g4,g5,g10,g11,g12,b2,b4,b5,y1,y2,y3,y4,R27,gnB]
 have hr:=Fo (show i<b.steps.length by omega)
 generalize b.steps[i]=s at hr
 have hrm:=Fp hr
 have ix:=fv hr
 have tl:=pv s
 have tk:=rq s
 rw [gq] at ix tl tk
 obtain ⟨hv,hsz⟩:=h2 s hrm
 have hl:=kO hn (l:=b.steps.take i) fun s hs=>(h2 s (List.mem_of_mem_take hs)).1
 have hs:=oH ns (b.steps.take i) s
 rw [← aQ hr] at hs
 have wu:=w48 ns hn _ s.terms (Gp _) hsz hv
 have hu:=gH hv hn
 have wl:=w28 (usL ns s.terms) (gnL ns (b.steps.take i)).2 hu hl.2
 have wo:=w26 (gnL ns (b.steps.take i)).1 (lsN (usL ns s.terms) (gnL ns (b.steps.take i)).2) hl.1 (Nat.lt_of_le_of_lt (lV _ _) hu)
 have wi:=w49 ns s.var (by omega)
 have hil:=vg (s:=s.var) (ns:=ns)
 unfold gnA at hs
 generalize gnL ns (b.steps.take i)=Y at *
 generalize usL ns s.terms=us at *
 have x1:(nx'=c2)=False:=eq_false (by omega)
 have x2:(nx'=c4)=False:=eq_false (by omega)
 have x3:(nx'=c5)=False:=eq_false (by omega)
 have x4:(c4=nx')=False:=eq_false (by omega)
 have x5:(c5=nx')=False:=eq_false (by omega)
 simp -implicitDefEqProofs only [RA,ae,zp,↓reduceIte,reduceCtorEq,zq,zr,zs,zt,↓aA,↓az,↓au,↓ar,↓ay,↓aw,↓ak,↓aj,↓aC,↓aB,↓aE,↓aD,unA,ne_eq,not_true_eq_false,not_false_eq_true,xr,qQ,g1,g2,g4,g5,g10,g11,g12,hc,ix,tl,tk,b2,b4,b5,y1,y2,y3,y4,x1,x2,x3,x4,x5]
 refine wu.use fun k1 hk1=>?_
 simp -implicitDefEqProofs only [RA,ae,zp,↓reduceIte,reduceCtorEq,zq,zr,zs,zt,↓aA,↓az,↓au,↓ar,↓ay,↓aw,↓ak,↓aj,↓aC,↓aB,↓aE,↓aD,unA,ne_eq,not_true_eq_false,not_false_eq_true,g1,g2,g4,g5,g10,g11,g12,b2,b4,b5,y1,y2,y3,y4,x1,x2,x3,x4,x5]
 refine wl.use fun k2 hk2=>?_
 simp -implicitDefEqProofs only [RA,ae,zp,↓reduceIte,reduceCtorEq,zq,zr,zs,zt,↓aA,↓az,↓au,↓ar,↓ay,↓aw,↓ak,↓aj,↓aC,↓aB,↓aE,↓aD,unA,ne_eq,not_true_eq_false,not_false_eq_true,g1,g2,g4,g5,g10,g11,g12,b2,b4,b5,y1,y2,y3,y4,x1,x2,x3,x4,x5]
 refine wo.use fun k3 hk3=>?_
 simp -implicitDefEqProofs only [RA,ae,zp,↓reduceIte,reduceCtorEq,zq,zr,zs,zt,↓aA,↓az,↓au,↓ar,↓ay,↓aw,↓ak,↓aj,↓aC,↓aB,↓aE,↓aD,unA,ne_eq,not_true_eq_false,not_false_eq_true,g1,g2,g4,g5,g10,g11,g12,b2,b4,b5,y1,y2,y3,y4,x1,x2,x3,x4,x5]
 refine wi.use fun k4 hk4=>?_
 by_cases hx:0≤ixN s.var ns
 ·rw [if_pos hx] at hs
  have:=hil hx
  obtain ⟨ix0,hix⟩:∃ k:Nat,ixN s.var ns=k:=⟨_,(Int.toNat_of_nonneg hx).symm⟩
  rw [hix,Gz] at hs
  have ww:=w40 Y.2 ix0 hl.2 (by omega)
  rw [hix]
  have hx0:((ix0:Int)≥0)=True:=eq_true (by omega)
  have hx1:((0:Int)≤(ix0:Int))=True:=eq_true (by omega)
  simp -implicitDefEqProofs only [RA,ae,zp,↓reduceIte,reduceCtorEq,zq,zr,zs,zt,↓aA,↓az,↓au,↓ar,↓ay,↓aw,↓ak,↓aj,↓aC,↓aB,↓aE,↓aD,unA,ne_eq,not_true_eq_false,not_false_eq_true,g1,g2,g4,g5,g10,g11,g12,b2,b4,b5,y1,y2,y3,y4,x1,x2,x3,x4,x5,hx0,hx1]
  refine ww.use fun k5 hk5=>?_
  simp -implicitDefEqProofs only [RA,ae,zp,↓reduceIte,reduceCtorEq,zq,zr,zs,zt,↓aA,↓az,↓au,↓ar,↓ay,↓aw,↓ak,↓aj,↓aC,↓aB,↓aE,↓aD,unA,ne_eq,not_true_eq_false,not_false_eq_true,g1,g2,g4,g5,g10,g11,g12,b2,b4,b5,y1,y2,y3,y4,x1,x2,x3,x4,x5,f1]
  exact ⟨b.steps.length-(i+1),by omega,i+1,rfl,by omega,rfl,by rw [hs],by rw [hs],by omega⟩
 ·rw [if_neg hx] at hs
  have hx0:(ixN s.var ns≥0)=False:=eq_false hx
  have hx1:((0:Int)≤ixN s.var ns)=False:=eq_false hx
  simp -implicitDefEqProofs only [RA,ae,zp,↓reduceIte,reduceCtorEq,zq,zr,zs,zt,↓aA,↓az,↓au,↓ar,↓ay,↓aw,↓ak,↓aj,↓aC,↓aB,↓aE,↓aD,unA,ne_eq,not_true_eq_false,not_false_eq_true,g1,g2,g4,g5,g10,g11,g12,b2,b4,b5,y1,y2,y3,y4,x1,x2,x3,x4,x5,f1,hx0,hx1]
  exact ⟨b.steps.length-(i+1),by omega,i+1,rfl,by omega,rfl,by rw [hs],by rw [hs],by omega⟩
theorem CF {V:List Pm} {n:Nm} (h:vw V n≠0):n∈V.map (·.1):=by
 induction V with
 | nil=>exact absurd rfl h
 | cons a r ih =>
  rw [fR] at h
  by_cases e:a.1=n
  ·subst e;simp
  ·rw [if_neg e] at h
   simp only [FU,FD];exact .inr (ih h)
theorem xX {V:List Pm} {x:Tm} (h:ftZ V x=true):∀ y∈ndT x,y.kind=2→y.name∈V.map (·.1):=by
 unfold ftZ at h
 rw [Gd,decide_eq_true_eq] at h
 intro y hy hk
 have h1:=Fz.1 (t8 h.1) y hy
 have h2:=Fz.1 h.2 y hy
 unfold ndB at h1
 rw [Gd] at h1
 have hw:=dz h1.1
 unfold ndV at h2
 rw [Gd,hk] at h2
 have h3:=h2.1
 simp at h3
 exact CF (by omega)
theorem rm {V:List Pm} {l:List Tm} (h:∀ x∈l,ftZ V x=true):vOk (V.map (·.1)) l:=by
 induction l with
 | nil=>intro y hy;simp [bD] at hy
 | cons a r ih =>
  intro y hy hk
  rw [bD] at hy
  rcases List.mem_append.1 hy with hy|hy
  ·exact xX (h a (by simp)) y hy hk
  ·exact ih (fun x hx=>h x (List.mem_cons_of_mem _ hx)) y hy hk
theorem oJ {V:List Pm} {x:Tm} {w:Int} (h:ftB V x w=true):ftZ V x=true:=by
 unfold ftB at h;rw [Gd] at h;exact h.1
theorem mO {l:List Tm} {f:Tm→Bool} (h:on1 l f=true):∃ x,l=[x]∧f x=true:=by
 match l with
 | []=>cases h
 | [x]=>exact ⟨x,rfl,h⟩
 | _::_::_=>cases h
theorem Bj {l:List Tm} {f:Tm→Tm→Bool} (h:on2 l f=true):∃ x y,l=[x,y]∧f x y=true:=by
 match l with
 | []=>cases h
 | [x]=>cases h
 | [x,y]=>exact ⟨x,y,rfl,h⟩
 | _::_::_::_=>cases h
theorem tU {V:List Pm}:∀ {l:List Tm} {ps:List Pm},l.length=ps.length→zpB (ftB V) l ps=true→∀ x∈l,ftZ V x=true
 | [],_,_,_,x,hx=>by simp at hx
 | a::r,[],hl,_,x,hx=>by simp at hl
 | a::r,p::ps,hl,h,x,hx=>by
  simp only [zpB,Gd] at h
  rcases FD.1 hx with e|hx
  ·subst e;exact oJ h.1
  ·exact tU (l:=r) (ps:=ps) (by simpa using hl) h.2 x hx
theorem vV {V:List Pm} {P:Pi} {n:Nm} {l:List Tm} (h:clB (ftB V) P n l=true):∀ x∈l,ftZ V x=true:=by
 unfold clB at h
 split at h
 ·cases h
 ·rw [Gd,decide_eq_true_eq] at h
  exact tU h.1 h.2
theorem ug {V:List Pm} {P:Pi} {s:St} (h:stB (ftB V) (ftZ V) P V s=true):vOk (V.map (·.1)) s.terms:=by
 refine rm fun x hx=>?_
 unfold stB at h
 split at h
 ·simp only [Gd] at h
  obtain ⟨y,e,hy⟩:=mO h.2.2
  rw [e] at hx;simp at hx;subst hx;exact oJ hy
 split at h
 ·simp only [Gd] at h
  obtain ⟨y,z,e,hy⟩:=Bj h.2.2
  simp only [Gd] at hy
  rw [e] at hx;simp at hx
  rcases hx with rfl|rfl
  ·exact hy.2.1
  ·exact oJ hy.2.2
 split at h
 ·simp only [Gd] at h
  exact vV h.1 x hx
 split at h
 ·simp only [Gd] at h
  obtain ⟨y,e,hy⟩:=mO h.2.2
  rw [e] at hx;simp at hx;subst hx;exact hy
 ·cases h
theorem uh {V:List Pm} {P:Pi} {s:St} (hV:clV V=true) (h:stB (ftB V) (ftZ V) P V s=true) (hm:s.var∈V.map (·.1)):s.kind=1∨s.kind=3:=by
 have hne:s.var≠[]:=by
  intro e
  unfold clV at hV
  rw [Gd] at hV
  obtain ⟨p,hp,e2⟩:=Fy.1 hm
  have:=Fz.1 hV.1 p hp
  rw [Gd,e2,e] at this
  have h1:=this.1
  simp [dI] at h1
 unfold stB at h
 split at h
 ·rename_i k;exact .inl k
 split at h
 ·simp only [Gd,decide_eq_true_eq] at h
  exact absurd h.1 hne
 split at h
 ·rename_i k;exact .inr k
 split at h
 ·simp only [Gd,decide_eq_true_eq] at h
  exact absurd h.1 hne
 ·cases h
theorem vK {V:List Pm} {P:Pi} {g:Fn} {b:Bk} (h:enB (ftB V) P g b=true):vOk (V.map (·.1)) b.terms:=by
 refine rm fun x hx=>?_
 unfold enB at h
 rw [Gd] at h
 have h:=h.2
 split at h
 ·simp only [Gd,decide_eq_true_eq] at h
  rw [List.eq_nil_of_length_eq_zero h.2.1] at hx;simp at hx
 split at h
 ·simp only [Gd] at h
  obtain ⟨y,e,hy⟩:=mO h.2
  rw [e] at hx;simp at hx;subst hx
  simp only [Gd] at hy
  exact oJ hy.2
 split at h
 ·simp only [Gd] at h
  have h:=h.2.2
  split at h
  ·rw [decide_eq_true_eq] at h
   rw [List.eq_nil_of_length_eq_zero h] at hx;simp at hx
  ·obtain ⟨y,e,hy⟩:=mO h
   rw [e] at hx;simp at hx;subst hx;exact oJ hy
 split at h
 ·simp only [Gd] at h
  exact vV h.1 x hx
 ·cases h
theorem iq {P:Pi} {g:Fn} (G:GdF P g):(nmV g).length≤40:=by
 have:=G.vars
 rw [nmV,Fw,mA,FB];exact this
theorem sQ {P:Pi} {g:Fn} (G:GdF P g):(nmV g).Nodup:=by
 have:=G.cl
 unfold clV at this
 rw [Gd,decide_eq_true_eq] at this
 exact this.2
theorem kP {P:Pi} {g:Fn} (G:GdF P g) {b:Bk} (hb:b∈g.blocks):∀ s∈b.steps,vOk (nmV g) s.terms:=fun s hs=>ug (G.st b hb s hs)
theorem pV {P:Pi} {g:Fn} (G:GdF P g) {b:Bk} (hb:b∈g.blocks):vOk (nmV g) b.terms:=vK (G.en b hb)
theorem yU {P:Pi} {g:Fn} (G:GdF P g) {b:Bk} (hb:b∈g.blocks) {s:St} (hs:s∈b.steps) (hm:s.var∈nmV g):s.kind=1∨s.kind=3:=uh G.cl (G.st b hb s hs) hm
theorem rN {s:Nm}:∀ {l:List Nm},s∈l→l[l.idxOf s]?=some s
 | [],h=>by simp at h
 | a::r,h=>by
  by_cases e:a=s
  ·subst e;simp
  ·have hm:s∈r:=by
    rcases FD.1 h with h|h
    ·exact absurd h.symm e
    ·exact h
   have e':(a==s)=false:=by simpa using e
   rw [List.idxOf_cons,e']
   simpa using rN hm
theorem yr {α:Type} {P:List α→Prop} (h0:P []) (h1:∀ l a,P l→P (l++[a])) (l:List α):P l:=by
 have key:∀ l:List α,P l.reverse:=fun l=>by
  induction l with
  | nil=>exact h0
  | cons a r ih=>rw [List.reverse_cons];exact h1 _ _ ih
 have:=key l.reverse
 rw [List.reverse_reverse] at this;exact this
theorem tm {ns:List Nm} (hd:ns.Nodup) {v:Nat} {s n:Nm} (hv:ns[v]?=some n) (hs:s∈ns):ns.idxOf s=v↔s=n:=by
 constructor
 ·intro e
  have:=rN hs
  rw [e,hv] at this;injection this with this;exact this.symm
 ·intro e
  subst e
  refine gZ hv fun hm=>?_
  obtain ⟨j,hj⟩:=List.mem_iff_getElem?.1 hm
  rw [List.getElem?_take] at hj
  split at hj
  ·rename_i hlt
   have h1:=(Fq.1 hj).1
   have h2:=(Fq.1 hv).1
   have:=(List.getElem_inj (h₀:=h1) (h₁:=h2) hd).1 (by rw [(Fq.1 hj).2,(Fq.1 hv).2])
   omega
  ·cases hj
theorem pM {ns:List Nm} (hd:ns.Nodup) {v:Nat} {s n:Nm} (hv:ns[v]?=some n):(0≤ixN s ns∧(ixN s ns).toNat=v)↔s=n:=by
 by_cases hs:s∈ns
 ·rw [ixN,if_pos hs,← tm hd hv hs]
  constructor
  ·rintro ⟨_,h⟩;simpa using h
  ·intro h;exact ⟨by omega,by simpa using h⟩
 ·rw [ixN,if_neg hs]
  constructor
  ·rintro ⟨h,_⟩;omega
  ·intro e;exact absurd (by rw [e];exact Fp hv) hs
theorem tY {ns:List Nm} (hd:ns.Nodup) {l:List Tm} (hl:vOk ns l) {v:Nat} {n:Nm} (hv:ns[v]?=some n):(usL ns l).testBit v=usB n l:=by
 rw [AI,Bool.eq_iff_iff,decide_eq_true_eq,usB,List.any_eq_true,vsL]
 constructor
 ·intro h
  obtain ⟨y,hy,e⟩:=Fy.1 h
  obtain ⟨h1,h2⟩:=List.mem_filter.1 hy
  rw [decide_eq_true_eq] at h2
  have h3:=(pM hd hv).1 ⟨(pN (hl y h1 h2)).1,e⟩
  exact ⟨y,h1,by simp [h2,h3]⟩
 ·rintro ⟨y,h1,h2⟩
  simp only [Gd,decide_eq_true_eq] at h2
  exact Fy.2 ⟨y,List.mem_filter.2 ⟨h1,by simp [h2.1]⟩,((pM hd hv).2 h2.2).2⟩
theorem vC (n:Nm):∀ (a b:List St),fsS n a≠0→fsS n (a++b)=fsS n a
 | [],b,h=>absurd rfl h
 | s::r,b,h=>by
  simp only [List.cons_append,fsS] at h ⊢
  split
  ·rfl
  ·rename_i q1
   rw [if_neg q1] at h
   split
   ·rfl
   ·rename_i q2
    rw [if_neg q2] at h
    exact vC n r b h
theorem BC {ns:List Nm} (hd:ns.Nodup) (hn:ns.length≤60) {v:Nat} {n:Nm} (hv:ns[v]?=some n):∀ (l:List St),(∀ s∈l,vOk ns s.terms∧(s.var∈ns→s.kind=1∨s.kind=3)) →
  ((gnL ns l).1.testBit v=true↔fsS n l=1)∧(fsS n l=0↔(gnL ns l).1.testBit v=false∧(gnL ns l).2.testBit v=false):=by
 intro l
 induction l using yr with
 | h0=>intro _;simp [gnL,fsS]
 | h1 l s ih =>
  intro hs
  obtain ⟨i1,i2⟩:=ih fun x hx=>hs x (List.mem_append_left _ hx)
  obtain ⟨hv1,hk⟩:=hs s (by simp)
  have hl:=kO hn (l:=l) fun x hx=>(hs x (List.mem_append_left _ hx)).1
  have hu:=tY hd hv1 hv
  have hul:=gH hv1 hn
  have hx:=pM hd hv (s:=s.var)
  rw [oH]
  have e1:(gnA ns (gnL ns l) s).1.testBit v=((gnL ns l).1.testBit v||(usB n s.terms&&!(gnL ns l).2.testBit v)):=by
   simp only [gnA]
   rw [Nat.testBit_or,ub hul hl.2,hu]
  have e2:(gnA ns (gnL ns l) s).2.testBit v=((gnL ns l).2.testBit v||decide (s.var=n)):=by
   simp only [gnA]
   by_cases h0:0≤ixN s.var ns
   ·rw [if_pos h0,Nat.testBit_or,Nat.testBit_two_pow]
    congr 1
    exact decide_eq_decide.2 ⟨fun h=>hx.1 ⟨h0,h⟩,fun h=>(hx.2 h).2⟩
   ·rw [if_neg h0,decide_eq_false fun h=>h0 (hx.2 h).1,Bool.or_false]
  rw [e1,e2]
  have hkn:s.var=n→s.kind=1∨s.kind=3:=fun e=>hk (by rw [e];exact Fp hv)
  by_cases h0:fsS n l=0
  ·rw [ko n l [s] h0]
   obtain ⟨z1,z2⟩:=i2.1 h0
   rw [z1,z2]
   simp only [fsS,Bool.false_or,Bool.not_false,Bool.and_true]
   by_cases hus:usB n s.terms=true
   ·rw [if_pos hus,hus];simp
   ·rw [if_neg hus]
    have hus':usB n s.terms=false:=by simpa using hus
    rw [hus']
    by_cases hvn:s.var=n
    ·rw [if_pos ⟨hkn hvn,hvn⟩];simp [hvn]
    ·rw [if_neg fun h=>hvn h.2];simp [hvn]
  ·have hne:fsS n (l++[s])=fsS n l:=vC n l [s] h0
   rw [hne]
   by_cases h1:fsS n l=1
   ·have:=i1.2 h1
    rw [this,h1];simp
   ·have hz:(gnL ns l).1.testBit v=false:=by
     cases hq:(gnL ns l).1.testBit v
     ·rfl
     ·exact absurd (i1.1 hq) h1
    have hz2:(gnL ns l).2.testBit v=true:=by
     cases hq:(gnL ns l).2.testBit v
     ·exact absurd (i2.2 ⟨hz,hq⟩) h0
     ·rfl
    rw [hz,hz2]
    simp [h0,h1]
theorem BE {ns:List Nm} (hd:ns.Nodup) (hn:ns.length≤60) {v:Nat} {n:Nm} (hv:ns[v]?=some n) (b:Bk) (hs:∀ s∈b.steps,vOk ns s.terms∧(s.var∈ns→s.kind=1∨s.kind=3)) (ht:vOk ns b.terms) :
  ((gnB ns b).1.testBit v=true↔fk n b=1)∧(fk n b=0↔(gnB ns b).1.testBit v=false∧(gnB ns b).2.testBit v=false):=by
 obtain ⟨i1,i2⟩:=BC hd hn hv b.steps hs
 have hl:=kO hn (l:=b.steps) fun x hx=>(hs x hx).1
 have hu:=tY hd ht hv
 have hul:=gH ht hn
 have e1:(gnB ns b).1.testBit v=((gnL ns b.steps).1.testBit v||(usB n b.terms&&!(gnL ns b.steps).2.testBit v)):=by
  simp only [gnB]
  rw [Nat.testBit_or,ub hul hl.2,hu]
 have e2:(gnB ns b).2=(gnL ns b.steps).2:=rfl
 rw [e1,e2]
 unfold fk
 by_cases h0:fsS n b.steps=0
 ·rw [if_pos h0]
  obtain ⟨z1,z2⟩:=i2.1 h0
  rw [z1,z2]
  cases usB n b.terms <;> simp
 ·rw [if_neg h0]
  by_cases h1:fsS n b.steps=1
  ·have:=i1.2 h1
   rw [this,h1];simp
  ·have hz:(gnL ns b.steps).1.testBit v=false:=by
    cases hq:(gnL ns b.steps).1.testBit v
    ·rfl
    ·exact absurd (i1.1 hq) h1
   have hz2:(gnL ns b.steps).2.testBit v=true:=by
    cases hq:(gnL ns b.steps).2.testBit v
    ·exact absurd (i2.2 ⟨hz,hq⟩) h0
    ·rfl
   rw [hz,hz2]
   simp [h0,h1]
def co (g:Fn) (b:Nat):Nat:=match g.blocks[b]? with|some blk=>(gnB (nmV g) blk).1|none=>0
def bF (g:Fn) (b:Nat):Nat:=match g.blocks[b]? with|some blk=>(gnB (nmV g) blk).2|none=>0
theorem lZ {g:Fn} {b:Nat} {blk:Bk} (h:g.blocks[b]?=some blk):co g b=(gnB (nmV g) blk).1:=by rw [co,h]
theorem kN {g:Fn} {b:Nat} {blk:Bk} (h:g.blocks[b]?=some blk):bF g b=(gnB (nmV g) blk).2:=by rw [bF,h]
theorem vA {P:Pi} {g:Fn} (G:GdF P g) (b:Nat):co g b<18446744073709551616∧bF g b<18446744073709551616:=by
 unfold co bF
 cases h:g.blocks[b]? with
 | none=>simp
 | some blk =>
  have hm:=Fp h
  exact vz (by have:=iq G;omega) (kP G hm) (pV G hm)
def cf:List Bool→Nat
 | []=>0
 | b::r=>(if b=true then 0 else 1)+cf r
theorem vX:∀ (l:List Bool) (i:Nat),l[i]?=some false→cf (l.set i true)+1=cf l
 | [],i,h=>by simp at h
 | b::r,0,h=>by simp at h;subst h;simp [cf];omega
 | b::r,i+1,h=>by
  have:=vX r i (by simpa using h)
  simp only [F2,cf];omega
noncomputable def lvL (g:Fn) (v:Nat):List Bool:=(List.range g.blocks.length).map fun b=>dc (Lv (nbG g) (co g) (bF g) v b)
theorem rJ (g:Fn) (v:Nat):(lvL g v).length=g.blocks.length:=by simp [lvL]
theorem jF {g:Fn} {v b:Nat} (h:b<g.blocks.length):(lvL g v)[b]?=some (dc (Lv (nbG g) (co g) (bF g) v b)):=by simp [lvL,h]
theorem tu {P:Pi} {g:Fn} (G:GdF P g) {v:Nat} {n:Nm} (hv:(nmV g)[v]?=some n) {b:Nat} {blk:Bk} (hb:g.blocks[b]?=some blk) :
  ((co g b).testBit v=true↔fk n blk=1)∧(fk n blk=0↔(co g b).testBit v=false∧(bF g b).testBit v=false):=by
 have hm:=Fp hb
 rw [lZ hb,kN hb]
 exact BE (sQ G) (by have:=iq G;omega) hv blk (fun s hs=>⟨kP G hm s hs,yU G hm hs⟩) (pV G hm)
theorem okF.b {g:Fn} (h:okF g) {b:Bk} (hb:b∈g.blocks):b.steps.length≤4000000∧(∀ s∈b.steps,bx s.terms≤1000000000000000)∧bx b.terms≤1000000000000000∧b.to.length≤4000000:=by
 obtain ⟨_,_,_,_,_,h6⟩:=h
 obtain ⟨k1,k2,k3,k4⟩:=h6 b hb
 exact ⟨k1,fun s hs=>(k2 s hs).sz,k3.sz,k4⟩
theorem getD_some {l:List Bool} {i:Nat} {x:Bool} (h:l[i]?=some x):l.getD i false=x:=by rw [List.getD_eq_getElem?_getD,h];rfl
theorem w32 {P:Pi} {g:Fn} (G:GdF P g) (hok:okF g) {v:Nat} {n:Nm} (hv:(nmV g)[v]?=some n):Pure Tryz.prog 32 [.agg (fnE g),.str n] (blA (lvL g v)):=by
 refine Pure.own (e:=4) (zh _) fun nx=>AC.go aI is32 (by simp) ?_
 have ff:=bN g
 have lb:=dv g.blocks
 have hn60:=G.n2
 have hGl:=uX G
 have hmk:=zU (n:=g.blocks.length) (b:=1) (by omega) (by omega)
 have mkb:=CQ g.blocks.length
 have z1:(nx+1=nx)=False:=eq_false (by omega)
 obtain ⟨m,hm⟩:∃ m,m=g.blocks.length:=⟨_,rfl⟩
 rw [ff]
 simp -implicitDefEqProofs only [RA,ae,zp,↓reduceIte,reduceCtorEq,zq,zr,zs,zt,↓aA,↓az,↓au,↓ar,↓ay,↓aw,↓ak,↓aj,↓aC,↓aB,↓aE,↓aD,unA,ne_eq,not_true_eq_false,not_false_eq_true,A32,ES,lb,hmk,mkb,z1,Gz]
 obtain ⟨c2,hc2⟩:∃ c,c=nx:=⟨_,rfl⟩
 obtain ⟨rb,hrb⟩:∃ c,c=nx+1:=⟨_,rfl⟩
 refine aJ (fun q st=>∃ (N:List Bool) (mo:Bool),q=cf N+(if mo=true then 1 else 0)∧ah st.env 1=some (.str n)∧ah st.env 2=some (.op c2 0)∧ah st.env 5=some (.os rb 0 4 1 g.blocks.length)∧ah st.env 6=some (.bool mo) ∧
   aq st.heap c2=some (.cells (fnE g))∧aq st.heap rb=some (.cells (N.map .bool))∧rb<st.nx∧N.length=g.blocks.length∧NDI (nbG g) (co g) (bF g) v (fun b=>N.getD b false) ∧
   (mo=false→∀ b,b<g.blocks.length→isN (nbG g) (co g) (bF g) v (fun b=>N.getD b false) b=true→N.getD b false=true)∧st.dm=[]) (n:=cf (blL g.blocks.length [])+1) aI
  ⟨blL g.blocks.length [],true,by simp,by simp [ah],by simp [ah,hc2],by simp [ah,hrb],by simp [ah],by simp only;rw [af,if_neg (by omega),af,if_pos hc2.symm,ff],by simp only;rw [af,if_pos hrb.symm],by simp only;omega,rZ _ _,⟨fun b hb=>by
   exfalso
   simp [blL,List.getD_eq_getElem?_getD] at hb
   cases hq:(List.range g.blocks.length)[b]? <;> simp [hq] at hb⟩,(fun h=>by cases h),rfl⟩ ?_
 rintro q ⟨env,heap,nx',dm⟩ ⟨N0,mo,rfl,g1,g2,g5,g6,b2,br,hlt,hl0,hI0,hfix,hdm⟩
 simp only at g1 g2 g5 g6 b2 br hlt hdm
 subst hdm
 cases mo
 case false =>
  simp -implicitDefEqProofs only [RA,ae,zp,↓reduceIte,reduceCtorEq,zq,zr,zs,zt,↓aA,↓az,↓au,↓ar,↓ay,↓aw,↓ak,↓aj,↓aC,↓aB,↓aE,↓aD,unA,ne_eq,not_true_eq_false,not_false_eq_true,xo,qN,g1,g2,g5,g6,R32]
  have e:N0=lvL g v:=by
   apply List.ext_getElem?
   intro b
   by_cases hb:b<g.blocks.length
   ·have hd:=hI0.done hGl (hfix rfl) b hb
    rw [jF hb,Fo (by omega)]
    congr 1
    have e2:N0.getD b false=N0[b]:=getD_some (Fo (by omega))
    rw [e2] at hd
    rw [Bool.eq_iff_iff,hd,eY]
   ·rw [List.getElem?_eq_none (by omega),List.getElem?_eq_none (by rw [rJ];omega)]
  rw [e] at br
  exact ⟨_,rfl,.inr ⟨rb,by rw [Fw,rJ],by rw [vY];exact br,hlt⟩⟩
 simp -implicitDefEqProofs only [RA,ae,zp,↓reduceIte,reduceCtorEq,zq,zr,zs,zt,↓aA,↓az,↓au,↓ar,↓ay,↓aw,↓ak,↓aj,↓aC,↓aB,↓aE,↓aD,unA,ne_eq,not_true_eq_false,not_false_eq_true,xo,qN,g1,g2,g5,g6]
 clear hfix
 refine aJ (fun q st=>∃ (b:Nat) (N:List Bool) (mo:Bool),q=g.blocks.length-b∧b≤g.blocks.length∧ah st.env 1=some (.str n)∧ah st.env 2=some (.op c2 0)∧ah st.env 5=some (.os rb 0 4 1 g.blocks.length)∧ah st.env 6=some (.bool mo)∧ah st.env 7=some (.int .i64 b) ∧
   aq st.heap c2=some (.cells (fnE g))∧aq st.heap rb=some (.cells (N.map .bool))∧rb<st.nx∧N.length=g.blocks.length∧NDI (nbG g) (co g) (bF g) v (fun b=>N.getD b false) ∧
   ((mo=false∧N=N0∧∀ x,x<b→isN (nbG g) (co g) (bF g) v (fun b=>N0.getD b false) x=true→N0.getD x false=true)∨(mo=true∧cf N<cf N0))∧st.dm=[]) (n:=g.blocks.length) aI
  ⟨0,N0,false,rfl,by omega,by simp [ah,g1],by simp [ah,g2],by simp [ah,g5],by simp [ah],by simp [ah],b2,br,hlt,hl0,hI0,.inl ⟨rfl,rfl,fun x hx=>by omega⟩,rfl⟩ ?_
 clear g1 g2 g5 g6 b2 br hlt
 rintro q ⟨env,heap,nx',dm⟩ ⟨b,N,mo,rfl,hb,g1,g2,g5,g6,g7,b2,br,hlt,hl,hI,hcase,hdm⟩
 simp only at g1 g2 g5 g6 g7 b2 br hlt hdm
 subst hdm
 rw [ff] at b2
 have f1:=wS (i:=b) (by omega)
 by_cases hc:(b:Int)<(g.blocks.length:Int)
 case neg =>
  have eb:b=g.blocks.length:=by omega
  simp -implicitDefEqProofs only [RA,ae,zp,↓reduceIte,reduceCtorEq,zq,zr,zs,zt,↓aA,↓az,↓au,↓ar,↓ay,↓aw,↓ak,↓aj,↓aC,↓aB,↓aE,↓aD,unA,ne_eq,not_true_eq_false,not_false_eq_true,xp,qO,g1,g2,g5,g6,g7,b2,lb,hc]
  rcases hcase with ⟨k1,k2,k3⟩|⟨k1,k2⟩
  ·subst k1 k2
   exact ⟨cf N+0,by simp,N,false,by simp,rfl,by rw [ff],br,hlt,hl,hI,fun _ x hx=>k3 x (by omega)⟩
  ·subst k1
   exact ⟨cf N+1,by simp;omega,N,true,by simp,rfl,by rw [ff],br,hlt,hl,hI,fun h=>by cases h⟩
 have hbn:b<g.blocks.length:=by omega
 have hblk:=Fo (l:=g.blocks) hbn
 generalize g.blocks[b]=blk at hblk
 have hbm:=Fp hblk
 obtain ⟨o1,o2,o3,o4⟩:=hok.b hbm
 have ix:=dH hblk
 have bl:=iL blk
 have bt:=jp blk
 have hw:=w51 blk n o1 o2 o3
 have wa:=w33 blk o4
 have hto:=G.to2 blk hbm
 rw [v8 hto] at wa
 have nbe:=i9 hblk
 obtain ⟨q1,q2⟩:=tu G hv hblk
 rw [eD] at ix bl bt hw wa
 have hNb:=Fo (l:=N) (show b<N.length by omega)
 generalize N[b]=nb at hNb
 have hNd:=getD_some hNb
 have hib:isN (nbG g) (co g) (bF g) v (fun b=>N.getD b false) b=(if fk n blk=1 then true else if fk n blk=0 then (nbG g b).any (fun b=>N.getD b false) else false):=by
  unfold isN
  by_cases h1:fk n blk=1
  ·rw [if_pos h1,q1.2 h1];rfl
  ·rw [if_neg h1]
   have hg0:(co g b).testBit v=false:=by
    cases hq:(co g b).testBit v
    ·rfl
    ·exact absurd (q1.1 hq) h1
   by_cases h0:fk n blk=0
   ·rw [if_pos h0,(q2.1 h0).1,(q2.1 h0).2];rfl
   ·rw [if_neg h0,hg0]
    have:(bF g b).testBit v=true:=by
     cases hq:(bF g b).testBit v
     ·exact absurd (q2.2 ⟨hg0,hq⟩) h0
     ·rfl
    rw [this];rfl
 have ib:=fV (b:=rb) (e:=4) (n:=g.blocks.length) (i:=b) hbn
 have hdrb:=eB (f:=AV.bool) hNb
 have hput:=kf (f:=AV.bool) (l:=N) (i:=b) (by omega) true
 have hle:=mU (f:=AV.bool) (l:=N) (i:=b) (by omega)
 have y1:(rb=c2)=False:=eq_false (by omega)
 have keep:isN (nbG g) (co g) (bF g) v (fun b=>N.getD b false) b=false∨nb=true→(mo=false∧N=N0∧∀ x,x<b+1→isN (nbG g) (co g) (bF g) v (fun b=>N0.getD b false) x=true→N0.getD x false=true)∨(mo=true∧cf N<cf N0):=by
  intro h
  rcases hcase with ⟨k1,k2,k3⟩|k
  ·refine .inl ⟨k1,k2,fun x hx hi=>?_⟩
   by_cases e:x=b
   ·subst e;rw [← k2] at hi ⊢
    rcases h with h|h
    ·rw [h] at hi;cases hi
    ·rw [hNd,h]
   ·exact k3 x (by omega) hi
  ·exact .inr k
 have newN:isN (nbG g) (co g) (bF g) v (fun b=>N.getD b false) b=true→nb=false→NDI (nbG g) (co g) (bF g) v (fun x=>(N.set b true).getD x false)∧cf (N.set b true)<cf N0:=by
  intro h1 h2
  refine ⟨⟨fun x hx=>?_⟩,?_⟩
  ·by_cases e:x=b
   ·subst e;exact yN hI h1
   ·refine hI.sub x ?_
    simp only [List.getD_eq_getElem?_getD] at hx ⊢
    rw [List.getElem?_set_ne (by omega)] at hx;exact hx
  ·have:=vX N b (by rw [hNb,h2])
   rcases hcase with ⟨_,k2,_⟩|⟨_,k2⟩
   ·rw [← k2];omega
   ·omega
 have hib1:fk n blk=1→isN (nbG g) (co g) (bF g) v (fun b=>N.getD b false) b=true:=fun h=>by rw [hib,if_pos h]
 have hib0:fk n blk=0→isN (nbG g) (co g) (bF g) v (fun b=>N.getD b false) b=(nbG g b).any (fun b=>N.getD b false):=fun h=>by rw [hib,if_neg (by omega),if_pos h]
 have hib2:fk n blk≠1→fk n blk≠0→isN (nbG g) (co g) (bF g) v (fun b=>N.getD b false) b=false:=fun h1 h0=>by rw [hib,if_neg h1,if_neg h0]
 clear hib q1 q2
 simp -implicitDefEqProofs only [RA,ae,zp,↓reduceIte,reduceCtorEq,zq,zr,zs,zt,↓aA,↓az,↓au,↓ar,↓ay,↓aw,↓ak,↓aj,↓aC,↓aB,↓aE,↓aD,unA,ne_eq,not_true_eq_false,not_false_eq_true,xp,qO,g1,g2,g5,g6,g7,b2,lb,hc,ix,bl,bt]
 refine hw.use fun k1 hk1=>?_
 simp -implicitDefEqProofs only [RA,ae,zp,↓reduceIte,reduceCtorEq,zq,zr,zs,zt,↓aA,↓az,↓au,↓ar,↓ay,↓aw,↓ak,↓aj,↓aC,↓aB,↓aE,↓aD,unA,ne_eq,not_true_eq_false,not_false_eq_true,g1,g2,g5,g6,g7,b2,lb,ix,bl,bt]
 refine hw.use fun k2 hk2=>?_
 rcases ai (fk n blk=1) with ⟨c1,d1⟩|⟨c1,d1⟩
 ·have hi1:=hib1 c1
  have d0:(fk n blk=0)=False:=eq_false (by omega)
  cases nb
  ·obtain ⟨e1,e2⟩:=newN hi1 rfl
   simp -implicitDefEqProofs only [RA,ae,zp,↓reduceIte,reduceCtorEq,zq,zr,zs,zt,↓aA,↓az,↓au,↓ar,↓ay,↓aw,↓ak,↓aj,↓aC,↓aB,↓aE,↓aD,unA,ne_eq,not_true_eq_false,not_false_eq_true,g1,g2,g5,g6,g7,b2,lb,d1,d0,ib,br,hdrb,bE,hput,hle,y1,f1]
   exact ⟨g.blocks.length-(b+1),by omega,b+1,N.set b true,true,rfl,by omega,rfl,rfl,by rw [ff],rfl,by omega,by rw [F4];exact hl,e1,.inr ⟨rfl,e2⟩⟩
  ·have hkk:=keep (.inr rfl)
   simp -implicitDefEqProofs only [RA,ae,zp,↓reduceIte,reduceCtorEq,zq,zr,zs,zt,↓aA,↓az,↓au,↓ar,↓ay,↓aw,↓ak,↓aj,↓aC,↓aB,↓aE,↓aD,unA,ne_eq,not_true_eq_false,not_false_eq_true,g1,g2,g5,g6,g7,b2,lb,d1,d0,ib,br,hdrb,bE,f1]
   exact ⟨g.blocks.length-(b+1),by omega,b+1,N,mo,rfl,by omega,rfl,rfl,by rw [ff],rfl,by omega,hl,hI,hkk⟩
 rcases ai (fk n blk=0) with ⟨c0,d0⟩|⟨c0,d0⟩
 rotate_left
 ·have hkk:=keep (.inl (hib2 c1 c0))
  simp -implicitDefEqProofs only [RA,ae,zp,↓reduceIte,reduceCtorEq,zq,zr,zs,zt,↓aA,↓az,↓au,↓ar,↓ay,↓aw,↓ak,↓aj,↓aC,↓aB,↓aE,↓aD,unA,ne_eq,not_true_eq_false,not_false_eq_true,g1,g2,g5,g6,g7,b2,lb,d1,d0,ib,br,hdrb,bE,f1]
  exact ⟨g.blocks.length-(b+1),by omega,b+1,N,mo,rfl,by omega,rfl,rfl,by rw [ff],rfl,by omega,hl,hI,hkk⟩
 have hi0:=hib0 c0
 have lr:=eO (nxL blk.to)
 have hnl:=rF blk.to
 simp -implicitDefEqProofs only [RA,ae,zp,↓reduceIte,reduceCtorEq,zq,zr,zs,zt,↓aA,↓az,↓au,↓ar,↓ay,↓aw,↓ak,↓aj,↓aC,↓aB,↓aE,↓aD,unA,ne_eq,not_true_eq_false,not_false_eq_true,g1,g2,g5,g6,g7,b2,lb,ix,bl,bt,d1,d0]
 refine wa.use fun k3 hk3=>?_
 simp -implicitDefEqProofs only [RA,ae,zp,↓reduceIte,reduceCtorEq,zq,zr,zs,zt,↓aA,↓az,↓au,↓ar,↓ay,↓aw,↓ak,↓aj,↓aC,↓aB,↓aE,↓aD,unA,ne_eq,not_true_eq_false,not_false_eq_true,g1,g2,g5,g6,g7,b2,lb]
 refine aJ (fun q st=>∃ (i:Nat),q=(nxL blk.to).length-i∧i≤(nxL blk.to).length∧ah st.env 1=some (.str n)∧ah st.env 2=some (.op c2 0)∧ah st.env 5=some (.os rb 0 4 1 g.blocks.length)∧ah st.env 6=some (.bool mo)∧ah st.env 7=some (.int .i64 b) ∧
   ah st.env 8=some (.bool ((((nxL blk.to).take i).map Int.toNat).any fun c=>N.getD c false))∧ah st.env 9=some (cD (nxL blk.to))∧ah st.env 10=some (.int .i64 i) ∧
   aq st.heap c2=some (.cells [.str g.name,bp g.params,.int .i64 g.result,bp g.locals,cp g.blocks])∧aq st.heap rb=some (.cells (N.map .bool))∧rb<st.nx∧st.dm=[]) (n:=(nxL blk.to).length) aI
  ⟨0,rfl,by omega,by simp [ah,g1],by simp [ah,g2],by simp [ah,g5],by simp [ah,g6],by simp [ah,g7],by simp [ah],by simp [ah],by simp [ah],by simp only;rw [← b2];skip,by simp only;rw [← br];skip,by simp only;omega,rfl⟩ ?_
 clear g1 g2 g5 g6 g7 b2 br
 rintro q ⟨env,heap,nx3,dm⟩ ⟨i,rfl,hi,g1,g2,g5,g6,g7,g8,g9,g10,b2,br,hlt3,hdm⟩
 simp only at g1 g2 g5 g6 g7 g8 g9 g10 b2 br hlt3 hdm
 subst hdm
 have f2:=wS (i:=i) (by omega)
 by_cases hci:(i:Int)<((nxL blk.to).length:Int)
 case neg =>
  rw [show (nxL blk.to).take i=nxL blk.to from Fs (by omega),← nbe,← hi0] at g8
  cases hq:isN (nbG g) (co g) (bF g) v (fun b=>N.getD b false) b
  ·have hkk:=keep (.inl hq)
   rw [hq] at g8
   simp -implicitDefEqProofs only [RA,ae,zp,↓reduceIte,reduceCtorEq,zq,zr,zs,zt,↓aA,↓az,↓au,↓ar,↓ay,↓aw,↓ak,↓aj,↓aC,↓aB,↓aE,↓aD,unA,ne_eq,not_true_eq_false,not_false_eq_true,mr,jM,g1,g2,g5,g6,g7,g8,g9,g10,lr,hci,b2,lb,ib,br,hdrb,bE,f1]
   exact ⟨g.blocks.length-(b+1),by omega,b+1,N,mo,rfl,by omega,rfl,rfl,by rw [ff],rfl,by omega,hl,hI,hkk⟩
  rw [hq] at g8
  cases nb
  ·obtain ⟨e1,e2⟩:=newN hq rfl
   simp -implicitDefEqProofs only [RA,ae,zp,↓reduceIte,reduceCtorEq,zq,zr,zs,zt,↓aA,↓az,↓au,↓ar,↓ay,↓aw,↓ak,↓aj,↓aC,↓aB,↓aE,↓aD,unA,ne_eq,not_true_eq_false,not_false_eq_true,mr,jM,g1,g2,g5,g6,g7,g8,g9,g10,lr,hci,b2,lb,ib,br,hdrb,bE,hput,hle,y1,f1]
   exact ⟨g.blocks.length-(b+1),by omega,b+1,N.set b true,true,rfl,by omega,rfl,rfl,by rw [ff],rfl,by omega,by rw [F4];exact hl,e1,.inr ⟨rfl,e2⟩⟩
  ·have hkk:=keep (.inr rfl)
   simp -implicitDefEqProofs only [RA,ae,zp,↓reduceIte,reduceCtorEq,zq,zr,zs,zt,↓aA,↓az,↓au,↓ar,↓ay,↓aw,↓ak,↓aj,↓aC,↓aB,↓aE,↓aD,unA,ne_eq,not_true_eq_false,not_false_eq_true,mr,jM,g1,g2,g5,g6,g7,g8,g9,g10,lr,hci,b2,lb,ib,br,hdrb,bE,f1]
   exact ⟨g.blocks.length-(b+1),by omega,b+1,N,mo,rfl,by omega,rfl,rfl,by rw [ff],rfl,by omega,hl,hI,hkk⟩
 have hr:=Fo (show i<(nxL blk.to).length by omega)
 generalize (nxL blk.to)[i]=c at hr
 have hcr:=kI G hblk (c:=c) (Fp hr)
 obtain ⟨cn,rfl⟩:∃ k:Nat,c=(k:Int):=⟨c.toNat,by omega⟩
 have ixr:=eu hr
 rw [inE] at ixr
 have hs:(((nxL blk.to).take (i+1)).map Int.toNat).any (fun c=>N.getD c false)=((((nxL blk.to).take i).map Int.toNat).any (fun c=>N.getD c false)||N.getD cn false):=by
  rw [aQ hr,FC,List.any_append];simp
 have hNc:=Fo (l:=N) (show cn<N.length by omega)
 have hNcd:=getD_some hNc
 rw [hNcd] at hs
 generalize N[cn]'(by omega)=x at hNc hs hNcd
 have ic:=fV (b:=rb) (e:=4) (n:=g.blocks.length) (i:=cn) (by omega)
 have hdrc:=eB (f:=AV.bool) hNc
 cases ha:(((nxL blk.to).take i).map Int.toNat).any fun c=>N.getD c false
 ·rw [ha] at g8 hs
  simp -implicitDefEqProofs only [RA,ae,zp,↓reduceIte,reduceCtorEq,zq,zr,zs,zt,↓aA,↓az,↓au,↓ar,↓ay,↓aw,↓ak,↓aj,↓aC,↓aB,↓aE,↓aD,unA,ne_eq,not_true_eq_false,not_false_eq_true,mr,jM,g1,g2,g5,g6,g7,g8,g9,g10,lr,hci,ixr,ic,br,hdrc,bE,f2]
  exact ⟨(nxL blk.to).length-(i+1),by omega,i+1,rfl,by omega,by rw [hs,Bool.false_or],rfl,b2,by omega⟩
 ·rw [ha] at g8 hs
  simp -implicitDefEqProofs only [RA,ae,zp,↓reduceIte,reduceCtorEq,zq,zr,zs,zt,↓aA,↓az,↓au,↓ar,↓ay,↓aw,↓ak,↓aj,↓aC,↓aB,↓aE,↓aD,unA,ne_eq,not_true_eq_false,not_false_eq_true,mr,jM,g1,g2,g5,g6,g7,g8,g9,g10,lr,hci,ixr,ic,br,hdrc,bE,f2]
  exact ⟨(nxL blk.to).length-(i+1),by omega,i+1,rfl,by omega,by rw [hs,Bool.true_or],rfl,b2,by omega⟩
def vpE (p:AV × AV):List AV:=[p.1,p.2]
theorem rk (l:List (AV × AV)):∀ z∈l.map vpE,z.length=2:=fun z hz=>by
 obtain ⟨r,_,rfl⟩:=Fy.1 hz;rfl
def vsC (vs:List (AV × AV)):List AV:=(vs.map vpE).flatten
theorem mu:∀ vs:List (AV × AV),(vsC vs).length=2*vs.length
 | []=>rfl
 | p::r=>by
  have:=mu r
  simp only [vsC,FU,List.flatten_cons,FB,Fu] at this ⊢
  simp only [vpE,Fu,List.length_nil];omega
theorem fG (p:AV × AV) (r:List (AV × AV)):vsC (p::r)=p.1::p.2::vsC r:=rfl
theorem my:∀ {vs:List (AV × AV)} {b:Nat} {p:AV × AV},vs[b]?=some p→(vsC vs).drop (2*b)=p.1::(vsC vs).drop (2*b+1)
 | [],b,p,h=>by simp at h
 | q::r,0,p,h=>by simp at h;subst h;rfl
 | q::r,b+1,p,h=>by
  have:=my (vs:=r) (b:=b) (by simpa using h)
  rw [fG,show 2*(b+1)=2*b+1+1 by omega,List.drop_succ_cons,List.drop_succ_cons,this,List.drop_succ_cons,List.drop_succ_cons]
theorem mw:∀ {vs:List (AV × AV)} {b:Nat} {p:AV × AV},vs[b]?=some p→(vsC vs).drop (2*b+1)=p.2::(vsC vs).drop (2*b+1+1)
 | [],b,p,h=>by simp at h
 | q::r,0,p,h=>by simp at h;subst h;rfl
 | q::r,b+1,p,h=>by
  have:=mw (vs:=r) (b:=b) (by simpa using h)
  rw [fG,show 2*(b+1)+1=2*b+1+1+1 by omega,List.drop_succ_cons,List.drop_succ_cons,this,List.drop_succ_cons,List.drop_succ_cons]
theorem nO:∀ {vs:List (AV × AV)} {b:Nat} {p:AV × AV} (x:AV),vs[b]?=some p→(vsC vs).take (2*b)++x::(vsC vs).drop (2*b+1)=vsC (vs.set b (x,p.2))
 | [],b,p,x,h=>by simp at h
 | q::r,0,p,x,h=>by simp at h;subst h;rfl
 | q::r,b+1,p,x,h=>by
  have:=nO (vs:=r) (b:=b) x (by simpa using h)
  rw [fG,show 2*(b+1)=2*b+1+1 by omega,List.take_succ_cons,List.take_succ_cons,List.drop_succ_cons,List.drop_succ_cons,F2,fG,← this];rfl
theorem ku:∀ {vs:List (AV × AV)} {b:Nat} {p:AV × AV} (x:AV),vs[b]?=some p→(vsC vs).take (2*b+1)++x::(vsC vs).drop (2*b+1+1)=vsC (vs.set b (p.1,x))
 | [],b,p,x,h=>by simp at h
 | q::r,0,p,x,h=>by simp at h;subst h;rfl
 | q::r,b+1,p,x,h=>by
  have:=ku (vs:=r) (b:=b) x (by simpa using h)
  rw [fG,show 2*(b+1)+1=2*b+1+1+1 by omega,List.take_succ_cons,List.take_succ_cons,List.drop_succ_cons,List.drop_succ_cons,F2,fG,← this];rfl
def cB (vs:List (AV × AV)) (b:Nat) (s:Bool):Option AV:=(vs[b]?).map fun p=>if s=true then p.2 else p.1
def fj (ls:List (List Nm × List Nm)) (b:Nat) (s:Bool):Option (List Nm):=(ls[b]?).map fun p=>if s=true then p.2 else p.1
structure CS (h:Heap) (nx:Nat) (vs:List (AV × AV)) (ls:List (List Nm × List Nm)):Prop where
 len:vs.length=ls.length
 own:∀ b s x d,cB vs b s=some x→fj ls b s=some d→aR 9 1 h nx x (d.map nmE)
 ne:∀ b s b' s' x x' c,cB vs b s=some x→cB vs b' s'=some x'→aP x=some c→aP x'=some c→b=b'∧s=s'
theorem fw {vs:List (AV × AV)} {ls:List (List Nm × List Nm)} (hl:vs.length=ls.length) {b:Nat} {s:Bool} {x:AV} (h:cB vs b s=some x):∃ d,fj ls b s=some d:=by
 unfold cB at h
 obtain ⟨p,hp,_⟩:=Option.map_eq_some_iff.1 h
 have:=(Fq.1 hp).1
 exact ⟨_,by unfold fj;rw [Fo (by omega)];rfl⟩
theorem CS.ext {h h':Heap} {nx nx':Nat} {vs:List (AV × AV)} {ls:List (List Nm × List Nm)} (c:CS h nx vs ls) (hn:nx≤nx') (hk:∀ b s x k o,cB vs b s=some x→aP x=some k→aq h k=some o→aq h' k=some o):CS h' nx' vs ls :=
 ⟨c.len,fun b s x d h1 h2=>(c.own b s x d h1 h2).keep hn fun k o h3 h4=>hk b s x k o h1 h3 h4,c.ne⟩
def kE (vs:List (AV × AV)) (b:Nat) (s:Bool) (x:AV):List (AV × AV):=match vs[b]? with|some p=>vs.set b (if s=true then (p.1,x) else (x,p.2))|none=>vs
def iG (ls:List (List Nm × List Nm)) (b:Nat) (s:Bool) (x:List Nm):List (List Nm × List Nm):=match ls[b]? with|some p=>ls.set b (if s=true then (p.1,x) else (x,p.2))|none=>ls
theorem nY (vs:List (AV × AV)) (b:Nat) (s:Bool) (x:AV):(kE vs b s x).length=vs.length:=by
 unfold kE;split <;> simp
theorem iW (ls:List (List Nm × List Nm)) (b:Nat) (s:Bool) (x:List Nm):(iG ls b s x).length=ls.length:=by
 unfold iG;split <;> simp
theorem mG {vs:List (AV × AV)} {b b':Nat} {s s':Bool} {x:AV} (hb:b<vs.length):cB (kE vs b s x) b' s'=if b'=b∧s'=s then some x else cB vs b' s':=by
 unfold kE cB
 rw [Fo hb]
 simp only
 by_cases e:b'=b
 ·subst e
  rw [List.getElem?_set_self hb,Fo hb]
  cases s <;> cases s' <;> simp
 ·rw [List.getElem?_set_ne (fun h=>e h.symm),if_neg fun h=>e h.1]
theorem mH {ls:List (List Nm × List Nm)} {b b':Nat} {s s':Bool} {x:List Nm} (hb:b<ls.length):fj (iG ls b s x) b' s'=if b'=b∧s'=s then some x else fj ls b' s':=by
 unfold iG fj
 rw [Fo hb]
 simp only
 by_cases e:b'=b
 ·subst e
  rw [List.getElem?_set_self hb,Fo hb]
  cases s <;> cases s' <;> simp
 ·rw [List.getElem?_set_ne (fun h=>e h.symm),if_neg fun h=>e h.1]
theorem CS.upd {h h4 h':Heap} {nx n4:Nat} {vs:List (AV × AV)} {ls:List (List Nm × List Nm)} (c:CS h nx vs ls) {b:Nat} {s:Bool} {x x':AV} {d:List Nm} {nm:Nm} (hx:cB vs b s=some x) (hb:b<vs.length)
  (hg:Grw 9 1 h nx x h4 n4 x' ((d++[nm]).map nmE)) (hk:∀ k o,(∃ b1 s1 y,cB (kE vs b s x') b1 s1=some y∧aP y=some k)∨(∃ b s y,cB vs b s=some y∧aP y=some k)∨aP x'=some k→aq h4 k=some o→aq h' k=some o):CS h' n4 (kE vs b s x') (iG ls b s (d++[nm])):=by
 obtain ⟨og,hle,fr,id⟩:=hg
 refine ⟨by rw [nY,iW];exact c.len,fun b1 s1 x1 d1 h1 h2=>?_,fun b1 s1 b2 s2 x1 x2 k h1 h2 k1 k2=>?_⟩
 ·rw [mG hb] at h1
  rw [mH (by rw [← c.len];exact hb)] at h2
  split at h1
  ·rename_i e
   rw [if_pos e] at h2
   injection h1 with h1;injection h2 with h2;subst h1 h2
   exact og.keep (Gp _) fun k o k1 k2=>hk k o (.inr (.inr k1)) k2
  ·rename_i e
   rw [if_neg e] at h2
   have ho:=c.own b1 s1 x1 d1 h1 h2
   refine ho.keep hle fun k o k1 k2=>hk k o (.inr (.inl ⟨b1,s1,x1,h1,k1⟩)) ?_
   refine fr k o (ho.blk k1).2.2 k2 fun k3=>e ?_
   exact c.ne b1 s1 b s x1 x k h1 hx k1 k3
 ·rw [mG hb] at h1 h2
  split at h1
  ·rename_i e1
   injection h1 with h1;subst h1
   split at h2
   ·rename_i e2;exact ⟨by rw [e1.1,e2.1],by rw [e1.2,e2.2]⟩
   ·rename_i e2
    exfalso
    obtain ⟨d2,hd2⟩:=fw c.len h2
    have hlt:=((c.own b2 s2 x2 d2 h2 hd2).blk k2).2.2
    rcases id k k1 with h3|h3
    ·omega
    ·exact e2 (c.ne b2 s2 b s x2 x k h2 hx k2 h3)
  ·rename_i e1
   split at h2
   ·rename_i e2
    injection h2 with h2;subst h2
    exfalso
    obtain ⟨d1,hd1⟩:=fw c.len h1
    have hlt:=((c.own b1 s1 x1 d1 h1 hd1).blk k1).2.2
    rcases id k k2 with h3|h3
    ·omega
    ·exact e1 (c.ne b1 s1 b s x1 x k h1 hx k1 h3)
   ·exact c.ne b1 s1 b2 s2 x1 x2 k h1 h2 k1 k2
theorem rC {b n i:Nat} {e:TypeId} (h:i<n):idxA 2 (.os b 0 e 2 n) (i:Int)=some (.op b (2*i)):=by
 have:(i:Int)<(n:Int):=by omega
 simp [idxA,this];omega
noncomputable def pkK (g:Fn) (p:Nat→Prop) (k:Nat):List Nm:=((List.range k).filter fun i=>dc (p i)).map fun i=>(nmV g).getD i []
theorem rB {g:Fn} {p:Nat→Prop} {k:Nat} {nm:Nm} (h:p k) (hn:(nmV g)[k]?=some nm):pkK g p (k+1)=pkK g p k++[nm]:=by
 unfold pkK
 rw [List.range_succ,List.filter_append,FC]
 congr 1
 simp only [List.filter_cons,List.filter_nil,pZ h,if_true,FU,List.map_nil]
 rw [List.getD_eq_getElem?_getD,hn];rfl
theorem uI {g:Fn} {p:Nat→Prop} {k:Nat} (h:¬ p k):pkK g p (k+1)=pkK g p k:=by
 unfold pkK
 rw [List.range_succ,List.filter_append]
 simp [Dv h]
theorem iY (g:Fn) (p:Nat→Prop) (k:Nat):(pkK g p k).length≤k:=by
 have:=List.length_filter_le (fun i=>dc (p i)) (List.range k)
 rw [List.length_range] at this
 rw [pkK,Fw];exact this
abbrev LvG (g:Fn) (i x:Nat):Prop:=Lv (nbG g) (co g) (bF g) i x
abbrev LoG (g:Fn) (i x:Nat):Prop:=Lo (nbG g) (co g) (bF g) i x
noncomputable def lsF (g:Fn) (K1 K2:Nat→Nat):List (List Nm × List Nm):=(List.range g.blocks.length).map fun x=>(pkK g (fun i=>LvG g i x) (K1 x),pkK g (fun i=>LoG g i x) (K2 x))
theorem ep (g:Fn) (K1 K2:Nat→Nat):(lsF g K1 K2).length=g.blocks.length:=by simp [lsF]
theorem dW {g:Fn} {K1 K2:Nat→Nat} {x:Nat} (h:x<g.blocks.length):(lsF g K1 K2)[x]?=some (pkK g (fun i=>LvG g i x) (K1 x),pkK g (fun i=>LoG g i x) (K2 x)):=by simp [lsF,h]
def jn (K:Nat→Nat) (b:Nat):Nat→Nat:=fun x=>if x=b then K x+1 else K x
theorem kg {g:Fn} {K1 K2:Nat→Nat} {l:List (List Nm × List Nm)} (hl:l.length=g.blocks.length) (h:∀ x,x<g.blocks.length→l[x]?=some (pkK g (fun i=>LvG g i x) (K1 x),pkK g (fun i=>LoG g i x) (K2 x))):l=lsF g K1 K2:=by
 apply List.ext_getElem?
 intro x
 by_cases hx:x<g.blocks.length
 ·rw [h x hx,dW hx]
 ·rw [List.getElem?_eq_none (by omega),List.getElem?_eq_none (by rw [ep];omega)]
theorem Bt {g:Fn} {K1 K2:Nat→Nat} {b:Nat} {nm:Nm} (hb:b<g.blocks.length) (hn:(nmV g)[K1 b]?=some nm) (h:LvG g (K1 b) b):iG (lsF g K1 K2) b false (pkK g (fun i=>LvG g i b) (K1 b)++[nm])=lsF g (jn K1 b) K2:=by
 refine kg (by rw [iW,ep]) fun x hx=>?_
 unfold iG
 rw [dW hb]
 simp only [Bool.false_eq_true,if_false]
 by_cases e:x=b
 ·subst e
  rw [List.getElem?_set_self (by rw [ep];exact hx)]
  simp only [jn,if_true,rB (p:=fun i=>LvG g i x) h hn]
 ·rw [List.getElem?_set_ne (fun h=>e h.symm),dW hx]
  simp only [jn,if_neg e]
theorem s5 {g:Fn} {K1 K2:Nat→Nat} {b:Nat} (h:¬ LvG g (K1 b) b):lsF g K1 K2=lsF g (jn K1 b) K2:=by
 refine kg (ep _ _ _) fun x hx=>?_
 rw [dW hx]
 by_cases e:x=b
 ·subst e;simp only [jn,if_true,uI (p:=fun i=>LvG g i x) h]
 ·simp only [jn,if_neg e]
theorem rL {g:Fn} {K1 K2:Nat→Nat} {b:Nat} {nm:Nm} (hb:b<g.blocks.length) (hn:(nmV g)[K2 b]?=some nm) (h:LoG g (K2 b) b):iG (lsF g K1 K2) b true (pkK g (fun i=>LoG g i b) (K2 b)++[nm])=lsF g K1 (jn K2 b):=by
 refine kg (by rw [iW,ep]) fun x hx=>?_
 unfold iG
 rw [dW hb]
 simp only [if_true]
 by_cases e:x=b
 ·subst e
  rw [List.getElem?_set_self (by rw [ep];exact hx)]
  simp only [jn,if_true,rB (p:=fun i=>LoG g i x) h hn]
 ·rw [List.getElem?_set_ne (fun h=>e h.symm),dW hx]
  simp only [jn,if_neg e]
theorem kL {g:Fn} {K1 K2:Nat→Nat} {b:Nat} (h:¬ LoG g (K2 b) b):lsF g K1 K2=lsF g K1 (jn K2 b):=by
 refine kg (ep _ _ _) fun x hx=>?_
 rw [dW hx]
 by_cases e:x=b
 ·subst e;simp only [jn,if_true,uI (p:=fun i=>LoG g i x) h]
 ·simp only [jn,if_neg e]
def LvS (h:Heap) (n:Nat) (v:AV) (ls:List (List Nm × List Nm)):Prop:=∃ vs,aR 36 2 h n v (vs.map vpE)∧CS h n vs ls∧∀ b s x c,cB vs b s=some x→aP x=some c→aP v≠some c
noncomputable def lvR (P:Pi) (f:Int):List (List Nm × List Nm):=if chE P f=0 then (match P[f.toNat]? with|some g=>lsF g (fun _=>(nmV g).length) (fun _=>(nmV g).length)|none=>[]) else []
theorem u9 {P:Pi} {f:Int} {g:Fn} (h:chE P f=0) (hg:P[f.toNat]?=some g):lvR P f=lsF g (fun _=>(nmV g).length) (fun _=>(nmV g).length):=by rw [lvR,if_pos h,hg]
theorem va {P:Pi} {f:Int} (h:chE P f≠0):lvR P f=[]:=if_neg h
theorem LvS.nil (h:Heap) (n:Nat):LvS h n .nilS []:=⟨[],.inl ⟨rfl,rfl⟩,⟨rfl,fun b s x d h1 h2=>by simp [cB] at h1,fun b s b' s' x x' c h1=>by simp [cB] at h1⟩,fun b s x c h1=>by simp [cB] at h1⟩
theorem nX {vs:List (AV × AV)} {b:Nat} {s:Bool} {p:AV × AV} (h:vs[b]?=some p):cB vs b s=some (if s=true then p.2 else p.1):=by unfold cB;rw [h];rfl
theorem kD {vs:List (AV × AV)} {b:Nat} {s:Bool} {p:AV × AV} {x:AV} (h:vs[b]?=some p):kE vs b s x=vs.set b (if s=true then (p.1,x) else (x,p.2)):=by unfold kE;rw [h]
structure LW (g:Fn) (c7 bo:Nat) (h:Heap) (nx:Nat) (vs:List (AV × AV)) (ls:List (List Nm × List Nm)):Prop where
 h7:aq h c7=some (.cells (fnE g))
 hb:aq h bo=some (.cells (vsC vs))
 cs:CS h nx vs ls
 len:vs.length=g.blocks.length
 up:∀ b s x c,cB vs b s=some x→aP x=some c→bo<c
 lt:c7<bo∧bo<nx
theorem LW.mono {g:Fn} {c7 bo:Nat} {h:Heap} {nx nx':Nat} {vs:List (AV × AV)} {ls:List (List Nm × List Nm)} (w:LW g c7 bo h nx vs ls) (hn:nx≤nx'):LW g c7 bo h nx' vs ls :=
 ⟨w.h7,w.hb,w.cs.ext hn fun b s x k o h1 h2 h3=>h3,w.len,w.up,w.lt.1,by have:=w.lt.2;omega⟩
theorem LW.app {g:Fn} {c7 bo:Nat} {h:Heap} {nx:Nat} {vs:List (AV × AV)} {ls:List (List Nm × List Nm)} (w:LW g c7 bo h nx vs ls) {b:Nat} {s:Bool} {p:AV × AV} {d:List Nm} (nm:Nm) (hp:vs[b]?=some p) (hd:fj ls b s=some d) (hl:d.length≤1000) :
  ∃ x' h4 n4,iM 9 1 16 h nx (if s=true then p.2 else p.1) (.lst 1 [[.str nm]])=some (x',h4,n4)∧x'.plain=true∧cellsOf x'=[x']∧aq h4 bo=some (.cells (vsC vs)) ∧
   LW g c7 bo ((bo,.cells (vsC (kE vs b s x')))::h4) n4 (kE vs b s x') (iG ls b s (d++[nm])):=by
 have hx:=nX (s:=s) hp
 have hbl:=(Fq.1 hp).1
 have ho:=w.cs.own b s _ d hx hd
 have wlt:=w.lt
 obtain ⟨x',h4,n4,ea,G⟩:=ho.grw (bytes:=16) (ns:=[nmE nm]) (ir _) (by simp [nmE]) (by simp;omega) (by simp [maxLen];omega)
 rw [show d.map nmE++[nmE nm]=(d++[nm]).map nmE by simp] at G
 have hG:=G
 obtain ⟨og,hle,fr,id⟩:=G
 have hpl:x'.plain=true∧cellsOf x'=[x']:=by
  rcases og with ⟨rfl,_⟩|⟨c,rfl,_⟩ <;> exact ⟨rfl,rfl⟩
 have hup:∀ c,aP x'=some c→bo<c:=fun c hc=>by
  rcases id c hc with h1|h1
  ·omega
  ·exact w.up b s _ c hx h1
 have hnb:∀ k,k≤bo→aP (if s=true then p.2 else p.1)≠some k:=fun k hk e=>by have:=w.up b s _ k hx e;omega
 have e1:=fr bo _ wlt.2 w.hb (hnb bo (Gp _))
 have e2:=fr c7 _ (by omega) w.h7 (hnb c7 (by omega))
 have hup2:∀ b1 s1 y c,cB (kE vs b s x') b1 s1=some y→aP y=some c→bo<c:=fun b1 s1 y c h1 h2=>by
  rw [mG hbl] at h1
  split at h1
  ·injection h1 with h1;subst h1;exact hup c h2
  ·exact w.up b1 s1 y c h1 h2
 refine ⟨x',h4,n4,by rw [nmE] at ea;exact ea,hpl.1,hpl.2,e1,by rw [af,if_neg (by omega)];exact e2,by rw [af,if_pos rfl],w.cs.upd hx hbl hG fun k o hk h1=>?_,by rw [nY];exact w.len,hup2,wlt.1,by omega⟩
 have:bo<k:=by
  rcases hk with ⟨b1,s1,y,h2,h3⟩|⟨b1,s1,y,h2,h3⟩|h3
  ·exact hup2 b1 s1 y k h2 h3
  ·exact w.up b1 s1 y k h2 h3
  ·exact hup k h3
 rw [af,if_neg (by omega)];exact h1
theorem LW.out {g:Fn} {c7 bo:Nat} {h:Heap} {nx:Nat} {vs:List (AV × AV)} {ls:List (List Nm × List Nm)} (w:LW g c7 bo h nx vs ls):LvS h nx (.os bo 0 36 2 g.blocks.length) ls :=
 ⟨vs,.inr ⟨bo,by rw [Fw,w.len],w.hb,w.lt.2⟩,w.cs,fun b s x c h1 h2 e=>by
  have:=w.up b s x c h1 h2
  simp [aP] at e;omega⟩
end Go.Proofs.YtkhjclmfbmfahaaGreatDoor
