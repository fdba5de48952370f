/- A node. -/
import Derived.Test.YtkhjclmfbmfahaaGreatDoorGF
namespace Go.Proofs.YtkhjclmfbmfahaaGreatDoor
open List renaming getElem?_eq_getElem → Fo, mem_of_getElem? → Fp, getElem?_eq_some_iff → Fq, take_of_length_le → Fs, length_map → Fw, mem_map → Fy, all_eq_true → Fz, length_append → FB, map_append → FC, mem_cons → FD, mem_append → FE, mem_singleton → FF, getElem?_of_mem → FH, map_cons → FU
open Bool renaming true_and → Ge, false_and → Gf, and_false → Gj, true_or → Gl, or_true → Gn
open Nat renaming le_refl → Gp
set_option maxHeartbeats 64000000
open Go Go.Ab Go.Proofs
open Nat renaming reduceEqDiff → zp, reduceAdd → zq, reduceLeDiff → zr, reduceLT → zs, reduceBEq → zt
set_option linter.unusedVariables false
set_option linter.unusedSimpArgs false
set_option maxRecDepth 20000
def opK (k:Int):Bool:=decide (3≤k)&&decide (k≤24)
def ndB (x:Tm):Bool :=
 wide x.width&&(if opK x.kind=true then
   decide (x.bits=0)&&(decide (x.name=[])&&((decide (x.low=0)||decide (shW x.kind=5))&&(decide ((x.sub.length:Int)=shA x.kind)&&wdB (shW x.kind) x.width x.low x.sub)))
  else decide (x.sub.length=0)&&(decide (x.low=0)&&(decide (x.kind=1)&&(decide (x.name=[])&&okB x.width x.bits)||decide (x.kind=2)&&(decide (x.bits=0)&&gF x.name))))
def okN (x:Tm):Prop:=0≤x.kind∧x.kind<256∧0≤x.bits∧x.bits<18446744073709551616∧x.name.length≤100000∧x.sub.length≤100000000
theorem CK {k:Int} (h:3≤k) (h':k≤24):1≤shW k∧shW k≤7∧1≤shA k∧(shW k=2∨shW k=4→2≤shA k)∧(shW k=3→3≤shA k):=by
 have:k=3∨k=4∨k=5∨k=6∨k=7∨k=8∨k=9∨k=10∨k=11∨k=12∨k=13∨k=14∨k=15∨k=16∨k=17∨k=18∨k=19∨k=20∨k=21∨k=22∨k=23∨k=24:=by omega
 rcases this with h|h|h|h|h|h|h|h|h|h|h|h|h|h|h|h|h|h|h|h|h|h <;> subst h <;> decide
theorem am (s:Nm):(s==[])=decide (s=[]):=by cases s <;> simp
theorem w97 (x:Tm) (ho:okN x):Pure Tryz.prog 97 [.agg (tmE x)] (.bool (ndB x)):=by
 refine Pure.of fun nx=>AC.go aI is97 (by simp) ?_
 have w110':=w110 x
 have tl:=aY x
 have tk:=aU x
 have e0:=aZ x
 rw [e0] at w110' tl tk ⊢
 unfold ndB
 obtain ⟨h1,h2,h3,h4,h5,h6⟩:=ho
 have lv:=bw x.sub
 simp -implicitDefEqProofs only [RA,ae,zp,↓reduceIte,reduceCtorEq,zq,zr,zs,zt,unA,A97,Ee,↓ak,↓aj]
 refine (xU _).use fun n1 hn1=>?_
 cases hw:wide x.width
 ·simp -implicitDefEqProofs only [RA,ae,zp,↓reduceIte,reduceCtorEq,zq,zr,zs,zt,unA,Gf,R97]
 obtain ⟨nm,a,c,w7,hs⟩:=w107 x.kind h1
 have e1:(n1=nx)=False:=eq_false (by omega)
 simp -implicitDefEqProofs only [RA,ae,zp,↓reduceIte,reduceCtorEq,zq,zr,zs,zt,unA,Ge,↓ak,↓aj]
 refine w7.use fun n2 hn2=>?_
 have e2:(n2=nx)=False:=eq_false (by omega)
 rw [show (decide (3≤x.kind)&&decide (x.kind≤24))=opK x.kind from rfl]
 cases hk:opK x.kind
 ·rw [if_neg (by simp)]
  simp -implicitDefEqProofs only [RA,ae,zp,↓reduceIte,reduceCtorEq,zq,zr,zs,zt,unA,lv,e2,↓ak,↓aj]
  rcases ai ((x.sub.length:Int)=0) with ⟨c1,d1⟩|⟨c1,d1⟩
  case inr =>
   simp -implicitDefEqProofs only [RA,ae,zp,↓reduceIte,reduceCtorEq,zq,zr,zs,zt,unA,d1,lv,e2,decide_eq_false (p:=x.sub.length=0) (by omega),Gf,R97]
  have c1':x.sub.length=0:=by omega
  rcases ai (x.low=0) with ⟨c2,d2⟩|⟨c2,d2⟩
  case inr =>
   simp -implicitDefEqProofs only [RA,ae,zp,↓reduceIte,reduceCtorEq,zq,zr,zs,zt,unA,d1,d2,lv,e2,decide_eq_true c1',Ge,Gf,R97]
  rcases ai (x.kind=1) with ⟨c3,d3⟩|⟨c3,d3⟩
  ·have d3':(x.kind=2)=False:=eq_false (by omega)
   rcases ai (x.name=[]) with ⟨c4,d4⟩|⟨c4,d4⟩
   ·simp -implicitDefEqProofs only [RA,ae,zp,↓reduceIte,reduceCtorEq,zq,zr,zs,zt,unA,d1,d2,d3,d4,d3',lv,e2,decide_eq_true c1',aG,aN,am,Ge,Gf,↓ak,↓aj]
    refine (w108 _ _).use fun n3 hn3=>?_
    cases hok:okB x.width x.bits
    ·simp -implicitDefEqProofs only [RA,ae,zp,↓reduceIte,reduceCtorEq,zq,zr,zs,zt,unA,d1,d2,d3,d4,d3',lv,e2,Ge,Gf,R97]
    ·simp -implicitDefEqProofs only [RA,ae,zp,↓reduceIte,reduceCtorEq,zq,zr,zs,zt,unA,d1,d2,d3,d4,d3',lv,e2,Ge,Gf,Gl,R97]
   ·simp -implicitDefEqProofs only [RA,ae,zp,↓reduceIte,reduceCtorEq,zq,zr,zs,zt,unA,d1,d2,d3,d4,d3',lv,e2,decide_eq_true c1',aG,aN,am,Ge,Gf,↓ak,↓aj,R97]
  ·rcases ai (x.kind=2) with ⟨c4,d4⟩|⟨c4,d4⟩
   ·rcases ai (x.bits=0) with ⟨c5,d5⟩|⟨c5,d5⟩
    ·simp -implicitDefEqProofs only [RA,ae,zp,↓reduceIte,reduceCtorEq,zq,zr,zs,zt,unA,d1,d2,d3,d4,d5,lv,e2,decide_eq_true c1',Ge,Gf,↓ak,↓aj]
     refine (w109 _ h5).use fun n3 hn3=>?_
     simp -implicitDefEqProofs only [RA,ae,zp,↓reduceIte,reduceCtorEq,zq,zr,zs,zt,unA,Bool.false_or,R97]
    ·simp -implicitDefEqProofs only [RA,ae,zp,↓reduceIte,reduceCtorEq,zq,zr,zs,zt,unA,d1,d2,d3,d4,d5,lv,e2,decide_eq_true c1',Ge,Gf,Bool.or_self,R97]
   ·simp -implicitDefEqProofs only [RA,ae,zp,↓reduceIte,reduceCtorEq,zq,zr,zs,zt,unA,d1,d2,d3,d4,lv,e2,decide_eq_true c1',Ge,Gf,Bool.or_self,R97]
 ·rw [if_pos rfl]
  have hk':3≤x.kind∧x.kind≤24:=by simpa [opK] using hk
  obtain ⟨rfl,rfl⟩:=hs hk'.1 hk'.2
  obtain ⟨t1,t2,t3,t4,t5⟩:=CK hk'.1 hk'.2
  rcases ai (x.bits=0) with ⟨c1,d1⟩|⟨c1,d1⟩
  case inr =>
   simp -implicitDefEqProofs only [RA,ae,zp,↓reduceIte,reduceCtorEq,zq,zr,zs,zt,unA,d1,lv,e2,↓ak,↓aj,Gf,R97]
  rcases ai (x.name=[]) with ⟨c2,d2⟩|⟨c2,d2⟩
  case inr =>
   simp -implicitDefEqProofs only [RA,ae,zp,↓reduceIte,reduceCtorEq,zq,zr,zs,zt,unA,d1,d2,lv,e2,↓ak,↓aj,aG,aN,am,Ge,Gf,R97]
  rcases ai (x.low=0) with ⟨c3,d3⟩|⟨c3,d3⟩
  ·rcases ai ((x.sub.length:Int)=shA x.kind) with ⟨c4,d4⟩|⟨c4,d4⟩
   ·simp -implicitDefEqProofs only [RA,ae,zp,↓reduceIte,reduceCtorEq,zq,zr,zs,zt,unA,d1,d2,d3,d4,lv,e2,↓ak,↓aj,aG,aN,am,Ge,Gl,Gf,R97]
    refine (w110' _ ⟨t1,t2⟩ hw (by omega) h6 (fun h=>by have:=t4 h;omega) (fun h=>by have:=t5 h;omega)).use fun n3 hn3=>?_
    simp -implicitDefEqProofs only [RA,ae,zp,↓reduceIte,reduceCtorEq,zq,zr,zs,zt,unA,Ge,R97]
   ·simp -implicitDefEqProofs only [RA,ae,zp,↓reduceIte,reduceCtorEq,zq,zr,zs,zt,unA,d1,d2,d3,d4,lv,e2,↓ak,↓aj,aG,aN,am,Ge,Gl,Gf,R97]
  ·rcases ai (shW x.kind=5) with ⟨c4,d4⟩|⟨c4,d4⟩
   case inr =>
    simp -implicitDefEqProofs only [RA,ae,zp,↓reduceIte,reduceCtorEq,zq,zr,zs,zt,unA,d1,d2,d3,d4,lv,e2,↓ak,↓aj,aG,aN,am,Ge,Bool.or_self,Gf,R97]
   rcases ai ((x.sub.length:Int)=shA x.kind) with ⟨c5,d5⟩|⟨c5,d5⟩
   ·simp -implicitDefEqProofs only [RA,ae,zp,↓reduceIte,reduceCtorEq,zq,zr,zs,zt,unA,d1,d2,d3,d4,d5,lv,e2,↓ak,↓aj,aG,aN,am,Ge,Gn,Gf,R97]
    have w:=w110' _ ⟨t1,t2⟩ hw (by omega) h6 (fun h=>by have:=t4 h;omega) (fun h=>by have:=t5 h;omega)
    refine w.use fun n3 hn3=>?_
    simp -implicitDefEqProofs only [RA,ae,zp,↓reduceIte,reduceCtorEq,zq,zr,zs,zt,unA,Ge,R97]
   ·simp -implicitDefEqProofs only [RA,ae,zp,↓reduceIte,reduceCtorEq,zq,zr,zs,zt,unA,d1,d2,d3,d4,d5,lv,e2,↓ak,↓aj,aG,aN,am,Ge,Gn,Gf,R97]
theorem eK (t:Tm):t∈ndT t:=by rw [dU];exact List.mem_cons_self
theorem dA {l:List Tm} {x y:Tm} (h:x∈l) (hy:y∈ndT x):y∈bD l:=by
 induction l with
 | nil=>simp at h
 | cons a r ih =>
  simp only [bD,FE]
  rcases FD.1 h with rfl|h
  ·exact .inl hy
  ·exact .inr (ih h)
theorem mS:∀ (N:Nat) (t:Tm),szT t≤N→∀ x∈ndT t,∀ y∈x.sub,y∈ndT t:=by
 intro N
 induction N with
 | zero=>intro t h;have:=bR t;omega
 | succ N ih =>
  intro t h x hx y hy
  have e:=bR t
  rw [dU] at hx ⊢
  refine List.mem_cons_of_mem _ ?_
  rcases FD.1 hx with rfl|hx
  ·exact dA hy (eK y)
  ·have key:∀ l:List Tm,bx l≤N→x∈bD l→y∈bD l:=by
    intro l
    induction l with
    | nil=>intro _ h;simp [bD] at h
    | cons a r ihr =>
     intro hl hm
     simp only [bx] at hl
     simp only [bD,FE] at hm ⊢
     rcases hm with hm|hm
     ·exact .inl (ih a (by omega) x hm y hy)
     ·exact .inr (ihr (by omega) hm)
   exact key _ (by omega) hx
def vrL (l:List Tm):List Pm:=(l.filter fun x=>decide (x.kind=2)).map fun x=>(x.name,x.width)
theorem rj (a b:List Tm):vrL (a++b)=vrL a++vrL b:=by simp [vrL]
theorem ri {l:List Tm} {x:Tm} (h:x∈l) (hk:x.kind=2):(x.name,x.width)∈vrL l:=Fy.2 ⟨x,List.mem_filter.2 ⟨h,decide_eq_true hk⟩,rfl⟩
def ij (l:List Pm):Prop:=∀ p∈l,∀ q∈l,p.1=q.1→p.2=q.2
instance (l:List Pm):Decidable (ij l):=by unfold ij;infer_instance
def okT (t:Tm):Prop:=∀ x∈ndT t,okN x
def tcE (t:Tm):Int:=if 400<szT t∨60<dpT t then 4 else if (ndT t).all ndB=false then 8 else if ij (vrL (ndT t)) then 0 else 14
def cW (p:Pm):AV × AV:=(.str p.1,.int .i64 p.2)
theorem oN (n:Nm):∀ (K:List Pm) (i:Nat),(∃ p∈K,p.1=n)→∃ j p,ec .str (.str n) (K.map cW) i=some (some (i+j,.int .i64 p.2))∧K[j]?=some p∧p.1=n
 | [],i,h=>by obtain ⟨p,h,_⟩:=h;simp at h
 | a::r,i,h=>by
  by_cases e:a.1=n
  ·exact ⟨0,a,by simp [ec,cW,eqC,e],rfl,e⟩
  ·obtain ⟨p,hp,hn⟩:=h
   rcases FD.1 hp with rfl|hp
   ·exact absurd hn e
   obtain ⟨j,q,h1,h2,h3⟩:=oN n r (i+1) ⟨p,hp,hn⟩
   refine ⟨j+1,q,?_,by simpa using h2,h3⟩
   have ne:(n==a.1)=false:=by simpa using fun h=>e h.symm
   simp only [FU,ec,cW,eqC,ne]
   rw [h1];congr 3;omega
theorem iu (n:Nm):∀ (K:List Pm) (i:Nat),(∀ p∈K,p.1≠n)→ec .str (.str n) (K.map cW) i=some none
 | [],i,h=>rfl
 | a::r,i,h=>by
  have ne:(n==a.1)=false:=by simpa using fun e=>h a (by simp) e.symm
  simp only [FU,ec,cW,eqC,ne]
  exact iu n r (i+1) fun p hp=>h p (by simp [hp])
theorem yp {h:Heap} {b j:Nat} {K:List Pm} {st:List Nat} {ck:Nat} {p:Pm} (hb:aq h b=some (.map (K.map cW) st ck)) (hf:ec .str (.str p.1) (K.map cW) 0=some (some (0+j,.int .i64 p.2))) (hj:K[j]?=some p) :
  mI h .str (.mp b) (.str p.1) (.int .i64 p.2)=some (bz h b (.map (K.map cW) st ck)):=by
 simp only [mI,hb,je,if_true,hf,Nat.zero_add]
 congr 3
 have:(K.map cW)[j]?=some (cW p):=by rw [List.getElem?_map,hj];rfl
 apply List.ext_getElem?
 intro t
 rw [List.getElem?_set]
 split
 ·rename_i e;subst e
  have hlt:=(Fq.1 this).1
  rw [if_pos hlt,this];rfl
 ·rfl
theorem kC {h:Heap} {b:Nat} {K:List Pm} {st:List Nat} {ck:Nat} (p:Pm) (hb:aq h b=some (.map (K.map cW) st ck)) (hf:ec .str (.str p.1) (K.map cW) 0=some none) :
  mI h .str (.mp b) (.str p.1) (.int .i64 p.2)=some (bz h b (.map ((K++[p]).map cW) (st++[ck]) (ck+1))):=by
 simp only [mI,hb,je,if_true,hf,FC,FU,List.map_nil,cW]
def MI (m:Nat) (pre:List Tm) (h:Heap):Prop:=∃ K st ck,aq h m=some (.map (K.map cW) st ck)∧(∀ p∈vrL pre,p∈K)∧(∀ p∈K,p∈vrL pre)∧ij K
theorem w98 (x:Tm) (hz:szT x≤4000000) (ho:okT x) (h:Heap) (nx:Nat):AC Tryz.prog 98 [.agg (tmE x)] h nx fun y h' n'=>∃ v,y=.ret (.tup [v,.bool (decide (ij (vrL (ndT x))))])∧nx≤n'∧∀ k o,k<nx→aq h k=some o→aq h' k=some o:=by
 refine AC.go aI is98 (by simp) ?_
 have e0:=aZ x
 have tl:=aY x
 have tk:=aU x
 have n1:(nx+1=nx)=False:=eq_false (by omega)
 have n2:(nx+1+1=nx)=False:=eq_false (by omega)
 have n3:(nx+1+1+1=nx)=False:=eq_false (by omega)
 have n4:(nx+1+1+1+1=nx)=False:=eq_false (by omega)
 have m2:(nx+2=nx)=False:=eq_false (by omega)
 have m3:(nx=nx+1)=False:=eq_false (by omega)
 have m4:(nx=nx+2)=False:=eq_false (by omega)
 have m5:(nx=nx+4)=False:=eq_false (by omega)
 have m6:(nx=nx+5)=False:=eq_false (by omega)
 rw [e0] at tl tk ⊢
 simp -implicitDefEqProofs only [RA,ae,zp,↓reduceIte,reduceCtorEq,zq,zr,zs,zt,A98,Ed,↓ak,↓aj,n1,n2,n3,n4]
 generalize hH:(_::_:Heap)=H
 have w:=w96 x H (nx+1+1+1+1+1)
 rw [e0] at w
 refine w.mono ?_
 have q1:aq H (nx+1)=some (.cells [.nilM]):=by subst hH;simp -implicitDefEqProofs only [RA,ae,zp,↓reduceIte,reduceCtorEq,zq,zr,zs,zt,n1,n2,n3,n4]
 have q2:aq H (nx+1+1)=some (.cells [.bool false]):=by subst hH;simp -implicitDefEqProofs only [RA,ae,zp,↓reduceIte,reduceCtorEq,zq,zr,zs,zt,n1,n2,n3,n4]
 have q3:aq H (nx+1+1+1)=some (.map [] [] 0):=by subst hH;simp -implicitDefEqProofs only [RA,ae,zp,↓reduceIte,reduceCtorEq,zq,zr,zs,zt,n1,n2,n3,n4]
 have q4:aq H (nx+1+1+1+1)=some (.cells [.mp (nx+1+1+1)]):=by subst hH;simp -implicitDefEqProofs only [RA,ae,zp,↓reduceIte,reduceCtorEq,zq,zr,zs,zt,n1,n2,n3,n4]
 have qk:∀ k o,k<nx→aq h k=some o→aq H k=some o:=fun k o hk hb=>by
  subst hH
  have a0:(nx=k)=False:=eq_false (by omega)
  have a1:(nx+1=k)=False:=eq_false (by omega)
  have a2:(nx+1+1=k)=False:=eq_false (by omega)
  have a3:(nx+1+1+1=k)=False:=eq_false (by omega)
  have a4:(nx+1+1+1+1=k)=False:=eq_false (by omega)
  simp -implicitDefEqProofs only [RA,ae,zp,↓reduceIte,reduceCtorEq,zq,zr,zs,zt,a0,a1,a2,a3,a4]
  exact hb
 clear hH w
 rintro y hh n ⟨rfl,rfl,rfl⟩
 simp -implicitDefEqProofs only [RA,ae,zp,↓reduceIte,reduceCtorEq,zq,zr,zs,zt,eQ]
 refine io (c:=nx+1+1+1+1+1) (t:=x) AH (fun y=>y∈ndT x) (fun k=>k=nx+1∨k=nx+1+1∨k=nx+1+1+1)
  (fun pre h n=>MI (nx+1+1+1) pre h∧aq h (nx+1+1+1+1)=some (.cells [.mp (nx+1+1+1)])∧aq h (nx+1)=some (.cells [.nilM])∧aq h (nx+1+1)=some (.cells [.bool false])∧∀ y∈pre,y∈ndT x)
  (fun j h n=>j=none∧nx+1+1<n∧¬ ij (vrL (ndT x))∧aq h (nx+1)=some (.cells [.nilM])∧aq h (nx+1+1)=some (.cells [.bool false]))
  (fun y h' n' env h'' n''=>ah env 5=some (.op n' 0)∧aq h'' n'=some (.cells (tmE y))∧n'<n''∧ah env 2=some (.op (nx+1) 0)∧ah env 3=some (.op (nx+1+1) 0)∧ah env 4=some (.op (nx+1+1+1+1) 0))
  (by simp [oev,ah,bY]) (by rw [af,if_pos rfl,e0]) (by simp only;omega) (by decide) hz (fun y hy z hz=>mS _ x (Gp _) y hy z hz) (eK x) (fun k hk=>by simp only;omega)
  (fun pre h n h' n' hi hn hn' hk=>by
   simp only at hn
   obtain ⟨⟨K,st,ck,i1,i2⟩,i3,i4,i5,i6⟩:=hi
   exact ⟨⟨K,st,ck,hk _ _ (by omega) (by simp only;omega) i1,i2⟩,hk _ _ (by omega) (by simp only;omega) i3,hk _ _ (by omega) (by simp only;omega) i4,hk _ _ (by omega) (by simp only;omega) i5,i6⟩)
  (fun j h n h' hj hk=>⟨hj.1,hj.2.1,hj.2.2.1,hk _ _ (by have:=hj.2.1;omega) (by simp only;omega) hj.2.2.2.1,hk _ _ hj.2.1 (by simp only;omega) hj.2.2.2.2⟩)
  ⟨⟨[],[],0,by rw [af,if_neg (by omega)];exact q3,by simp [vrL],by simp,by simp [ij]⟩,by rw [af,if_neg (by omega)];exact q4,by rw [af,if_neg (by omega)];exact q1,by rw [af,if_neg (by omega)];exact q2,by simp⟩
  (fun h' n' hi hn hk=>by
   obtain ⟨⟨K,st,ck,i1,i2⟩,i3,i4,i5,i6⟩:=hi
   exact ⟨⟨K,st,ck,hk _ _ (by simp only;omega) i1,i2⟩,hk _ _ (by simp only;omega) i3,hk _ _ (by simp only;omega) i4,hk _ _ (by simp only;omega) i5,i6⟩)
  ?_ ?_ ?_
 ·intro y h n l hn
  refine e7 aI ?_
  have tl:=aY y
  have tk:=aU y
  have e0:=aZ y
  rw [e0] at tl tk ⊢
  simp -implicitDefEqProofs only [RA,ae,zp,↓reduceIte,reduceCtorEq,zq,zr,zs,zt,Ad,ws,↓ak,↓aj]
  refine ⟨by omega,fun k o hk hb=>?_,by omega⟩
  rw [if_neg (by omega),if_neg (by omega)];exact hb
 ·rintro pre y h0 nx0 env h n l hy hn0 hn ⟨⟨K,st,ck,i1,i2,i3,i4⟩,i5,i6,i7,i8⟩ ⟨h1,⟨b1,b2,b3,b4,b5,b6⟩,hk⟩
  refine e7 aI ?_
  simp only at hn0
  have gy:=hk _ _ b3 (by simp only;omega) b2
  rw [aZ] at gy
  have happ:∀ q,q∈vrL (pre++[y])↔q∈vrL pre∨(y.kind=2∧q=(y.name,y.width)):=fun q=>by
   rw [rj,FE]
   by_cases hk:y.kind=2 <;> simp [vrL,hk]
  have h8:∀ z∈pre++[y],z∈ndT x:=fun z hz=>by
   rcases FE.1 hz with hz|hz
   ·exact i8 z hz
   ·rw [FF.1 hz];exact hy
  rcases ai (y.kind=2) with ⟨c1,d1⟩|⟨c1,d1⟩
  case inr =>
   simp -implicitDefEqProofs only [RA,ae,zp,↓reduceIte,reduceCtorEq,zq,zr,zs,zt,pe,kZ,b1,b4,b5,b6,gy,d1,unA,ne_eq,not_false_eq_true]
   refine ⟨fun k o _ _ h=>h,.inl ⟨⟨K,st,ck,i1,fun q hq=>?_,fun q hq=>(happ q).2 (.inl (i3 q hq)),i4⟩,i5,i6,i7,h8⟩⟩
   rcases (happ q).1 hq with h|⟨h,_⟩
   ·exact i2 q h
   ·exact absurd h c1
  by_cases hf:∃ p∈K,p.1=y.name
  ·obtain ⟨j,p,f1,f2,f3⟩:=oN y.name K 0 hf
   have hpK:=Fp f2
   have lk:eV h .str (.int .i64 0) true (.mp (nx+1+1+1)) (.str y.name)=some (.tup [.int .i64 p.2,.bool true]):=by simp [eV,jb,i1,je,f1]
   by_cases hpw:p.2=y.width
   ·have sa:=yp (p:=p) i1 (by rw [f3];exact f1) f2
    rw [f3,hpw] at sa
    have lk':=lk
    rw [hpw] at lk'
    have ex:(y.name,y.width)=p:=Prod.ext f3.symm hpw.symm
    simp -implicitDefEqProofs only [RA,ae,zp,↓reduceIte,reduceCtorEq,zq,zr,zs,zt,pe,kZ,b1,b4,b5,b6,gy,d1,i5,lk',sa,unA,ne_eq,not_true_eq_false]
    refine ⟨fun k o hk hF ho=>?_,.inl ⟨⟨K,st,ck,by rw [af,if_pos rfl],fun q hq=>?_,fun q hq=>(happ q).2 (.inl (i3 q hq)),i4⟩,?_,?_,?_,h8⟩⟩
    ·rw [if_neg (by omega)];exact ho
    ·rcases (happ q).1 hq with h|⟨_,h⟩
     ·exact i2 q h
     ·rw [h,ex];exact hpK
    ·rw [if_neg (by omega)]
    ·rw [if_neg (by omega)];exact i6
    ·rw [if_neg (by omega)];exact i7
   ·have hpw':(p.2=y.width)=False:=eq_false hpw
    simp -implicitDefEqProofs only [RA,ae,zp,↓reduceIte,reduceCtorEq,zq,zr,zs,zt,pe,kZ,b1,b4,b5,b6,gy,d1,i5,i6,i7,lk,hpw',unA,ne_eq,not_false_eq_true,n1,n2,n3,m2,m3,m4]
    have hbad:¬ ij (vrL (ndT x)):=fun hcc=>by
     have m1:p∈vrL (ndT x):=by
      have:=i3 p hpK
      obtain ⟨z,hz,rfl⟩:=Fy.1 this
      obtain ⟨hz1,hz2⟩:=List.mem_filter.1 hz
      exact ri (i8 z hz1) (of_decide_eq_true hz2)
     exact hpw (hcc p m1 _ (ri hy c1) f3)
    refine ⟨fun k o hk hF ho=>?_,.inr (.inl ⟨by omega,hbad⟩)⟩
    rw [if_neg (by omega),if_neg (by omega)];exact ho
  ·have fo:=iu y.name K 0 fun p hp e=>hf ⟨p,hp,e⟩
   have lk:eV h .str (.int .i64 0) true (.mp (nx+1+1+1)) (.str y.name)=some (.tup [.int .i64 0,.bool false]):=by simp [eV,jb,i1,je,fo]
   have sa:=kC (y.name,y.width) i1 fo
   simp only at sa
   simp -implicitDefEqProofs only [RA,ae,zp,↓reduceIte,reduceCtorEq,zq,zr,zs,zt,pe,kZ,b1,b4,b5,b6,gy,d1,i5,lk,sa,unA,ne_eq,not_true_eq_false,n1,n2,n3,m2,m3,m4]
   refine ⟨fun k o hk hF ho=>?_,.inl ⟨⟨_,_,_,by rw [af,if_pos rfl],fun q hq=>?_,fun q hq=>?_,fun p hp q hq hpq=>?_⟩,i6,i7,h8⟩⟩
   ·rw [if_neg (by omega)];exact ho
   ·rcases (happ q).1 hq with h|⟨_,h⟩
    ·exact List.mem_append_left _ (i2 q h)
    ·rw [h];simp
   ·refine (happ q).2 ?_
    rcases FE.1 hq with h|h
    ·exact .inl (i3 q h)
    ·exact .inr ⟨c1,FF.1 h⟩
   ·rcases FE.1 hp with hp|hp <;> rcases FE.1 hq with hq|hq
    ·exact i4 p hp q hq hpq
    ·rw [FF.1 hq] at hpq;exact absurd ⟨p,hp,hpq⟩ hf
    ·rw [FF.1 hp] at hpq;exact absurd ⟨q,hq,hpq.symm⟩ hf
    ·rw [FF.1 hp,FF.1 hq]
 ·intro h' n' hn hk hdf
  simp only at hn hk hdf
  have keep:∀ k o,k<nx→aq h k=some o→aq h' k=some o:=fun k o h1 h2=>hk k o (by omega) (by omega) (by rw [af,if_neg (by omega)];exact qk k o h1 h2)
  constructor
  ·rintro ⟨⟨K,st,ck,i1,i2,i3,i4⟩,i5,i6,i7,i8⟩
   have hcc:ij (vrL (ndT x)):=fun p hp q hq=>i4 p (i2 p hp) q (i2 q hq)
   rw [decide_eq_true hcc]
   simp -implicitDefEqProofs only [RA,ae,zp,↓reduceIte,reduceCtorEq,zq,zr,zs,zt,i5,i6,i7,hdf,n1,n2,n3,m2,m3,m4,m5,m6,R98,dF]
   refine ⟨_,rfl,by omega,fun k o h1 h2=>?_⟩
   rw [if_neg (by omega),if_neg (by omega),bT (by omega)]
   exact keep k o h1 h2
  ·rintro j ⟨rfl,hj,hbad,i6,i7⟩
   rw [decide_eq_false hbad,pL]
   have d6:aq (cC h' (nx+1+1+1+1+1+1)) (nx+1)=some (.cells [.nilM]):=by rw [bT (by omega)];exact i6
   have d7:aq (cC h' (nx+1+1+1+1+1+1)) (nx+1+1)=some (.cells [.bool false]):=by rw [bT (by omega)];exact i7
   simp -implicitDefEqProofs only [RA,ae,zp,↓reduceIte,reduceCtorEq,zq,zr,zs,zt,d6,d7,hdf,R98,dF]
   refine ⟨_,rfl,by omega,fun k o h1 h2=>?_⟩
   rw [bT (by omega)]
   exact keep k o h1 h2
theorem w90 (x:Tm) (hz:szT x≤4000000) (ho:okT x):Pure Tryz.prog 90 [.agg (tmE x)] (.int .i64 (tcE x)):=by
 refine Pure.of fun nx=>AC.go aI is90 (by simp) ?_
 have e0:=aZ x
 have tl:=aY x
 have tk:=aU x
 have n1:(nx+1=nx)=False:=eq_false (by omega)
 have w94':=w94 x hz
 have w95':=w95 4000000 x hz (Gp _)
 rw [e0] at tl tk w94' w95' ⊢
 simp -implicitDefEqProofs only [RA,ae,zp,↓reduceIte,reduceCtorEq,zq,zr,zs,zt,A90,Ek,↓ak,↓aj,n1]
 refine w94'.use fun k1 hk1=>?_
 have a1:(k1=nx)=False:=eq_false (by omega)
 have a2:(k1=nx+1)=False:=eq_false (by omega)
 unfold tcE
 rcases ai ((400:Int)<(szT x:Int)) with ⟨c1,d1⟩|⟨c1,d1⟩
 ·rw [if_pos (.inl (by omega))]
  simp -implicitDefEqProofs only [RA,ae,zp,↓reduceIte,reduceCtorEq,zq,zr,zs,zt,d1,unA,n1,R90]
 simp -implicitDefEqProofs only [RA,ae,zp,↓reduceIte,reduceCtorEq,zq,zr,zs,zt,d1,unA,n1,↓ak,↓aj]
 refine w95'.use fun k2 hk2=>?_
 have a3:(nx=k2)=False:=eq_false (by omega)
 rcases ai ((60:Int)<(dpT x:Int)) with ⟨c2,d2⟩|⟨c2,d2⟩
 ·rw [if_pos (.inr (by omega))]
  simp -implicitDefEqProofs only [RA,ae,zp,↓reduceIte,reduceCtorEq,zq,zr,zs,zt,d2,unA,n1,R90]
 rw [if_neg (by omega)]
 simp -implicitDefEqProofs only [RA,ae,zp,↓reduceIte,reduceCtorEq,zq,zr,zs,zt,d2,unA,n1,↓ak,↓aj]
 generalize hH:(_::_:Heap)=H
 have w:=w96 x H k2
 rw [e0] at w
 refine w.mono ?_
 have q0:aq H nx=some (.cells (tmE x)):=by rw [e0];subst hH;simp -implicitDefEqProofs only [RA,ae,zp,↓reduceIte,reduceCtorEq,zq,zr,zs,zt,n1]
 have q1:aq H (nx+1)=some (.cells [.int .i64 0]):=by subst hH;simp -implicitDefEqProofs only [RA,ae,zp,↓reduceIte,reduceCtorEq,zq,zr,zs,zt,n1]
 clear hH w
 rintro y hh n ⟨rfl,rfl,rfl⟩
 simp -implicitDefEqProofs only [RA,ae,zp,↓reduceIte,reduceCtorEq,zq,zr,zs,zt,eQ]
 refine io (c:=k2) (t:=x) AH (fun y=>y∈ndT x) (fun k=>k=nx+1)
  (fun pre h n=>aq h (nx+1)=some (.cells [.int .i64 0])∧∀ y∈pre,ndB y=true)
  (fun j h n=>j=none∧nx+1<n∧(ndT x).all ndB=false∧aq h (nx+1)=some (.cells [.int .i64 8]))
  (fun y h' n' env h'' n''=>ah env 3=some (.op n' 0)∧aq h'' n'=some (.cells (tmE y))∧n'<n''∧ah env 2=some (.op (nx+1) 0))
  (by simp [oev,ah,bY]) (by rw [af,if_pos rfl,e0]) (by simp only;omega) (by decide) hz (fun y hy z hz=>mS _ x (Gp _) y hy z hz) (eK x) (fun k hk=>by simp only;omega)
  (fun pre h n h' n' hi hn hn' hk=>by
   simp only at hn
   exact ⟨hk _ _ (by omega) (by simp only;omega) hi.1,hi.2⟩)
  (fun j h n h' hj hk=>⟨hj.1,hj.2.1,hj.2.2.1,hk _ _ hj.2.1 (by simp only;omega) hj.2.2.2⟩)
  ⟨by rw [af,if_neg (by omega)];exact q1,by simp⟩
  (fun h' n' hi hn hk=>⟨hk _ _ (by simp only;omega) hi.1,hi.2⟩)
  ?_ ?_ ?_
 ·intro y h n l hn
  refine e7 aI ?_
  have tl:=aY y
  have tk:=aU y
  have e0:=aZ y
  rw [e0] at tl tk ⊢
  simp -implicitDefEqProofs only [RA,ae,zp,↓reduceIte,reduceCtorEq,zq,zr,zs,zt,Ah,wE,↓ak,↓aj]
  refine ⟨by omega,fun k o hk hb=>?_,by omega⟩
  rw [if_neg (by omega),if_neg (by omega)];exact hb
 ·rintro pre y h0 nx0 env h n l hy hn0 hn ⟨i1,i2⟩ ⟨h1,⟨b1,b2,b3,b4⟩,hk⟩
  refine e7 aI ?_
  simp only at hn0
  have gy:=hk _ _ b3 (by simp only;omega) b2
  have tl:=aY y
  have tk:=aU y
  have w:=w97 y (ho y hy)
  rw [aZ] at gy tl tk w
  simp -implicitDefEqProofs only [RA,ae,zp,↓reduceIte,reduceCtorEq,zq,zr,zs,zt,Ag,wD,b1,b4,gy,↓ak,↓aj]
  refine w.use fun k3 hk3=>?_
  cases hb:ndB y
  ·have hall:(ndT x).all ndB=false:=by
    rw [Bool.eq_false_iff]
    intro h
    rw [Fz.1 h y hy] at hb;cases hb
   simp -implicitDefEqProofs only [RA,ae,zp,↓reduceIte,reduceCtorEq,zq,zr,zs,zt,b1,b4,gy,i1,unA]
   refine ⟨by omega,fun k o hk hF ho=>?_,.inr (.inl ⟨by omega,hall⟩)⟩
   rw [if_neg (by omega)];exact ho
  ·simp -implicitDefEqProofs only [RA,ae,zp,↓reduceIte,reduceCtorEq,zq,zr,zs,zt,b1,b4,gy,i1,unA]
   refine ⟨by omega,fun k o _ _ h=>h,.inl fun z hz=>?_⟩
   rcases FE.1 hz with hz|hz
   ·exact i2 z hz
   ·rw [FF.1 hz];exact hb
 ·intro h' n' hn hk hdf
  simp only at hn hk hdf
  have gx:=hk nx _ (by omega) (by omega) (by rw [af,if_neg (by omega)];exact q0)
  have gx':=gx
  rw [e0] at gx
  constructor
  ·rintro ⟨i1,i2⟩
   have hall:(ndT x).all ndB=true:=Fz.2 i2
   rw [hall,if_neg (by simp)]
   simp -implicitDefEqProofs only [RA,ae,zp,↓reduceIte,reduceCtorEq,zq,zr,zs,zt,gx,i1,↓ak,↓aj]
   have w:=w98 x hz ho h' n'
   rw [e0] at w
   refine w.mono ?_
   rintro y h2 n2 ⟨v,rfl,hn2,hk2⟩
   have j1:=hk2 _ _ (by omega) i1
   have j2:=hk2 _ _ (by omega) hdf
   have j3:aq (cC h2 (k2+1)) (nx+1)=some (.cells [.int .i64 0]):=by rw [bT (by omega)];exact j1
   rcases ai (ij (vrL (ndT x))) with ⟨c3,d3⟩|⟨c3,d3⟩
   ·rw [if_pos c3]
    simp -implicitDefEqProofs only [RA,ae,zp,↓reduceIte,reduceCtorEq,zq,zr,zs,zt,d3,j1,j2,j3,a3,unA,R90,dF]
   ·rw [if_neg c3]
    simp -implicitDefEqProofs only [RA,ae,zp,↓reduceIte,reduceCtorEq,zq,zr,zs,zt,d3,j1,j2,j3,a3,unA,R90,dF]
  ·rintro j ⟨rfl,hj,hbad,i6⟩
   rw [hbad,if_pos rfl,pL]
   have d6:aq (cC h' (k2+1)) (nx+1)=some (.cells [.int .i64 8]):=by rw [bT (by omega)];exact i6
   simp -implicitDefEqProofs only [RA,ae,zp,↓reduceIte,reduceCtorEq,zq,zr,zs,zt,d6,hdf,R90,dF]
theorem uW {l:List Tm} (h:(bD l).all ndB=true):∀ a∈l,wide a.width=true:=fun a ha=>by
 have h1:=Fz.1 h a (dA ha (eK a))
 unfold ndB at h1
 exact (Bool.and_eq_true _ _ ▸ h1:_∧_).1
theorem sU {x:Tm} (hw:wide x.width=true) (hk:x.kind=1):ndB x=(decide (x.sub.length=0)&&(decide (x.name=[])&&(decide (x.low=0)&&okB x.width x.bits))):=by
 unfold ndB
 rw [hw,hk,if_neg (by decide)]
 by_cases h1:x.sub.length=0 <;> by_cases h2:x.name=[] <;> by_cases h3:x.low=0 <;> simp [h1,h2,h3]
theorem sT {x:Tm} (hw:wide x.width=true) (hk:x.kind=2):ndB x=(decide (x.sub.length=0)&&(decide (x.bits=0)&&(decide (x.low=0)&&gF x.name))):=by
 unfold ndB
 rw [hw,hk,if_neg (by decide)]
 by_cases h1:x.sub.length=0 <;> by_cases h2:x.bits=0 <;> by_cases h3:x.low=0 <;> simp [h1,h2,h3]
theorem shW5 {k:Int} (h:3≤k) (h':k≤24):shW k=5↔k=21:=by
 have:k=3∨k=4∨k=5∨k=6∨k=7∨k=8∨k=9∨k=10∨k=11∨k=12∨k=13∨k=14∨k=15∨k=16∨k=17∨k=18∨k=19∨k=20∨k=21∨k=22∨k=23∨k=24:=by omega
 rcases this with h|h|h|h|h|h|h|h|h|h|h|h|h|h|h|h|h|h|h|h|h|h <;> subst h <;> decide
def eG (x:Tm):Bool:=opK x.kind&&(decide (x.bits=0)&&(decide (x.name=[])&&((decide (x.low=0)||decide (x.kind=21))&&decide (x.sub.length≠0))))
theorem Bn {x:Tm} (hw:wide x.width=true) (h1:x.kind≠1) (h2:x.kind≠2):ndB x=(eG x&&(decide ((x.sub.length:Int)=shA x.kind)&&wdB (shW x.kind) x.width x.low x.sub)):=by
 unfold ndB eG
 rw [hw]
 cases hk:opK x.kind
 ·rw [if_neg (by simp)];simp [h1,h2]
 ·rw [if_pos rfl]
  have hk':3≤x.kind∧x.kind≤24:=by simpa [opK] using hk
  obtain ⟨t1,t2,t3,t4,t5⟩:=CK hk'.1 hk'.2
  have e:=shW5 hk'.1 hk'.2
  by_cases hl:(x.sub.length:Int)=shA x.kind
  ·have:x.sub.length≠0:=by omega
   simp [hl,this,e,Bool.and_assoc]
  ·simp [hl]
theorem D2 {s:List Tm} {a:Tm} {w:Int} (hl:s.length=1) (h0:s[0]?=some a):kU w s=decide (a.width≠w):=by
 match s,hl with
 | [b],_=>simp at h0;subst h0;simp [kU]
theorem any2 {s:List Tm} {a b:Tm} {w:Int} (hl:s.length=2) (h0:s[0]?=some a) (h1:s[1]?=some b):kU w s=(decide (a.width≠w)||decide (b.width≠w)):=by
 match s,hl with
 | [c,d],_=>simp at h0 h1;subst h0;subst h1;simp [kU]
theorem w102:∀ (N:Nat) (x:Tm),szT x≤N→N≤4000000→okT x→Pure Tryz.prog 102 [.agg (tmE x)] (.bool ((ndT x).all ndB)):=by
 intro N
 induction N with
 | zero=>intro x h;have:=bR x;omega
 | succ N ih =>
  intro x h hN ho
  have hsub:∀ r∈x.sub,okT r:=fun r hr y hy=>ho y (by rw [dU];exact List.mem_cons_of_mem _ (dA hr hy))
  obtain ⟨o1,o2,o3,o4,o5,o6⟩:=ho x (eK x)
  rw [show (ndT x).all ndB=(ndB x&&(bD x.sub).all ndB) by rw [dU,List.all_cons]]
  refine Pure.of fun nx=>AC.go aI Dn (by simp) ?_
  have hsz:=bR x
  have lv:=bw x.sub
  have tl:=aY x
  have tk:=aU x
  have e0:=aZ x
  rw [e0] at tl tk ⊢
  simp -implicitDefEqProofs only [RA,ae,zp,↓reduceIte,reduceCtorEq,zq,zr,zs,zt,Fj,Ay,↓ak,↓aj]
  refine aJ (fun q st=>∃ i:Nat,q=x.sub.length-i∧i≤x.sub.length∧ah st.env 1=some (.op nx 0)∧ah st.env 3=some (.int .i64 i)∧aq st.heap nx=some (.cells [.int .u8 x.kind,.int .i64 x.width,.int .u64 x.bits,.str x.name,.int .i64 x.low,bg x.sub])∧(bD (x.sub.take i)).all ndB=true∧st.dm=[]) (n:=x.sub.length) aI
   ⟨0,rfl,by omega,by simp [ah],by simp [ah],by simp [aq],by simp [bD],rfl⟩ ?_
  rintro q ⟨env,heap,nx',dm⟩ ⟨i,rfl,hi,g1,g3,gx,ha,hdm⟩
  simp only at g1 g3 gx ha hdm
  subst hdm
  have f1:=wS (i:=i) (by omega)
  by_cases hc:(i:Int)<(x.sub.length:Int)
  case pos =>
   have hr:=Fo (show i<x.sub.length by omega)
   generalize x.sub[i]=r at hr
   have ix:=bh hr
   have rl:=aY r
   have rt:=aU r
   have hmem:=Fp hr
   have hm:=bZ hmem
   simp -implicitDefEqProofs only [RA,ae,zp,↓reduceIte,reduceCtorEq,zq,zr,zs,zt,rc,nJ,g1,g3,gx,lv,hc,ix,rl,rt]
   refine (ih r (by omega) (by omega) (hsub r hmem)).use fun n1 hn1=>?_
   cases hb:(ndT r).all ndB
   ·have:(bD x.sub).all ndB=false:=by
     rw [Bool.eq_false_iff]
     intro hh
     have:(ndT r).all ndB=true:=Fz.2 fun y hy=>Fz.1 hh y (dA hmem hy)
     rw [hb] at this;cases this
    rw [this]
    simp -implicitDefEqProofs only [RA,ae,zp,↓reduceIte,reduceCtorEq,zq,zr,zs,zt,unA,g1,g3,gx,Gj,bS]
   ·simp -implicitDefEqProofs only [RA,ae,zp,↓reduceIte,reduceCtorEq,zq,zr,zs,zt,unA,g1,g3,gx,f1]
    refine ⟨x.sub.length-(i+1),by omega,i+1,rfl,by omega,rfl,?_⟩
    rw [aQ hr,db]
    simp only [List.all_append,bD,List.append_nil,ha,hb,Bool.and_self]
  rw [show x.sub.take i=x.sub from Fs (by omega)] at ha
  have hwd:=uW ha
  rw [ha,Bool.and_true]
  clear ih hsub
  simp -implicitDefEqProofs only [RA,ae,zp,↓reduceIte,reduceCtorEq,zq,zr,zs,zt,rc,nJ,g1,g3,gx,lv,hc]
  refine (w84 _).use fun n1 hn1=>?_
  cases hw:wide x.width
  ·have:ndB x=false:=by unfold ndB;rw [hw,Gf]
   rw [this]
   simp -implicitDefEqProofs only [RA,ae,zp,↓reduceIte,reduceCtorEq,zq,zr,zs,zt,unA,g1,g3,gx,bS]
  by_cases hk1:x.kind=1
  ·have z1:(x.kind=1)=True:=eq_true hk1
   rw [sU hw hk1]
   rcases ai ((x.sub.length:Int)=0) with ⟨c1,d1⟩|⟨c1,d1⟩
   case inr=>simp -implicitDefEqProofs only [RA,ae,zp,↓reduceIte,reduceCtorEq,zq,zr,zs,zt,unA,g1,g3,gx,z1,d1,decide_eq_false (p:=x.sub.length=0) (by omega),Gf,bS]
   have c1':x.sub.length=0:=by omega
   rcases ai (x.name=[]) with ⟨c2,d2⟩|⟨c2,d2⟩
   case inr=>simp -implicitDefEqProofs only [RA,ae,zp,↓reduceIte,reduceCtorEq,zq,zr,zs,zt,unA,g1,g3,gx,z1,d1,d2,aG,aN,am,Gf,Gj,bS]
   rcases ai (x.low=0) with ⟨c3,d3⟩|⟨c3,d3⟩
   case inr=>simp -implicitDefEqProofs only [RA,ae,zp,↓reduceIte,reduceCtorEq,zq,zr,zs,zt,unA,g1,g3,gx,z1,d1,d2,d3,aG,aN,am,Gf,Gj,bS]
   simp -implicitDefEqProofs only [RA,ae,zp,↓reduceIte,reduceCtorEq,zq,zr,zs,zt,unA,g1,g3,gx,z1,d1,d2,d3,aG,aN,am,decide_eq_true c1',Ge]
   refine (w111 _ _ o3 o4).use fun n2 hn2=>?_
   simp -implicitDefEqProofs only [RA,ae,zp,↓reduceIte,reduceCtorEq,zq,zr,zs,zt,unA,g1,g3,gx,bS]
  have z1:(x.kind=1)=False:=eq_false hk1
  by_cases hk2:x.kind=2
  ·have z2:(x.kind=2)=True:=eq_true hk2
   rw [sT hw hk2]
   rcases ai ((x.sub.length:Int)=0) with ⟨c1,d1⟩|⟨c1,d1⟩
   case inr=>simp -implicitDefEqProofs only [RA,ae,zp,↓reduceIte,reduceCtorEq,zq,zr,zs,zt,unA,g1,g3,gx,z1,z2,d1,decide_eq_false (p:=x.sub.length=0) (by omega),Gf,bS]
   have c1':x.sub.length=0:=by omega
   rcases ai (x.bits=0) with ⟨c2,d2⟩|⟨c2,d2⟩
   case inr=>simp -implicitDefEqProofs only [RA,ae,zp,↓reduceIte,reduceCtorEq,zq,zr,zs,zt,unA,g1,g3,gx,z1,z2,d1,d2,Gf,Gj,bS]
   rcases ai (x.low=0) with ⟨c3,d3⟩|⟨c3,d3⟩
   case inr=>simp -implicitDefEqProofs only [RA,ae,zp,↓reduceIte,reduceCtorEq,zq,zr,zs,zt,unA,g1,g3,gx,z1,z2,d1,d2,d3,Gf,Gj,bS]
   simp -implicitDefEqProofs only [RA,ae,zp,↓reduceIte,reduceCtorEq,zq,zr,zs,zt,unA,g1,g3,gx,z1,z2,d1,d2,d3,decide_eq_true c1',Ge]
   refine (w112 _ o5).use fun n2 hn2=>?_
   simp -implicitDefEqProofs only [RA,ae,zp,↓reduceIte,reduceCtorEq,zq,zr,zs,zt,unA,g1,g3,gx,bS]
  have z2:(x.kind=2)=False:=eq_false hk2
  rw [Bn hw hk1 hk2]
  rcases ai (x.kind<3) with ⟨c3,d3⟩|⟨c3,d3⟩
  ·have hg:eG x=false:=by unfold eG opK;rw [decide_eq_false (p:=3≤x.kind) (by omega)];simp only [Gf]
   rw [hg,Gf]
   simp -implicitDefEqProofs only [RA,ae,zp,↓reduceIte,reduceCtorEq,zq,zr,zs,zt,unA,g1,g3,gx,z1,z2,d3,bS]
  rcases ai ((24:Int)<x.kind) with ⟨c4,d4⟩|⟨c4,d4⟩
  ·have hg:eG x=false:=by unfold eG opK;rw [decide_eq_false (p:=x.kind≤24) (by omega)];simp only [Gf,Gj]
   rw [hg,Gf]
   simp -implicitDefEqProofs only [RA,ae,zp,↓reduceIte,reduceCtorEq,zq,zr,zs,zt,unA,g1,g3,gx,z1,z2,d3,d4,bS]
  have hop:opK x.kind=true:=by unfold opK;rw [decide_eq_true (by omega),decide_eq_true (by omega)];rfl
  rcases ai (x.bits=0) with ⟨c5,d5⟩|⟨c5,d5⟩
  case inr =>
   have hg:eG x=false:=by unfold eG;rw [decide_eq_false c5];simp only [Gf,Gj]
   rw [hg,Gf]
   simp -implicitDefEqProofs only [RA,ae,zp,↓reduceIte,reduceCtorEq,zq,zr,zs,zt,unA,g1,g3,gx,z1,z2,d3,d4,d5,ne_eq,not_false_eq_true,not_true_eq_false,bS]
  rcases ai (x.name=[]) with ⟨c6,d6⟩|⟨c6,d6⟩
  case inr =>
   have hg:eG x=false:=by unfold eG;rw [decide_eq_false c6];simp only [Gf,Gj]
   rw [hg,Gf]
   simp -implicitDefEqProofs only [RA,ae,zp,↓reduceIte,reduceCtorEq,zq,zr,zs,zt,unA,g1,g3,gx,z1,z2,d3,d4,d5,d6,aG,aN,am,ne_eq,not_false_eq_true,not_true_eq_false,bS]
  have glow:(x.low=0∨x.kind=21)∨¬ (x.low=0∨x.kind=21):=Classical.em _
  rcases glow with glow|glow
  case inr =>
   have hg:eG x=false:=by unfold eG;rw [decide_eq_false (p:=x.low=0) (fun h=>glow (.inl h)),decide_eq_false (p:=x.kind=21) (fun h=>glow (.inr h))];simp only [Gf,Gj,Bool.or_self]
   rw [hg,Gf]
   have d7:(x.low=0)=False:=eq_false fun h=>glow (.inl h)
   have d8:(x.kind=21)=False:=eq_false fun h=>glow (.inr h)
   simp -implicitDefEqProofs only [RA,ae,zp,↓reduceIte,reduceCtorEq,zq,zr,zs,zt,unA,g1,g3,gx,z1,z2,d3,d4,d5,d6,d7,d8,aG,aN,am,ne_eq,not_false_eq_true,not_true_eq_false,bS]
  rcases ai ((x.sub.length:Int)=0) with ⟨c7,d7⟩|⟨c7,d7⟩
  ·have hg:eG x=false:=by unfold eG;rw [decide_eq_false (p:=x.sub.length≠0) (by omega)];simp only [Gf,Gj]
   rw [hg,Gf]
   rcases ai (x.low=0) with ⟨c8,d8⟩|⟨c8,d8⟩
   ·simp -implicitDefEqProofs only [RA,ae,zp,↓reduceIte,reduceCtorEq,zq,zr,zs,zt,unA,g1,g3,gx,z1,z2,d3,d4,d5,d6,d7,d8,aG,aN,am,ne_eq,not_false_eq_true,not_true_eq_false,bS]
   ·have d9:(x.kind=21)=True:=eq_true (glow.resolve_left c8)
    simp -implicitDefEqProofs only [RA,ae,zp,↓reduceIte,reduceCtorEq,zq,zr,zs,zt,unA,g1,g3,gx,z1,z2,d3,d4,d5,d6,d7,d8,d9,aG,aN,am,ne_eq,not_false_eq_true,not_true_eq_false,bS]
  have hg:eG x=true:=by
   unfold eG
   rw [hop,decide_eq_true c5,decide_eq_true c6,decide_eq_true (p:=x.sub.length≠0) (by omega)]
   rcases glow with h|h <;> simp [h]
  rw [hg,Ge]
  have ix0:idxA 6 (bg x.sub) 0=some (.fp (tmE x.sub[0])):=bh (n:=0) (Fo (by omega))
  have v0:wAt x.sub 0=x.sub[0].width:=ca (Fo (by omega))
  have s0:x.sub[0]?=some x.sub[0]:=Fo (by omega)
  generalize x.sub[0]=a0 at ix0 v0 s0
  rw [aZ] at ix0
  have wd0:=hwd _ (Fp s0)
  obtain ⟨w1,w2⟩:=dz hw
  obtain ⟨u1,u2⟩:=dz wd0
  by_cases h21:x.kind=21
  ·rcases ai (x.low=0) with ⟨c8,d8⟩|⟨c8,d8⟩
   ·have q3:(x.kind=3)=False:=eq_false (by omega)
    have q4:(x.kind=4)=False:=eq_false (by omega)
    have q16:(x.kind=16)=False:=eq_false (by omega)
    have q17:(x.kind=17)=False:=eq_false (by omega)
    have q18:(x.kind=18)=False:=eq_false (by omega)
    have q19:(x.kind=19)=False:=eq_false (by omega)
    have q20:(x.kind=20)=False:=eq_false (by omega)
    have q21:(x.kind=21)=True:=eq_true (by omega)
    have q22:(x.kind=22)=False:=eq_false (by omega)
    have q23:(x.kind=23)=False:=eq_false (by omega)
    have q24:(x.kind=24)=False:=eq_false (by omega)
    have eA:shA x.kind=1:=by unfold shA;repeat' split <;> omega
    have eW:shW x.kind=5:=by unfold shW;repeat' split <;> omega
    rw [eA,eW]
    rcases ai ((x.sub.length:Int)=1) with ⟨c9,d9⟩|⟨c9,d9⟩
    case inr=>simp -implicitDefEqProofs only [RA,ae,zp,↓reduceIte,reduceCtorEq,zq,zr,zs,zt,unA,g1,g3,gx,z1,z2,d3,d4,d5,d6,d7,d8,ix0,aG,aN,am,ne_eq,not_false_eq_true,not_true_eq_false,q3,q4,q16,q17,q18,q19,q20,q21,q22,q23,q24,d9,decide_eq_false c9,Gf,bS]
    have hl:x.sub.length=1:=by omega
    rw [decide_eq_true c9,Ge]
    rw [wdB,if_neg (by omega),if_neg (by omega),if_neg (by omega),if_neg (by omega),if_pos rfl,v0,wd0,Ge]
    rcases ai ((0:Int)≤x.low) with ⟨e1,f1⟩|⟨e1,f1⟩
    case inr=>simp -implicitDefEqProofs only [RA,ae,zp,↓reduceIte,reduceCtorEq,zq,zr,zs,zt,unA,g1,g3,gx,z1,z2,d3,d4,d5,d6,d7,d8,ix0,aG,aN,am,ne_eq,not_false_eq_true,not_true_eq_false,q3,q4,q16,q17,q18,q19,q20,q21,q22,q23,q24,d9,f1,Gf,bS]
    rcases ai (x.low≤a0.width) with ⟨e2,f2⟩|⟨e2,f2⟩
    case inr =>
     rw [decide_eq_false (p:=x.low≤a0.width-x.width) (by omega),Gj,Gj]
     simp -implicitDefEqProofs only [RA,ae,zp,↓reduceIte,reduceCtorEq,zq,zr,zs,zt,unA,g1,g3,gx,z1,z2,d3,d4,d5,d6,d7,d8,ix0,aG,aN,am,ne_eq,not_false_eq_true,not_true_eq_false,q3,q4,q16,q17,q18,q19,q20,q21,q22,q23,q24,d9,f1,f2,bS]
    have ew:IntKind.i64.wrap (x.low+x.width)=x.low+x.width:=w64 (by omega) (by omega)
    have ed:(decide (0≤x.low)&&(decide (x.width≤a0.width)&&decide (x.low≤a0.width-x.width)))=decide (x.low+x.width≤a0.width):=by
     by_cases h:x.low+x.width≤a0.width
     ·rw [decide_eq_true h,decide_eq_true e1,decide_eq_true (by omega),decide_eq_true (by omega)];rfl
     ·rw [decide_eq_false h,decide_eq_false (p:=x.low≤a0.width-x.width) (by omega),Gj,Gj]
    rw [ed]
    simp -implicitDefEqProofs only [RA,ae,zp,↓reduceIte,reduceCtorEq,zq,zr,zs,zt,unA,g1,g3,gx,z1,z2,d3,d4,d5,d6,d7,d8,ix0,aG,aN,am,ne_eq,not_false_eq_true,not_true_eq_false,q3,q4,q16,q17,q18,q19,q20,q21,q22,q23,q24,d9,f1,f2,ew,bS]
   ·have q3:(x.kind=3)=False:=eq_false (by omega)
    have q4:(x.kind=4)=False:=eq_false (by omega)
    have q16:(x.kind=16)=False:=eq_false (by omega)
    have q17:(x.kind=17)=False:=eq_false (by omega)
    have q18:(x.kind=18)=False:=eq_false (by omega)
    have q19:(x.kind=19)=False:=eq_false (by omega)
    have q20:(x.kind=20)=False:=eq_false (by omega)
    have q21:(x.kind=21)=True:=eq_true (by omega)
    have q22:(x.kind=22)=False:=eq_false (by omega)
    have q23:(x.kind=23)=False:=eq_false (by omega)
    have q24:(x.kind=24)=False:=eq_false (by omega)
    have eA:shA x.kind=1:=by unfold shA;repeat' split <;> omega
    have eW:shW x.kind=5:=by unfold shW;repeat' split <;> omega
    rw [eA,eW]
    rcases ai ((x.sub.length:Int)=1) with ⟨c9,d9⟩|⟨c9,d9⟩
    case inr=>simp -implicitDefEqProofs only [RA,ae,zp,↓reduceIte,reduceCtorEq,zq,zr,zs,zt,unA,g1,g3,gx,z1,z2,d3,d4,d5,d6,d7,d8,ix0,aG,aN,am,ne_eq,not_false_eq_true,not_true_eq_false,q3,q4,q16,q17,q18,q19,q20,q21,q22,q23,q24,d9,decide_eq_false c9,Gf,bS]
    have hl:x.sub.length=1:=by omega
    rw [decide_eq_true c9,Ge]
    rw [wdB,if_neg (by omega),if_neg (by omega),if_neg (by omega),if_neg (by omega),if_pos rfl,v0,wd0,Ge]
    rcases ai ((0:Int)≤x.low) with ⟨e1,f1⟩|⟨e1,f1⟩
    case inr=>simp -implicitDefEqProofs only [RA,ae,zp,↓reduceIte,reduceCtorEq,zq,zr,zs,zt,unA,g1,g3,gx,z1,z2,d3,d4,d5,d6,d7,d8,ix0,aG,aN,am,ne_eq,not_false_eq_true,not_true_eq_false,q3,q4,q16,q17,q18,q19,q20,q21,q22,q23,q24,d9,f1,Gf,bS]
    rcases ai (x.low≤a0.width) with ⟨e2,f2⟩|⟨e2,f2⟩
    case inr =>
     rw [decide_eq_false (p:=x.low≤a0.width-x.width) (by omega),Gj,Gj]
     simp -implicitDefEqProofs only [RA,ae,zp,↓reduceIte,reduceCtorEq,zq,zr,zs,zt,unA,g1,g3,gx,z1,z2,d3,d4,d5,d6,d7,d8,ix0,aG,aN,am,ne_eq,not_false_eq_true,not_true_eq_false,q3,q4,q16,q17,q18,q19,q20,q21,q22,q23,q24,d9,f1,f2,bS]
    have ew:IntKind.i64.wrap (x.low+x.width)=x.low+x.width:=w64 (by omega) (by omega)
    have ed:(decide (0≤x.low)&&(decide (x.width≤a0.width)&&decide (x.low≤a0.width-x.width)))=decide (x.low+x.width≤a0.width):=by
     by_cases h:x.low+x.width≤a0.width
     ·rw [decide_eq_true h,decide_eq_true e1,decide_eq_true (by omega),decide_eq_true (by omega)];rfl
     ·rw [decide_eq_false h,decide_eq_false (p:=x.low≤a0.width-x.width) (by omega),Gj,Gj]
    rw [ed]
    simp -implicitDefEqProofs only [RA,ae,zp,↓reduceIte,reduceCtorEq,zq,zr,zs,zt,unA,g1,g3,gx,z1,z2,d3,d4,d5,d6,d7,d8,ix0,aG,aN,am,ne_eq,not_false_eq_true,not_true_eq_false,q3,q4,q16,q17,q18,q19,q20,q21,q22,q23,q24,d9,f1,f2,ew,bS]
  have c8:=glow.resolve_right h21
  have d8:=eq_true c8
  by_cases hG:x.kind=3∨x.kind=4
  ·rcases hG with hk|hk
   ·have q3:(x.kind=3)=True:=eq_true (by omega)
    have q4:(x.kind=4)=False:=eq_false (by omega)
    have q16:(x.kind=16)=False:=eq_false (by omega)
    have q17:(x.kind=17)=False:=eq_false (by omega)
    have q18:(x.kind=18)=False:=eq_false (by omega)
    have q19:(x.kind=19)=False:=eq_false (by omega)
    have q20:(x.kind=20)=False:=eq_false (by omega)
    have q21:(x.kind=21)=False:=eq_false (by omega)
    have q22:(x.kind=22)=False:=eq_false (by omega)
    have q23:(x.kind=23)=False:=eq_false (by omega)
    have q24:(x.kind=24)=False:=eq_false (by omega)
    have eA:shA x.kind=1:=by unfold shA;repeat' split <;> omega
    have eW:shW x.kind=1:=by unfold shW;repeat' split <;> omega
    rw [eA,eW]
    rcases ai ((x.sub.length:Int)=1) with ⟨c9,d9⟩|⟨c9,d9⟩
    case inr=>simp -implicitDefEqProofs only [RA,ae,zp,↓reduceIte,reduceCtorEq,zq,zr,zs,zt,unA,g1,g3,gx,z1,z2,d3,d4,d5,d6,d7,d8,ix0,aG,aN,am,ne_eq,not_false_eq_true,not_true_eq_false,q3,q4,q16,q17,q18,q19,q20,q21,q22,q23,q24,d9,decide_eq_false c9,Gf,bS]
    have hl:x.sub.length=1:=by omega
    rw [decide_eq_true c9,Ge]
    rw [wdB,if_pos rfl,D2 hl s0]
    rcases ai (a0.width=x.width) with ⟨e1,f1⟩|⟨e1,f1⟩
    ·simp -implicitDefEqProofs only [RA,ae,zp,↓reduceIte,reduceCtorEq,zq,zr,zs,zt,unA,g1,g3,gx,z1,z2,d3,d4,d5,d6,d7,d8,ix0,aG,aN,am,ne_eq,not_false_eq_true,not_true_eq_false,q3,q4,q16,q17,q18,q19,q20,q21,q22,q23,q24,d9,f1,Bool.not_false,bS]
    ·simp -implicitDefEqProofs only [RA,ae,zp,↓reduceIte,reduceCtorEq,zq,zr,zs,zt,unA,g1,g3,gx,z1,z2,d3,d4,d5,d6,d7,d8,ix0,aG,aN,am,ne_eq,not_false_eq_true,not_true_eq_false,q3,q4,q16,q17,q18,q19,q20,q21,q22,q23,q24,d9,f1,Bool.not_true,bS]
   ·have q3:(x.kind=3)=False:=eq_false (by omega)
    have q4:(x.kind=4)=True:=eq_true (by omega)
    have q16:(x.kind=16)=False:=eq_false (by omega)
    have q17:(x.kind=17)=False:=eq_false (by omega)
    have q18:(x.kind=18)=False:=eq_false (by omega)
    have q19:(x.kind=19)=False:=eq_false (by omega)
    have q20:(x.kind=20)=False:=eq_false (by omega)
    have q21:(x.kind=21)=False:=eq_false (by omega)
    have q22:(x.kind=22)=False:=eq_false (by omega)
    have q23:(x.kind=23)=False:=eq_false (by omega)
    have q24:(x.kind=24)=False:=eq_false (by omega)
    have eA:shA x.kind=1:=by unfold shA;repeat' split <;> omega
    have eW:shW x.kind=1:=by unfold shW;repeat' split <;> omega
    rw [eA,eW]
    rcases ai ((x.sub.length:Int)=1) with ⟨c9,d9⟩|⟨c9,d9⟩
    case inr=>simp -implicitDefEqProofs only [RA,ae,zp,↓reduceIte,reduceCtorEq,zq,zr,zs,zt,unA,g1,g3,gx,z1,z2,d3,d4,d5,d6,d7,d8,ix0,aG,aN,am,ne_eq,not_false_eq_true,not_true_eq_false,q3,q4,q16,q17,q18,q19,q20,q21,q22,q23,q24,d9,decide_eq_false c9,Gf,bS]
    have hl:x.sub.length=1:=by omega
    rw [decide_eq_true c9,Ge]
    rw [wdB,if_pos rfl,D2 hl s0]
    rcases ai (a0.width=x.width) with ⟨e1,f1⟩|⟨e1,f1⟩
    ·simp -implicitDefEqProofs only [RA,ae,zp,↓reduceIte,reduceCtorEq,zq,zr,zs,zt,unA,g1,g3,gx,z1,z2,d3,d4,d5,d6,d7,d8,ix0,aG,aN,am,ne_eq,not_false_eq_true,not_true_eq_false,q3,q4,q16,q17,q18,q19,q20,q21,q22,q23,q24,d9,f1,Bool.not_false,bS]
    ·simp -implicitDefEqProofs only [RA,ae,zp,↓reduceIte,reduceCtorEq,zq,zr,zs,zt,unA,g1,g3,gx,z1,z2,d3,d4,d5,d6,d7,d8,ix0,aG,aN,am,ne_eq,not_false_eq_true,not_true_eq_false,q3,q4,q16,q17,q18,q19,q20,q21,q22,q23,q24,d9,f1,Bool.not_true,bS]
  by_cases hG:x.kind=16∨x.kind=17∨x.kind=18
  ·rcases hG with hk|hk|hk
   ·have q3:(x.kind=3)=False:=eq_false (by omega)
    have q4:(x.kind=4)=False:=eq_false (by omega)
    have q16:(x.kind=16)=True:=eq_true (by omega)
    have q17:(x.kind=17)=False:=eq_false (by omega)
    have q18:(x.kind=18)=False:=eq_false (by omega)
    have q19:(x.kind=19)=False:=eq_false (by omega)
    have q20:(x.kind=20)=False:=eq_false (by omega)
    have q21:(x.kind=21)=False:=eq_false (by omega)
    have q22:(x.kind=22)=False:=eq_false (by omega)
    have q23:(x.kind=23)=False:=eq_false (by omega)
    have q24:(x.kind=24)=False:=eq_false (by omega)
    have eA:shA x.kind=2:=by unfold shA;repeat' split <;> omega
    have eW:shW x.kind=2:=by unfold shW;repeat' split <;> omega
    rw [eA,eW]
    rcases ai ((x.sub.length:Int)=2) with ⟨c9,d9⟩|⟨c9,d9⟩
    case inr=>simp -implicitDefEqProofs only [RA,ae,zp,↓reduceIte,reduceCtorEq,zq,zr,zs,zt,unA,g1,g3,gx,z1,z2,d3,d4,d5,d6,d7,d8,ix0,aG,aN,am,ne_eq,not_false_eq_true,not_true_eq_false,q3,q4,q16,q17,q18,q19,q20,q21,q22,q23,q24,d9,decide_eq_false c9,Gf,bS]
    have hl:x.sub.length=2:=by omega
    rw [decide_eq_true c9,Ge]
    have ix1:idxA 6 (bg x.sub) 1=some (.fp (tmE x.sub[1])):=bh (n:=1) (Fo (by omega))
    have v1:wAt x.sub 1=x.sub[1].width:=ca (Fo (by omega))
    have s1:x.sub[1]?=some x.sub[1]:=Fo (by omega)
    generalize x.sub[1]=a1 at ix1 v1 s1
    rw [aZ] at ix1
    rw [wdB,if_neg (by omega),if_pos rfl,v0,v1]
    rcases ai (x.width=1) with ⟨e1,f1⟩|⟨e1,f1⟩
    ·simp -implicitDefEqProofs only [RA,ae,zp,↓reduceIte,reduceCtorEq,zq,zr,zs,zt,unA,g1,g3,gx,z1,z2,d3,d4,d5,d6,d7,d8,ix0,aG,aN,am,ne_eq,not_false_eq_true,not_true_eq_false,q3,q4,q16,q17,q18,q19,q20,q21,q22,q23,q24,d9,f1,ix1,Ge,bS]
    ·simp -implicitDefEqProofs only [RA,ae,zp,↓reduceIte,reduceCtorEq,zq,zr,zs,zt,unA,g1,g3,gx,z1,z2,d3,d4,d5,d6,d7,d8,ix0,aG,aN,am,ne_eq,not_false_eq_true,not_true_eq_false,q3,q4,q16,q17,q18,q19,q20,q21,q22,q23,q24,d9,f1,Gf,bS]
   ·have q3:(x.kind=3)=False:=eq_false (by omega)
    have q4:(x.kind=4)=False:=eq_false (by omega)
    have q16:(x.kind=16)=False:=eq_false (by omega)
    have q17:(x.kind=17)=True:=eq_true (by omega)
    have q18:(x.kind=18)=False:=eq_false (by omega)
    have q19:(x.kind=19)=False:=eq_false (by omega)
    have q20:(x.kind=20)=False:=eq_false (by omega)
    have q21:(x.kind=21)=False:=eq_false (by omega)
    have q22:(x.kind=22)=False:=eq_false (by omega)
    have q23:(x.kind=23)=False:=eq_false (by omega)
    have q24:(x.kind=24)=False:=eq_false (by omega)
    have eA:shA x.kind=2:=by unfold shA;repeat' split <;> omega
    have eW:shW x.kind=2:=by unfold shW;repeat' split <;> omega
    rw [eA,eW]
    rcases ai ((x.sub.length:Int)=2) with ⟨c9,d9⟩|⟨c9,d9⟩
    case inr=>simp -implicitDefEqProofs only [RA,ae,zp,↓reduceIte,reduceCtorEq,zq,zr,zs,zt,unA,g1,g3,gx,z1,z2,d3,d4,d5,d6,d7,d8,ix0,aG,aN,am,ne_eq,not_false_eq_true,not_true_eq_false,q3,q4,q16,q17,q18,q19,q20,q21,q22,q23,q24,d9,decide_eq_false c9,Gf,bS]
    have hl:x.sub.length=2:=by omega
    rw [decide_eq_true c9,Ge]
    have ix1:idxA 6 (bg x.sub) 1=some (.fp (tmE x.sub[1])):=bh (n:=1) (Fo (by omega))
    have v1:wAt x.sub 1=x.sub[1].width:=ca (Fo (by omega))
    have s1:x.sub[1]?=some x.sub[1]:=Fo (by omega)
    generalize x.sub[1]=a1 at ix1 v1 s1
    rw [aZ] at ix1
    rw [wdB,if_neg (by omega),if_pos rfl,v0,v1]
    rcases ai (x.width=1) with ⟨e1,f1⟩|⟨e1,f1⟩
    ·simp -implicitDefEqProofs only [RA,ae,zp,↓reduceIte,reduceCtorEq,zq,zr,zs,zt,unA,g1,g3,gx,z1,z2,d3,d4,d5,d6,d7,d8,ix0,aG,aN,am,ne_eq,not_false_eq_true,not_true_eq_false,q3,q4,q16,q17,q18,q19,q20,q21,q22,q23,q24,d9,f1,ix1,Ge,bS]
    ·simp -implicitDefEqProofs only [RA,ae,zp,↓reduceIte,reduceCtorEq,zq,zr,zs,zt,unA,g1,g3,gx,z1,z2,d3,d4,d5,d6,d7,d8,ix0,aG,aN,am,ne_eq,not_false_eq_true,not_true_eq_false,q3,q4,q16,q17,q18,q19,q20,q21,q22,q23,q24,d9,f1,Gf,bS]
   ·have q3:(x.kind=3)=False:=eq_false (by omega)
    have q4:(x.kind=4)=False:=eq_false (by omega)
    have q16:(x.kind=16)=False:=eq_false (by omega)
    have q17:(x.kind=17)=False:=eq_false (by omega)
    have q18:(x.kind=18)=True:=eq_true (by omega)
    have q19:(x.kind=19)=False:=eq_false (by omega)
    have q20:(x.kind=20)=False:=eq_false (by omega)
    have q21:(x.kind=21)=False:=eq_false (by omega)
    have q22:(x.kind=22)=False:=eq_false (by omega)
    have q23:(x.kind=23)=False:=eq_false (by omega)
    have q24:(x.kind=24)=False:=eq_false (by omega)
    have eA:shA x.kind=2:=by unfold shA;repeat' split <;> omega
    have eW:shW x.kind=2:=by unfold shW;repeat' split <;> omega
    rw [eA,eW]
    rcases ai ((x.sub.length:Int)=2) with ⟨c9,d9⟩|⟨c9,d9⟩
    case inr=>simp -implicitDefEqProofs only [RA,ae,zp,↓reduceIte,reduceCtorEq,zq,zr,zs,zt,unA,g1,g3,gx,z1,z2,d3,d4,d5,d6,d7,d8,ix0,aG,aN,am,ne_eq,not_false_eq_true,not_true_eq_false,q3,q4,q16,q17,q18,q19,q20,q21,q22,q23,q24,d9,decide_eq_false c9,Gf,bS]
    have hl:x.sub.length=2:=by omega
    rw [decide_eq_true c9,Ge]
    have ix1:idxA 6 (bg x.sub) 1=some (.fp (tmE x.sub[1])):=bh (n:=1) (Fo (by omega))
    have v1:wAt x.sub 1=x.sub[1].width:=ca (Fo (by omega))
    have s1:x.sub[1]?=some x.sub[1]:=Fo (by omega)
    generalize x.sub[1]=a1 at ix1 v1 s1
    rw [aZ] at ix1
    rw [wdB,if_neg (by omega),if_pos rfl,v0,v1]
    rcases ai (x.width=1) with ⟨e1,f1⟩|⟨e1,f1⟩
    ·simp -implicitDefEqProofs only [RA,ae,zp,↓reduceIte,reduceCtorEq,zq,zr,zs,zt,unA,g1,g3,gx,z1,z2,d3,d4,d5,d6,d7,d8,ix0,aG,aN,am,ne_eq,not_false_eq_true,not_true_eq_false,q3,q4,q16,q17,q18,q19,q20,q21,q22,q23,q24,d9,f1,ix1,Ge,bS]
    ·simp -implicitDefEqProofs only [RA,ae,zp,↓reduceIte,reduceCtorEq,zq,zr,zs,zt,unA,g1,g3,gx,z1,z2,d3,d4,d5,d6,d7,d8,ix0,aG,aN,am,ne_eq,not_false_eq_true,not_true_eq_false,q3,q4,q16,q17,q18,q19,q20,q21,q22,q23,q24,d9,f1,Gf,bS]
  by_cases hG:x.kind=19
  ·have q3:(x.kind=3)=False:=eq_false (by omega)
   have q4:(x.kind=4)=False:=eq_false (by omega)
   have q16:(x.kind=16)=False:=eq_false (by omega)
   have q17:(x.kind=17)=False:=eq_false (by omega)
   have q18:(x.kind=18)=False:=eq_false (by omega)
   have q19:(x.kind=19)=True:=eq_true (by omega)
   have q20:(x.kind=20)=False:=eq_false (by omega)
   have q21:(x.kind=21)=False:=eq_false (by omega)
   have q22:(x.kind=22)=False:=eq_false (by omega)
   have q23:(x.kind=23)=False:=eq_false (by omega)
   have q24:(x.kind=24)=False:=eq_false (by omega)
   have eA:shA x.kind=3:=by unfold shA;repeat' split <;> omega
   have eW:shW x.kind=3:=by unfold shW;repeat' split <;> omega
   rw [eA,eW]
   rcases ai ((x.sub.length:Int)=3) with ⟨c9,d9⟩|⟨c9,d9⟩
   case inr=>simp -implicitDefEqProofs only [RA,ae,zp,↓reduceIte,reduceCtorEq,zq,zr,zs,zt,unA,g1,g3,gx,z1,z2,d3,d4,d5,d6,d7,d8,ix0,aG,aN,am,ne_eq,not_false_eq_true,not_true_eq_false,q3,q4,q16,q17,q18,q19,q20,q21,q22,q23,q24,d9,decide_eq_false c9,Gf,bS]
   have hl:x.sub.length=3:=by omega
   rw [decide_eq_true c9,Ge]
   have ix1:idxA 6 (bg x.sub) 1=some (.fp (tmE x.sub[1])):=bh (n:=1) (Fo (by omega))
   have v1:wAt x.sub 1=x.sub[1].width:=ca (Fo (by omega))
   have s1:x.sub[1]?=some x.sub[1]:=Fo (by omega)
   generalize x.sub[1]=a1 at ix1 v1 s1
   rw [aZ] at ix1
   have ix2:idxA 6 (bg x.sub) 2=some (.fp (tmE x.sub[2])):=bh (n:=2) (Fo (by omega))
   have v2:wAt x.sub 2=x.sub[2].width:=ca (Fo (by omega))
   have s2:x.sub[2]?=some x.sub[2]:=Fo (by omega)
   generalize x.sub[2]=a2 at ix2 v2 s2
   rw [aZ] at ix2
   rw [wdB,if_neg (by omega),if_neg (by omega),if_pos rfl,v0,v1,v2]
   rcases ai (a0.width=1) with ⟨e1,f1⟩|⟨e1,f1⟩
   case inr=>simp -implicitDefEqProofs only [RA,ae,zp,↓reduceIte,reduceCtorEq,zq,zr,zs,zt,unA,g1,g3,gx,z1,z2,d3,d4,d5,d6,d7,d8,ix0,aG,aN,am,ne_eq,not_false_eq_true,not_true_eq_false,q3,q4,q16,q17,q18,q19,q20,q21,q22,q23,q24,d9,f1,Gf,bS]
   rcases ai (a1.width=x.width) with ⟨e2,f2⟩|⟨e2,f2⟩
   ·simp -implicitDefEqProofs only [RA,ae,zp,↓reduceIte,reduceCtorEq,zq,zr,zs,zt,unA,g1,g3,gx,z1,z2,d3,d4,d5,d6,d7,d8,ix0,aG,aN,am,ne_eq,not_false_eq_true,not_true_eq_false,q3,q4,q16,q17,q18,q19,q20,q21,q22,q23,q24,d9,f1,f2,ix1,ix2,Ge,bS]
   ·simp -implicitDefEqProofs only [RA,ae,zp,↓reduceIte,reduceCtorEq,zq,zr,zs,zt,unA,g1,g3,gx,z1,z2,d3,d4,d5,d6,d7,d8,ix0,aG,aN,am,ne_eq,not_false_eq_true,not_true_eq_false,q3,q4,q16,q17,q18,q19,q20,q21,q22,q23,q24,d9,f1,f2,ix1,Ge,Gf,bS]
  by_cases hG:x.kind=20
  ·have q3:(x.kind=3)=False:=eq_false (by omega)
   have q4:(x.kind=4)=False:=eq_false (by omega)
   have q16:(x.kind=16)=False:=eq_false (by omega)
   have q17:(x.kind=17)=False:=eq_false (by omega)
   have q18:(x.kind=18)=False:=eq_false (by omega)
   have q19:(x.kind=19)=False:=eq_false (by omega)
   have q20:(x.kind=20)=True:=eq_true (by omega)
   have q21:(x.kind=21)=False:=eq_false (by omega)
   have q22:(x.kind=22)=False:=eq_false (by omega)
   have q23:(x.kind=23)=False:=eq_false (by omega)
   have q24:(x.kind=24)=False:=eq_false (by omega)
   have eA:shA x.kind=2:=by unfold shA;repeat' split <;> omega
   have eW:shW x.kind=4:=by unfold shW;repeat' split <;> omega
   rw [eA,eW]
   rcases ai ((x.sub.length:Int)=2) with ⟨c9,d9⟩|⟨c9,d9⟩
   case inr=>simp -implicitDefEqProofs only [RA,ae,zp,↓reduceIte,reduceCtorEq,zq,zr,zs,zt,unA,g1,g3,gx,z1,z2,d3,d4,d5,d6,d7,d8,ix0,aG,aN,am,ne_eq,not_false_eq_true,not_true_eq_false,q3,q4,q16,q17,q18,q19,q20,q21,q22,q23,q24,d9,decide_eq_false c9,Gf,bS]
   have hl:x.sub.length=2:=by omega
   rw [decide_eq_true c9,Ge]
   have ix1:idxA 6 (bg x.sub) 1=some (.fp (tmE x.sub[1])):=bh (n:=1) (Fo (by omega))
   have v1:wAt x.sub 1=x.sub[1].width:=ca (Fo (by omega))
   have s1:x.sub[1]?=some x.sub[1]:=Fo (by omega)
   generalize x.sub[1]=a1 at ix1 v1 s1
   rw [aZ] at ix1
   have wd1:=hwd _ (Fp s1)
   obtain ⟨u3,u4⟩:=dz wd1
   have ew:IntKind.i64.wrap (a0.width+a1.width)=a0.width+a1.width:=w64 (by omega) (by omega)
   rw [wdB,if_neg (by omega),if_neg (by omega),if_neg (by omega),if_pos rfl,v0,v1,wd0,wd1]
   simp -implicitDefEqProofs only [RA,ae,zp,↓reduceIte,reduceCtorEq,zq,zr,zs,zt,unA,g1,g3,gx,z1,z2,d3,d4,d5,d6,d7,d8,ix0,aG,aN,am,ne_eq,not_false_eq_true,not_true_eq_false,q3,q4,q16,q17,q18,q19,q20,q21,q22,q23,q24,d9,ix1,ew,Ge,bS]
  by_cases hG:x.kind=22∨x.kind=23
  ·rcases hG with hk|hk
   ·have q3:(x.kind=3)=False:=eq_false (by omega)
    have q4:(x.kind=4)=False:=eq_false (by omega)
    have q16:(x.kind=16)=False:=eq_false (by omega)
    have q17:(x.kind=17)=False:=eq_false (by omega)
    have q18:(x.kind=18)=False:=eq_false (by omega)
    have q19:(x.kind=19)=False:=eq_false (by omega)
    have q20:(x.kind=20)=False:=eq_false (by omega)
    have q21:(x.kind=21)=False:=eq_false (by omega)
    have q22:(x.kind=22)=True:=eq_true (by omega)
    have q23:(x.kind=23)=False:=eq_false (by omega)
    have q24:(x.kind=24)=False:=eq_false (by omega)
    have eA:shA x.kind=1:=by unfold shA;repeat' split <;> omega
    have eW:shW x.kind=6:=by unfold shW;repeat' split <;> omega
    rw [eA,eW]
    rcases ai ((x.sub.length:Int)=1) with ⟨c9,d9⟩|⟨c9,d9⟩
    case inr=>simp -implicitDefEqProofs only [RA,ae,zp,↓reduceIte,reduceCtorEq,zq,zr,zs,zt,unA,g1,g3,gx,z1,z2,d3,d4,d5,d6,d7,d8,ix0,aG,aN,am,ne_eq,not_false_eq_true,not_true_eq_false,q3,q4,q16,q17,q18,q19,q20,q21,q22,q23,q24,d9,decide_eq_false c9,Gf,bS]
    have hl:x.sub.length=1:=by omega
    rw [decide_eq_true c9,Ge]
    rw [wdB,if_neg (by omega),if_neg (by omega),if_neg (by omega),if_neg (by omega),if_neg (by omega),if_pos rfl,v0]
    simp -implicitDefEqProofs only [RA,ae,zp,↓reduceIte,reduceCtorEq,zq,zr,zs,zt,unA,g1,g3,gx,z1,z2,d3,d4,d5,d6,d7,d8,ix0,aG,aN,am,ne_eq,not_false_eq_true,not_true_eq_false,q3,q4,q16,q17,q18,q19,q20,q21,q22,q23,q24,d9,Ge,bS]
   ·have q3:(x.kind=3)=False:=eq_false (by omega)
    have q4:(x.kind=4)=False:=eq_false (by omega)
    have q16:(x.kind=16)=False:=eq_false (by omega)
    have q17:(x.kind=17)=False:=eq_false (by omega)
    have q18:(x.kind=18)=False:=eq_false (by omega)
    have q19:(x.kind=19)=False:=eq_false (by omega)
    have q20:(x.kind=20)=False:=eq_false (by omega)
    have q21:(x.kind=21)=False:=eq_false (by omega)
    have q22:(x.kind=22)=False:=eq_false (by omega)
    have q23:(x.kind=23)=True:=eq_true (by omega)
    have q24:(x.kind=24)=False:=eq_false (by omega)
    have eA:shA x.kind=1:=by unfold shA;repeat' split <;> omega
    have eW:shW x.kind=6:=by unfold shW;repeat' split <;> omega
    rw [eA,eW]
    rcases ai ((x.sub.length:Int)=1) with ⟨c9,d9⟩|⟨c9,d9⟩
    case inr=>simp -implicitDefEqProofs only [RA,ae,zp,↓reduceIte,reduceCtorEq,zq,zr,zs,zt,unA,g1,g3,gx,z1,z2,d3,d4,d5,d6,d7,d8,ix0,aG,aN,am,ne_eq,not_false_eq_true,not_true_eq_false,q3,q4,q16,q17,q18,q19,q20,q21,q22,q23,q24,d9,decide_eq_false c9,Gf,bS]
    have hl:x.sub.length=1:=by omega
    rw [decide_eq_true c9,Ge]
    rw [wdB,if_neg (by omega),if_neg (by omega),if_neg (by omega),if_neg (by omega),if_neg (by omega),if_pos rfl,v0]
    simp -implicitDefEqProofs only [RA,ae,zp,↓reduceIte,reduceCtorEq,zq,zr,zs,zt,unA,g1,g3,gx,z1,z2,d3,d4,d5,d6,d7,d8,ix0,aG,aN,am,ne_eq,not_false_eq_true,not_true_eq_false,q3,q4,q16,q17,q18,q19,q20,q21,q22,q23,q24,d9,Ge,bS]
  by_cases hG:x.kind=24
  ·have q3:(x.kind=3)=False:=eq_false (by omega)
   have q4:(x.kind=4)=False:=eq_false (by omega)
   have q16:(x.kind=16)=False:=eq_false (by omega)
   have q17:(x.kind=17)=False:=eq_false (by omega)
   have q18:(x.kind=18)=False:=eq_false (by omega)
   have q19:(x.kind=19)=False:=eq_false (by omega)
   have q20:(x.kind=20)=False:=eq_false (by omega)
   have q21:(x.kind=21)=False:=eq_false (by omega)
   have q22:(x.kind=22)=False:=eq_false (by omega)
   have q23:(x.kind=23)=False:=eq_false (by omega)
   have q24:(x.kind=24)=True:=eq_true (by omega)
   have eA:shA x.kind=1:=by unfold shA;repeat' split <;> omega
   have eW:shW x.kind=7:=by unfold shW;repeat' split <;> omega
   rw [eA,eW]
   rcases ai ((x.sub.length:Int)=1) with ⟨c9,d9⟩|⟨c9,d9⟩
   case inr=>simp -implicitDefEqProofs only [RA,ae,zp,↓reduceIte,reduceCtorEq,zq,zr,zs,zt,unA,g1,g3,gx,z1,z2,d3,d4,d5,d6,d7,d8,ix0,aG,aN,am,ne_eq,not_false_eq_true,not_true_eq_false,q3,q4,q16,q17,q18,q19,q20,q21,q22,q23,q24,d9,decide_eq_false c9,Gf,bS]
   have hl:x.sub.length=1:=by omega
   rw [decide_eq_true c9,Ge]
   rw [wdB,if_neg (by omega),if_neg (by omega),if_neg (by omega),if_neg (by omega),if_neg (by omega),if_neg (by omega)]
   simp -implicitDefEqProofs only [RA,ae,zp,↓reduceIte,reduceCtorEq,zq,zr,zs,zt,unA,g1,g3,gx,z1,z2,d3,d4,d5,d6,d7,d8,ix0,aG,aN,am,ne_eq,not_false_eq_true,not_true_eq_false,q3,q4,q16,q17,q18,q19,q20,q21,q22,q23,q24,d9,Ge]
   refine (w113 _).use fun n2 hn2=>?_
   simp -implicitDefEqProofs only [RA,ae,zp,↓reduceIte,reduceCtorEq,zq,zr,zs,zt,unA,g1,g3,gx,z1,z2,d3,d4,d5,d6,d7,d8,ix0,aG,aN,am,ne_eq,not_false_eq_true,not_true_eq_false,bS]
  have q3:(x.kind=3)=False:=eq_false (by omega)
  have q4:(x.kind=4)=False:=eq_false (by omega)
  have q16:(x.kind=16)=False:=eq_false (by omega)
  have q17:(x.kind=17)=False:=eq_false (by omega)
  have q18:(x.kind=18)=False:=eq_false (by omega)
  have q19:(x.kind=19)=False:=eq_false (by omega)
  have q20:(x.kind=20)=False:=eq_false (by omega)
  have q21:(x.kind=21)=False:=eq_false (by omega)
  have q22:(x.kind=22)=False:=eq_false (by omega)
  have q23:(x.kind=23)=False:=eq_false (by omega)
  have q24:(x.kind=24)=False:=eq_false (by omega)
  have eA:shA x.kind=2:=by unfold shA;repeat' split <;> omega
  have eW:shW x.kind=1:=by unfold shW;repeat' split <;> omega
  rw [eA,eW]
  rcases ai ((x.sub.length:Int)=2) with ⟨c9,d9⟩|⟨c9,d9⟩
  case inr=>simp -implicitDefEqProofs only [RA,ae,zp,↓reduceIte,reduceCtorEq,zq,zr,zs,zt,unA,g1,g3,gx,z1,z2,d3,d4,d5,d6,d7,d8,ix0,aG,aN,am,ne_eq,not_false_eq_true,not_true_eq_false,q3,q4,q16,q17,q18,q19,q20,q21,q22,q23,q24,d9,decide_eq_false c9,Gf,bS]
  have hl:x.sub.length=2:=by omega
  rw [decide_eq_true c9,Ge]
  have ix1:idxA 6 (bg x.sub) 1=some (.fp (tmE x.sub[1])):=bh (n:=1) (Fo (by omega))
  have v1:wAt x.sub 1=x.sub[1].width:=ca (Fo (by omega))
  have s1:x.sub[1]?=some x.sub[1]:=Fo (by omega)
  generalize x.sub[1]=a1 at ix1 v1 s1
  rw [aZ] at ix1
  rw [wdB,if_pos rfl,any2 hl s0 s1]
  rcases ai (a0.width=x.width) with ⟨e1,f1⟩|⟨e1,f1⟩
  case inr=>simp -implicitDefEqProofs only [RA,ae,zp,↓reduceIte,reduceCtorEq,zq,zr,zs,zt,unA,g1,g3,gx,z1,z2,d3,d4,d5,d6,d7,d8,ix0,aG,aN,am,ne_eq,not_false_eq_true,not_true_eq_false,q3,q4,q16,q17,q18,q19,q20,q21,q22,q23,q24,d9,f1,decide_true,Gl,Bool.not_true,bS]
  rcases ai (a1.width=x.width) with ⟨e2,f2⟩|⟨e2,f2⟩
  ·simp -implicitDefEqProofs only [RA,ae,zp,↓reduceIte,reduceCtorEq,zq,zr,zs,zt,unA,g1,g3,gx,z1,z2,d3,d4,d5,d6,d7,d8,ix0,aG,aN,am,ne_eq,not_false_eq_true,not_true_eq_false,q3,q4,q16,q17,q18,q19,q20,q21,q22,q23,q24,d9,f1,f2,ix1,Bool.or_self,Bool.not_false,bS]
  ·simp -implicitDefEqProofs only [RA,ae,zp,↓reduceIte,reduceCtorEq,zq,zr,zs,zt,unA,g1,g3,gx,z1,z2,d3,d4,d5,d6,d7,d8,ix0,aG,aN,am,ne_eq,not_false_eq_true,not_true_eq_false,q3,q4,q16,q17,q18,q19,q20,q21,q22,q23,q24,d9,f1,f2,ix1,Gn,Bool.not_true,bS]
def brE (p:Pm):List AV:=[.str p.1,.int .i64 p.2,.int .u64 0]
theorem jo (l:List Pm):∀ z∈l.map brE,z.length=3:=fun z hz=>by
 obtain ⟨r,_,rfl⟩:=Fy.1 hz;rfl
theorem mz (l:List Tm):(vrL l).length≤l.length:=by
 unfold vrL;rw [Fw];exact List.length_filter_le _ _
theorem n7:∀ l:List Tm,(bD l).length=bx l
 | []=>rfl
 | a::r=>by simp only [bD,bx,FB,mT _ a (Gp _),n7 r]
theorem w103:∀ (N:Nat) (x:Tm),szT x≤N→N≤4000000→Pure Tryz.prog 103 [.agg (tmE x)] (.lst 3 ((vrL (ndT x)).map brE)):=by
 intro N
 induction N with
 | zero=>intro x h;have:=bR x;omega
 | succ N ih =>
  intro x h hN
  refine Pure.own (e:=159) (jo _) fun nx=>AC.go aI Dl (by simp) ?_
  have hsz:=bR x
  have lv:=bw x.sub
  have tl:=aY x
  have tk:=aU x
  have e0:=aZ x
  have hsl:=bJ x.sub
  obtain ⟨own,hown⟩:∃ own:List Pm,own=if x.kind=2 then [(x.name,x.width)] else []:=⟨_,rfl⟩
  have hnd:vrL (ndT x)=own++vrL (bD x.sub):=by
   rw [dU,hown]
   by_cases hk:x.kind=2 <;> simp [vrL,hk]
  have hol:own.length≤1:=by rw [hown];split <;> simp
  rw [hnd,e0]
  rw [e0] at tl tk
  have goal2:∀ (v:AV) (env:Env) (heap:Heap) (nx':Nat),ah env 1=some (.op nx 0)→ah env 3=some v→aq heap nx=some (.cells [.int .u8 x.kind,.int .i64 x.width,.int .u64 x.bits,.str x.name,.int .i64 x.low,bg x.sub])→aR 159 3 heap nx' v (own.map brE)→(∀ b,aP v=some b→nx<b)→nx<nx' →
    go Tryz.prog (fun _ _=>false) none 32 [.blk 0,.seq (.seq (.region [{ dst:=some 31,guard:=none,act:=.op (.move (.tmp 3)) },{ dst:=some 2,guard:=none,act:=.op (.move (.tmp 31)) }]) .ret)] (Ab.Fin B7 fun y h' n'=>∃ v,y=.ret v∧aR 159 3 h' n' v ((own++vrL (bD x.sub)).map brE)) (.loop nI) ⟨(4,.int .i64 0)::env,heap,nx',[]⟩:=by
   intro v env heap nx' g1 g3 gx ov bv hlt
   rw [km]
   refine aJ (fun q st=>∃ (i:Nat) (v:AV),q=x.sub.length-i∧i≤x.sub.length∧ah st.env 1=some (.op nx 0)∧ah st.env 3=some v∧ah st.env 4=some (.int .i64 i)∧aq st.heap nx=some (.cells [.int .u8 x.kind,.int .i64 x.width,.int .u64 x.bits,.str x.name,.int .i64 x.low,bg x.sub])∧aR 159 3 st.heap st.nx v ((own++vrL (bD (x.sub.take i))).map brE)∧(∀ b,aP v=some b→nx<b)∧nx<st.nx∧st.dm=[]) (n:=x.sub.length) aI
    ⟨0,v,rfl,by omega,by simp [ah,g1],by simp [ah,g3],by simp [ah],gx,by simpa [bD,vrL] using ov,bv,hlt,rfl⟩ ?_
   clear g1 g3 gx ov bv hlt
   rintro q ⟨env,heap,nx',dm⟩ ⟨i,v,rfl,hi,g1,g3,g4,gx,ov,bv,hlt,hdm⟩
   simp only at g1 g3 g4 gx ov bv hlt hdm
   subst hdm
   have f1:=wS (i:=i) (by omega)
   by_cases hc:(i:Int)<(x.sub.length:Int)
   case neg =>
    rw [show x.sub.take i=x.sub from Fs (by omega)] at ov
    simp -implicitDefEqProofs only [RA,ae,zp,↓reduceIte,reduceCtorEq,zq,zr,zs,zt,nI,nH,g1,g3,g4,gx,lv,hc,B7]
    exact ⟨v,rfl,ov⟩
   have hr:=Fo (show i<x.sub.length by omega)
   generalize x.sub[i]=r at hr
   have ix:=bh hr
   have rl:=aY r
   have rt:=aU r
   have hm:=bZ (Fp hr)
   have b1:=mz (ndT r)
   rw [mT _ r (Gp _)] at b1
   have b2:=mz (bD (x.sub.take i))
   rw [n7] at b2
   have b3:=mB x.sub i
   obtain ⟨v2,hp,n9,ea,ow,hn9,k9,b9⟩:=(ov.mono (Gp _)).grw (bytes:=32) (ns:=(vrL (ndT r)).map brE) (jo _) (jo _) (by simp only [Fw,FB];omega) (by simp only [Fw,FB,maxLen];omega)
   simp -implicitDefEqProofs only [RA,ae,zp,↓reduceIte,reduceCtorEq,zq,zr,zs,zt,nI,nH,g1,g3,g4,gx,lv,hc,ix,rl,rt]
   refine (ih r (by omega) (by omega)).use fun n1 hn1=>?_
   obtain ⟨v2,hp,n9,ea,ow,hn9,k9,b9⟩:=(ov.mono hn1).grw (bytes:=32) (ns:=(vrL (ndT r)).map brE) (jo _) (jo _) (by simp only [Fw,FB];omega) (by simp only [Fw,FB,maxLen];omega)
   simp -implicitDefEqProofs only [RA,ae,zp,↓reduceIte,reduceCtorEq,zq,zr,zs,zt,unA,g1,g3,g4,gx,ea,f1]
   refine ⟨x.sub.length-(i+1),by omega,i+1,v2,rfl,by omega,rfl,rfl,k9 _ _ (by omega) gx fun e=>by have:=bv nx e;omega,?_,fun b hb=>?_,by omega⟩
   ·rw [aQ hr,db,rj,← List.append_assoc,FC]
    simpa [bD] using ow
   ·rcases b9 b hb with h|h
    ·omega
    ·exact bv b h
  rcases ai (x.kind=2) with ⟨c1,d1⟩|⟨c1,d1⟩
  ·rw [if_pos c1] at hown
   have on:aR 159 3 [(nx,.cells [.int .u8 x.kind,.int .i64 x.width,.int .u64 x.bits,.str x.name,.int .i64 x.low,bg x.sub])] (nx+1) .nilS []:=.inl ⟨rfl,rfl⟩
   obtain ⟨v2,hp,n9,ea,ow,hn9,k9,b9⟩:=on.grw (bytes:=32) (ns:=[brE (x.name,x.width)]) (by simp) (by simp [brE]) (by simp) (by simp [maxLen])
   have hg:=goal2 v2
   rw [hown] at hg
   have k0:=k9 nx _ (by omega) (by rw [af,if_pos rfl]) (by simp [aP])
   have b0:∀ b,aP v2=some b→nx<b:=fun b hb=>by
    rcases b9 b hb with h|h
    ·omega
    ·simp [aP] at h
   simp only [brE] at ea
   simp -implicitDefEqProofs only [RA,ae,zp,↓reduceIte,reduceCtorEq,zq,zr,zs,zt,CC,xO,d1,↓ak,↓aj,ea]
   rw [hown]
   simp only [km] at hg
   refine hg _ _ _ ?_ ?_ k0 ow b0 (by omega)
   ·simp [ah]
   ·simp [ah]
  ·rw [if_neg c1] at hown
   have hg:=goal2 .nilS
   rw [hown] at hg
   simp -implicitDefEqProofs only [RA,ae,zp,↓reduceIte,reduceCtorEq,zq,zr,zs,zt,CC,xO,d1,↓ak,↓aj]
   rw [hown]
   simp only [km] at hg
   refine hg _ _ _ ?_ ?_ (by rw [af,if_pos rfl]) (.inl ⟨rfl,rfl⟩) (by simp [aP]) (Nat.lt_succ_self nx)
   ·simp [ah]
   ·simp [ah]
def nf (l:List Pm):AV:=.lst 3 (l.map brE)
theorem zg (l:List Pm):eN (nf l)=some l.length:=by simp [nf,eM]
theorem rY {l:List Pm} {n:Nat} {r:Pm} (h:l[n]?=some r):idxA 3 (nf l) (n:Int)=some (.fp (brE r)):=dB h
theorem BT (p:Pm):brE p=[.str p.1,.int .i64 p.2,.int .u64 0]:=rfl
theorem DB (l:List Pm):cellsOf (nf l)=[nf l]:=rfl
theorem CN (l:List Pm):(nf l).plain=true:=rfl
theorem vQ {L:List Pm} (h:∀ (i j:Nat) (p q:Pm),j<i→L[i]?=some p→L[j]?=some q→p.1=q.1→p.2=q.2):ij L:=by
 intro p hp q hq e
 obtain ⟨i,hi⟩:=FH hp
 obtain ⟨j,hj⟩:=FH hq
 rcases Nat.lt_trichotomy i j with hl|hl|hl
 ·exact (h j i q p hl hj hi e.symm).symm
 ·subst hl;rw [hi] at hj;injection hj with hj;rw [hj]
 ·exact h i j p q hl hi hj e
theorem w92 (x:Tm) (hz:szT x≤4000000) (ho:okT x):Pure Tryz.prog 92 [.agg (tmE x)] (.int .i64 (tcE x)):=by
 refine Pure.of fun nx=>AC.go aI is92 (by simp) ?_
 have e0:=aZ x
 have tl:=aY x
 have tk:=aU x
 have w61':=w61 4000000 x hz (Gp _)
 have w101':=w101 4000000 x hz (Gp _)
 have w102':=w102 4000000 x hz (Gp _) ho
 have w103':=w103 4000000 x hz (Gp _)
 rw [e0] at tl tk w61' w101' w102' w103' ⊢
 rw [show (.lst 3 ((vrL (ndT x)).map brE):AV)=nf (vrL (ndT x)) from rfl] at w103'
 simp -implicitDefEqProofs only [RA,ae,zp,↓reduceIte,reduceCtorEq,zq,zr,zs,zt,A92,Ei,↓ak,↓aj]
 refine w61'.use fun k1 hk1=>?_
 unfold tcE
 rcases ai ((400:Int)<(szT x:Int)) with ⟨c1,d1⟩|⟨c1,d1⟩
 ·rw [if_pos (.inl (by omega))]
  simp -implicitDefEqProofs only [RA,ae,zp,↓reduceIte,reduceCtorEq,zq,zr,zs,zt,d1,unA,R92]
 simp -implicitDefEqProofs only [RA,ae,zp,↓reduceIte,reduceCtorEq,zq,zr,zs,zt,d1,unA,↓ak,↓aj]
 refine w101'.use fun k2 hk2=>?_
 rcases ai ((60:Int)<(dpT x:Int)) with ⟨c2,d2⟩|⟨c2,d2⟩
 ·rw [if_pos (.inr (by omega))]
  simp -implicitDefEqProofs only [RA,ae,zp,↓reduceIte,reduceCtorEq,zq,zr,zs,zt,d2,unA,R92]
 rw [if_neg (by omega)]
 simp -implicitDefEqProofs only [RA,ae,zp,↓reduceIte,reduceCtorEq,zq,zr,zs,zt,d2,unA,↓ak,↓aj]
 refine w102'.use fun k3 hk3=>?_
 cases hf:(ndT x).all ndB
 ·rw [if_pos rfl]
  simp -implicitDefEqProofs only [RA,ae,zp,↓reduceIte,reduceCtorEq,zq,zr,zs,zt,unA,R92]
 rw [if_neg (by simp)]
 simp -implicitDefEqProofs only [RA,ae,zp,↓reduceIte,reduceCtorEq,zq,zr,zs,zt,unA,↓ak,↓aj]
 refine w103'.use fun k4 hk4=>?_
 have hvl:=mz (ndT x)
 rw [mT _ x (Gp _)] at hvl
 generalize vrL (ndT x)=L at hvl
 have lv:=zg L
 simp -implicitDefEqProofs only [RA,ae,zp,↓reduceIte,reduceCtorEq,zq,zr,zs,zt,unA,↓DB,↓CN,lv]
 refine aJ (fun q st=>∃ i:Nat,q=L.length-i∧i≤L.length∧ah st.env 3=some (nf L)∧ah st.env 4=some (.int .i64 i)∧(∀ a b p q,b<a→a<i→L[a]?=some p→L[b]?=some q→p.1=q.1→p.2=q.2)∧st.dm=[]) (n:=L.length) aI
  ⟨0,rfl,by omega,by simp [ah],by simp [ah],by omega,rfl⟩ ?_
 rintro q ⟨env,heap,nx',dm⟩ ⟨i,rfl,hi,g3,g4,ha,hdm⟩
 simp only at g3 g4 ha hdm
 subst hdm
 have f1:=wS (i:=i) (by omega)
 by_cases hc:(i:Int)<(L.length:Int)
 case neg =>
  rw [if_pos (vQ fun a b p q h1 h2 h3 h4=>ha a b p q h1 (by have:=(Fq.1 h2).1;omega) h2 h3 h4)]
  simp -implicitDefEqProofs only [RA,ae,zp,↓reduceIte,reduceCtorEq,zq,zr,zs,zt,wC,ql,g3,g4,lv,hc,R92]
 have hr:=Fo (show i<L.length by omega)
 generalize L[i]=p at hr
 have ixi:=rY hr
 simp -implicitDefEqProofs only [RA,ae,zp,↓reduceIte,reduceCtorEq,zq,zr,zs,zt,wC,ql,g3,g4,lv,hc]
 refine aJ (fun q st=>∃ j:Nat,q=i-j∧j≤i∧ah st.env 3=some (nf L)∧ah st.env 4=some (.int .i64 i)∧ah st.env 5=some (.int .i64 j)∧(∀ b q,b<j→L[b]?=some q→p.1=q.1→p.2=q.2)∧st.dm=[]) (n:=i) aI
  ⟨0,rfl,by omega,by simp [ah,g3],by simp [ah,g4],by simp [ah],by omega,rfl⟩ ?_
 clear g3 g4
 rintro q ⟨env,heap,nx',dm⟩ ⟨j,rfl,hj,g3,g4,g5,hb,hdm⟩
 simp only at g3 g4 g5 hb hdm
 subst hdm
 have f2:=wS (i:=j) (by omega)
 by_cases hcj:(j:Int)<(i:Int)
 case neg =>
  simp -implicitDefEqProofs only [RA,ae,zp,↓reduceIte,reduceCtorEq,zq,zr,zs,zt,pg,ld,g3,g4,g5,hcj,f1]
  refine ⟨L.length-(i+1),by omega,i+1,rfl,by omega,rfl,fun a b p' q' h1 h2 h3 h4 he=>?_⟩
  rcases Nat.lt_or_ge a i with h|h
  ·exact ha a b p' q' h1 h h3 h4 he
  ·obtain rfl:a=i:=by omega
   rw [hr] at h3;injection h3 with h3;subst h3
   exact hb b q' (by omega) h4 he
 have hrj:=Fo (show j<L.length by omega)
 generalize L[j]=q at hrj
 have ixj:=rY hrj
 rw [BT] at ixi ixj
 have eqs:∀ s t:Nm,(s==t)=decide (s=t):=fun s t=>by by_cases h:s=t <;> simp [h]
 rcases ai (q.1=p.1) with ⟨c4,d4⟩|⟨c4,d4⟩
 ·rcases ai (q.2=p.2) with ⟨c5,d5⟩|⟨c5,d5⟩
  ·simp -implicitDefEqProofs only [RA,ae,zp,↓reduceIte,reduceCtorEq,zq,zr,zs,zt,pg,ld,g3,g4,g5,hcj,ixi,ixj,d4,d5,aG,aN,eqs,f2,ne_eq,not_true_eq_false]
   refine ⟨i-(j+1),by omega,j+1,rfl,by omega,rfl,fun b q' h1 h2 he=>?_⟩
   rcases Nat.lt_or_ge b j with h|h
   ·exact hb b q' h h2 he
   ·obtain rfl:b=j:=by omega
    rw [hrj] at h2;injection h2 with h2;subst h2;exact c5.symm
  ·rw [if_neg (fun hh=>c5 (hh q (Fp hrj) p (Fp hr) c4))]
   simp -implicitDefEqProofs only [RA,ae,zp,↓reduceIte,reduceCtorEq,zq,zr,zs,zt,pg,ld,g3,g4,g5,hcj,ixi,ixj,d4,d5,aG,aN,eqs,f2,ne_eq,not_false_eq_true,R92]
 ·simp -implicitDefEqProofs only [RA,ae,zp,↓reduceIte,reduceCtorEq,zq,zr,zs,zt,pg,ld,g3,g4,g5,hcj,ixi,ixj,d4,aG,aN,eqs,f2,ne_eq,not_true_eq_false]
  refine ⟨i-(j+1),by omega,j+1,rfl,by omega,rfl,fun b q' h1 h2 he=>?_⟩
  rcases Nat.lt_or_ge b j with h|h
  ·exact hb b q' h h2 he
  ·obtain rfl:b=j:=by omega
   rw [hrj] at h2;injection h2 with h2;subst h2;exact absurd he.symm c4
end Go.Proofs.YtkhjclmfbmfahaaGreatDoor
