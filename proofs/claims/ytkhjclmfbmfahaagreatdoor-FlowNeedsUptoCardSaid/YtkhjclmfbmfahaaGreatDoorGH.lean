/- The nodes of a term, as the intermediate language's package walks over them. -/
import Derived.Test.YtkhjclmfbmfahaaGreatDoorGG
namespace Go.Proofs.YtkhjclmfbmfahaaGreatDoor
open List renaming getElem?_eq_getElem → Fo, mem_of_getElem? → Fp, take_of_length_le → Fs, all_eq_true → Fz, mem_append → FE, mem_singleton → FF, append_nil → FM
open Bool renaming and_eq_true → Gd, true_and → Ge, false_and → Gf, and_self → Gg, and_true → Gi, and_false → Gj, false_or → Gm
open Nat renaming le_refl → Gp
open Int renaming reduceEq → Gy
set_option maxHeartbeats 64000000
open Go Go.Ab Go.Proofs
open Nat renaming reduceEqDiff → zp, reduceAdd → zq, reduceLeDiff → zr, reduceLT → zs, reduceBEq → zt
set_option linter.unusedVariables false
set_option linter.unusedSimpArgs false
set_option maxRecDepth 20000
theorem w100 {b yb fb:Nat} (F:Nat→Prop) (n0:Nat) (hF:∀ k,F k→k<n0) (I:List Tm→Heap→Nat→Prop) (J:Heap→Nat→Prop) (Pt:Tm→Prop) (hP:∀ x,Pt x→∀ y∈x.sub,Pt y)
  (hI:∀ pre h nx h' n',I pre h nx→n0≤nx→nx≤n'→(∀ k o,k<nx→aq h k=some o→aq h' k=some o)→I pre h' n')
  (hy:∀ pre x h nx,n0≤nx→Pt x→I pre h nx→AY Tryz.prog b [.agg (tmE x)] h nx (VP F I J h nx (pre++[x]))) (fy:¬ F yb) (ff:¬ F fb) :
  ∀ (N:Nat) (t:Tm),szT t≤N→N≤4000000→Pt t→∀ pre h nx,n0≤nx→I pre h nx→aq h yb=some (.cells [.yl b])→aq h fb=some (.cells [.fn (.func 100) [.op yb 0,.op fb 0]])→yb<nx→fb<nx →
   AC Tryz.prog 100 [.agg (tmE t),.op yb 0,.op fb 0] h nx (VP F I J h nx (pre++ndT t)):=by
 intro N
 induction N with
 | zero=>intro x h;have:=bR x;omega
 | succ N ih =>
  intro t hN hN2 ht pre h nx hn0 hi hyb hfb hyn hfn
  have hsub:=hP t ht
  obtain ⟨k,w,bi,n,lo,s⟩:=t
  simp only [Tm.sub] at hsub
  refine AC.go aI Dp (by simp) ?_
  simp only [szT] at hN
  have hl:=bJ s
  have lv:=bw s
  have tx:=aY (.mk k w bi n lo s)
  have tk:=aU (.mk k w bi n lo s)
  have e0:=gI k w bi n lo s
  rw [e0] at tx tk ⊢
  have kb:∀ q o,q<nx→aq h q=some o→aq ((nx,AO.cells [.int .u8 k,.int .i64 w,.int .u64 bi,.str n,.int .i64 lo,bg s])::h) q=some o:=fun q o hq ho=>by rw [af,if_neg (by omega)];exact ho
  have i1:=hI pre _ _ _ _ hi hn0 (Nat.le_succ nx) kb
  have hbox:¬ F nx:=fun hf=>by have:=hF nx hf;omega
  have d1:(nx=yb)=False:=eq_false (by omega)
  have d2:(nx=fb)=False:=eq_false (by omega)
  simp -implicitDefEqProofs only [RA,ae,zp,↓reduceIte,reduceCtorEq,zq,zr,zs,zt,Fl,AA,↓ak,↓aj,d1,hyb]
  have hyr:=hy pre (.mk k w bi n lo s) _ (nx+1) (by omega) ht i1
  rw [e0] at hyr
  refine hyr.mono ?_
  rintro y h1 n1 ⟨hn1,hk1,hd⟩
  have gb:=hk1 nx _ (by omega) hbox (by rw [af,if_pos rfl])
  have keep1:∀ q o,q<nx→¬ F q→aq h q=some o→aq h1 q=some o:=fun q o hq hf ho=>hk1 q o (by omega) hf (kb q o hq ho)
  rcases hd with ⟨rfl,hi1⟩|⟨rfl,hj⟩
  case inr =>
   simp -implicitDefEqProofs only [RA,ae,zp,↓reduceIte,reduceCtorEq,zq,zr,zs,zt,unA,zw]
   exact ⟨by omega,keep1,.inr ⟨rfl,hj⟩⟩
  simp -implicitDefEqProofs only [RA,ae,zp,↓reduceIte,reduceCtorEq,zq,zr,zs,zt,unA,gb,lv]
  refine aJ (fun q st=>∃ i:Nat,q=s.length-i∧i≤s.length∧ah st.env 1=some (.op yb 0)∧ah st.env 2=some (.op fb 0)∧ah st.env 12=some (bg s)∧ah st.env 13=some (.int .i64 s.length)∧ah st.env 14=some (.int .i64 i)∧n1≤st.nx∧(∀ q o,q<nx→¬ F q→aq h q=some o→aq st.heap q=some o)∧I (pre++[.mk k w bi n lo s]++bD (s.take i)) st.heap st.nx∧st.dm=[]) (n:=s.length) aI
   ⟨0,rfl,by omega,by simp [ah],by simp [ah],by simp [ah],by simp [ah],by simp [ah],Gp _,keep1,by simpa [bD] using hi1,rfl⟩ ?_
  rintro q ⟨env,heap,nx',dm⟩ ⟨i,rfl,hii,g1,g2,g12,g13,g14,hlt,hk,hii2,hdm⟩
  simp only at g1 g2 g12 g13 g14 hlt hk hii2 hdm
  subst hdm
  have f1:=wS (i:=i) (by omega)
  by_cases hc:(i:Int)<(s.length:Int)
  case neg =>
   rw [show s.take i=s from Fs (by omega)] at hii2
   simp -implicitDefEqProofs only [RA,ae,zp,↓reduceIte,reduceCtorEq,zq,zr,zs,zt,rf,nM,g1,g2,g12,g13,g14,hc,zw]
   refine ⟨by omega,hk,.inl ⟨rfl,?_⟩⟩
   rw [ndT]
   simpa using hii2
  have hr:=Fo (show i<s.length by omega)
  generalize s[i]=r at hr
  have hmem:=Fp hr
  have hm:=bZ hmem
  have ix:=bh hr
  have e1:=aZ r
  have hy2:=hk _ _ hyn fy hyb
  have hf2:=hk _ _ hfn ff hfb
  have ek:∀ (X Y:AO) q o,q<nx'→aq heap q=some o→aq ((nx',X)::(nx',Y)::heap) q=some o:=fun X Y q o hq ho=>by rw [af,if_neg (by omega),af,if_neg (by omega)];exact ho
  have i2:=fun X Y=>hI _ _ _ ((nx',X)::(nx',Y)::heap) (nx'+1) hii2 (by omega) (by omega) (ek X Y)
  have ihr:=fun X Y=>ih r (by omega) (by omega) (hsub r hmem) _ ((nx',X)::(nx',Y)::heap) (nx'+1) (by omega) (i2 X Y) (ek X Y _ _ (by omega) hy2) (ek X Y _ _ (by omega) hf2) (by omega) (by omega)
  rw [e1] at ix ihr
  have d3:(nx'=yb)=False:=eq_false (by omega)
  have d4:(nx'=fb)=False:=eq_false (by omega)
  simp -implicitDefEqProofs only [RA,ae,zp,↓reduceIte,reduceCtorEq,zq,zr,zs,zt,rf,nM,g1,g2,g12,g13,g14,hc,ix,↓ak,↓aj,d3,d4,hf2]
  refine (ihr _ _).mono ?_
  rintro y h2 n2 ⟨hn2,hk2,hd2⟩
  have keep2:∀ q o,q<nx→¬ F q→aq h q=some o→aq h2 q=some o:=fun q o hq hf ho=>hk2 q o (by omega) hf (ek _ _ q o (by omega) (hk q o hq hf ho))
  rcases hd2 with ⟨rfl,hi3⟩|⟨rfl,hj⟩
  case inr =>
   simp -implicitDefEqProofs only [RA,ae,zp,↓reduceIte,reduceCtorEq,zq,zr,zs,zt,unA,zw]
   exact ⟨by omega,keep2,.inr ⟨rfl,hj⟩⟩
  simp -implicitDefEqProofs only [RA,ae,zp,↓reduceIte,reduceCtorEq,zq,zr,zs,zt,g1,g2,g12,g13,g14,unA,f1]
  refine ⟨s.length-(i+1),by omega,i+1,rfl,by omega,rfl,by omega,keep2,?_⟩
  rw [aQ hr,db]
  simpa [bD] using hi3
theorem w99:nk 99:=by
 intro b F n0 hF I J Pt hP hI hy t hz ht c h nx hn0 hi gc hcn
 refine AC.go aI is99 (by simp) ?_
 have kb:∀ (X Y Z:AO) q o,q<nx→aq h q=some o→aq ((nx+1,X)::(nx+1,Y)::(nx,Z)::h) q=some o:=fun X Y Z q o hq ho=>by rw [af,if_neg (by omega),af,if_neg (by omega),af,if_neg (by omega)];exact ho
 have hv:=fun X Y Z h1 h2=>w100 (yb:=nx) (fb:=nx+1) F n0 hF I J Pt hP hI hy (fun hf=>by have:=hF _ hf;omega) (fun hf=>by have:=hF _ hf;omega) _ t (Gp _) hz ht [] _ (nx+2) (by omega) (hI _ _ _ _ (nx+2) hi hn0 (by omega) (kb X Y Z)) h1 h2 (by omega) (by omega)
 have hv':=hv (.cells [.fn (.func 100) [.op nx 0,.op (nx+1) 0]]) (.cells [.nilF]) (.cells [.yl b]) (by rw [af,if_neg (by omega),af,if_neg (by omega),af,if_pos rfl]) (by rw [af,if_pos rfl])
 have n1:(nx+1=nx)=False:=eq_false (by omega)
 have d1:(nx+1=c)=False:=eq_false (by omega)
 have d2:(nx=c)=False:=eq_false (by omega)
 rw [aZ] at gc hv'
 simp -implicitDefEqProofs only [RA,ae,zp,↓reduceIte,reduceCtorEq,zq,zr,zs,zt,A99,Ec,gc,n1,d1,d2]
 refine hv'.mono ?_
 rintro y h' n' ⟨h1,h2,h3⟩
 have keep:∀ q o,q<nx→¬ F q→aq h q=some o→aq h' q=some o:=fun q o hq hf ho=>h2 q o (by omega) hf (kb _ _ _ q o hq ho)
 rcases h3 with ⟨rfl,h3⟩|⟨rfl,h3⟩
 ·simp -implicitDefEqProofs only [RA,ae,zp,↓reduceIte,reduceCtorEq,zq,zr,zs,zt,R99]
  exact ⟨by omega,keep,.inl h3⟩
 ·simp -implicitDefEqProofs only [RA,ae,zp,↓reduceIte,reduceCtorEq,zq,zr,zs,zt,R99]
  exact ⟨by omega,keep,.inr h3⟩
theorem w91 (x:Tm) (h:Heap) (nx:Nat):AC Tryz.prog 91 [.agg (tmE x)] h nx fun y h' n'=>y=.ret (.fn (.func 99) [.op nx 0])∧h'=(nx,.cells (tmE x))::h∧n'=nx+1:=by
 refine AC.go aI is91 (by simp) ?_
 rw [aZ]
 simp -implicitDefEqProofs only [RA,ae,zp,↓reduceIte,reduceCtorEq,zq,zr,zs,zt,A91,Ej,bY,↓ak,↓aj,R91]
def vw (V:List Pm) (n:Nm):Int:=match V.find? (fun p=>p.1==n) with|some p=>p.2|none=>0
theorem fR (a:Pm) (V:List Pm) (n:Nm):vw (a::V) n=if a.1=n then a.2 else vw V n:=by
 unfold vw
 rw [List.find?_cons]
 by_cases h:a.1=n
 ·rw [if_pos h];simp [h]
 ·rw [if_neg h]
  have:(a.1==n)=false:=by simpa using h
  rw [this]
theorem rT (n:Nm):∀ (K:List Pm) (i:Nat),(ec .str (.str n) (K.map cW) i=some none∧vw K n=0∧∀ p∈K,p.1≠n)∨∃ j,ec .str (.str n) (K.map cW) i=some (some (j,.int .i64 (vw K n)))
 | [],i=>.inl ⟨rfl,rfl,by simp⟩
 | a::r,i=>by
  rw [fR]
  by_cases e:a.1=n
  ·exact .inr ⟨i,by simp [ec,cW,eqC,e]⟩
  ·have ne:(n==a.1)=false:=by simpa using fun h=>e h.symm
   simp only [List.map_cons,ec,cW,eqC,ne,if_neg e]
   rcases rT n r (i+1) with ⟨h1,h2,h3⟩|⟨j,h1⟩
   ·exact .inl ⟨h1,h2,fun p hp=>by rcases List.mem_cons.1 hp with rfl|hp;exact e;exact h3 p hp⟩
   ·exact .inr ⟨j,h1⟩
theorem fW {h:Heap} {m:Nat} {K:List Pm} {st:List Nat} {ck:Nat} (hm:aq h m=some (.map (K.map cW) st ck)) (n:Nm):eV h .str (.int .i64 0) false (.mp m) (.str n)=some (.int .i64 (vw K n)):=by
 rcases rT n K 0 with ⟨h1,h2,_⟩|⟨j,h1⟩
 ·simp [eV,jb,hm,je,h1,h2]
 ·simp [eV,jb,hm,je,h1]
def ndV (V:List Pm) (y:Tm):Bool:=(!(decide (y.kind=2))||decide (vw V y.name=y.width))&&(!(decide (y.kind=24))||decide (wAt y.sub 0=32))
def ftZ (V:List Pm) (x:Tm):Bool:=decide (tcE x=0)&&(ndT x).all (ndV V)
def ftB (V:List Pm) (x:Tm) (w:Int):Bool:=ftZ V x&&(decide (w=0)||decide (x.width=w))
theorem t8 {x:Tm} (h:tcE x=0):(ndT x).all ndB=true:=by
 unfold tcE at h
 split at h
 ·cases h
 ·split at h
  ·cases h
  ·rename_i h1;simpa using h1
theorem Bo {y:Tm} (h:ndB y=true) (hk:y.kind=24):1≤y.sub.length:=by
 unfold ndB at h
 rw [hk,if_pos (by decide)] at h
 simp only [Gd,decide_eq_true_eq] at h
 have:=h.2.2.2.2.1
 have e:shA 24=1:=by decide
 omega
def scE (P:Pi) (f:Fn) (mv mf:Nat):List AV:=[bM P,.str f.name,bp f.params,.int .i64 f.result,bp f.locals,cp f.blocks,.mp mv,.mp mf]
def KP (h:Heap) (nx:Nat) (r:AV):AE→Heap→Nat→Prop:=fun y h' n'=>y=.ret r∧nx≤n'∧∀ k o,k<nx→aq h k=some o→aq h' k=some o
theorem w82 (P:Pi) (f:Fn) (mv mf:Nat) (V:List Pm) (x:Tm) (w:Int) (h:Heap) (nx:Nat) (st:List Nat) (ck:Nat) (hz:szT x≤4000000) (ho:okT x) (hm:aq h mv=some (.map (V.map cW) st ck)) (hmn:mv<nx) :
  AC Tryz.prog 82 [.agg (scE P f mv mf),.agg (tmE x),.int .i64 w] h nx (KP h nx (.bool (ftB V x w))):=by
 unfold KP
 refine AC.go aI is82 (by simp) ?_
 have e0:=aZ x
 have tl:=aY x
 have tk:=aU x
 have n1:(nx+1=nx)=False:=eq_false (by omega)
 have n2:(nx+1+1=nx)=False:=eq_false (by omega)
 have n3:(nx=nx+1)=False:=eq_false (by omega)
 have w90':=w90 x hz ho
 rw [e0] at tl tk w90' ⊢
 unfold ftB ftZ scE
 simp -implicitDefEqProofs only [RA,ae,zp,↓reduceIte,reduceCtorEq,zq,zr,zs,zt,A82,Ep,↓ak,↓aj,↓aA,↓az,↓au,↓ar,↓ay,↓aw,n1,n2]
 refine w90'.use fun k1 hk1=>?_
 rcases ai (tcE x=0) with ⟨c1,d1⟩|⟨c1,d1⟩
 case inr =>
  simp -implicitDefEqProofs only [RA,ae,zp,↓reduceIte,reduceCtorEq,zq,zr,zs,zt,unA,ne_eq,d1,not_false_eq_true,not_true_eq_false,n1,n2,Gf,R82]
  refine ⟨by omega,fun k o hk ho=>?_⟩
  repeat rw [if_neg (by omega)]
  exact ho
 have hnd:=t8 c1
 have hgo:(w=0∨x.width=w)∨¬ (w=0∨x.width=w):=Classical.em _
 rcases hgo with hgo|hgo
 case inr =>
  have d2:(w=0)=False:=eq_false fun h=>hgo (.inl h)
  have d3:(x.width=w)=False:=eq_false fun h=>hgo (.inr h)
  simp -implicitDefEqProofs only [RA,ae,zp,↓reduceIte,reduceCtorEq,zq,zr,zs,zt,unA,ne_eq,d1,d2,d3,not_false_eq_true,not_true_eq_false,n1,n2,Gj,Bool.or_self,R82]
  refine ⟨by omega,fun k o hk ho=>?_⟩
  repeat rw [if_neg (by omega)]
  exact ho
 have eor:(decide (w=0)||decide (x.width=w))=true:=by rcases hgo with h|h <;> simp [h]
 rw [eor,Gi]
 rcases ai (w=0) with ⟨c2,d2⟩|⟨c2,d2⟩
 ·simp -implicitDefEqProofs only [RA,ae,zp,↓reduceIte,reduceCtorEq,zq,zr,zs,zt,unA,ne_eq,d1,d2,not_false_eq_true,not_true_eq_false,n1,n2,↓ak,↓aj]
  generalize hH:(_::_:Heap)=H
  have w:=w91 x H k1
  rw [e0] at w
  refine w.mono ?_
  have q0:aq H nx=some (.cells [bM P,.str f.name,bp f.params,.int .i64 f.result,bp f.locals,cp f.blocks,.mp mv,.mp mf]):=by subst hH;simp -implicitDefEqProofs only [RA,ae,zp,↓reduceIte,reduceCtorEq,zq,zr,zs,zt,n1,n2]
  have q2:aq H (nx+1+1)=some (.cells [.bool false]):=by subst hH;simp -implicitDefEqProofs only [RA,ae,zp,↓reduceIte,reduceCtorEq,zq,zr,zs,zt,n1,n2]
  have qk:∀ k o,k<nx→aq h k=some o→aq H k=some o:=fun k o hk ho=>by
   subst hH
   repeat rw [af,if_neg (by omega)]
   exact ho
  clear hH w
  rintro y hh n ⟨rfl,rfl,rfl⟩
  simp -implicitDefEqProofs only [RA,ae,zp,↓reduceIte,reduceCtorEq,zq,zr,zs,zt,eQ]
  refine io (c:=k1) (t:=x) w99 (fun y=>y∈ndT x) (fun k=>k=nx+1+1)
   (fun pre h n=>aq h (nx+1+1)=some (.cells [.bool false])∧aq h nx=some (.cells [bM P,.str f.name,bp f.params,.int .i64 f.result,bp f.locals,cp f.blocks,.mp mv,.mp mf])∧aq h mv=some (.map (V.map cW) st ck)∧∀ y∈pre,ndV V y=true)
   (fun j h n=>j=none∧nx+1+1<n∧(ndT x).all (ndV V)=false∧aq h (nx+1+1)=some (.cells [.bool false]))
   (fun y h' n' env h'' n''=>ah env 7=some (.op n' 0)∧aq h'' n'=some (.cells (tmE y))∧n'<n''∧ah env 3=some (.op nx 0)∧ah env 6=some (.op (nx+1+1) 0))
   (by simp [oev,ah,bY]) (by rw [af,if_pos rfl,e0]) (by simp only;omega) (by decide) hz (fun y hy z hz=>mS _ x (Gp _) y hy z hz) (eK x) (fun k hk=>by simp only;omega)
   (fun pre h n h' n' hi hn hn' hk=>by
    simp only at hn
    exact ⟨hk _ _ (by omega) (by simp only;omega) hi.1,hk _ _ (by omega) (by simp only;omega) hi.2.1,hk _ _ (by omega) (by simp only;omega) hi.2.2.1,hi.2.2.2⟩)
   (fun j h n h' hj hk=>⟨hj.1,hj.2.1,hj.2.2.1,hk _ _ hj.2.1 (by simp only;omega) hj.2.2.2⟩)
   ⟨by rw [af,if_neg (by omega)];exact q2,by rw [af,if_neg (by omega)];exact q0,by rw [af,if_neg (by omega)];exact qk _ _ hmn hm,by simp⟩
   (fun h' n' hi hn hk=>⟨hk _ _ (by simp only;omega) hi.1,hk _ _ (by simp only;omega) hi.2.1,hk _ _ (by simp only;omega) hi.2.2.1,hi.2.2.2⟩)
   ?_ ?_ ?_
  ·intro y h n l hn
   refine e7 aI ?_
   have tl:=aY y
   have tk:=aU y
   have e0:=aZ y
   rw [e0] at tl tk ⊢
   simp -implicitDefEqProofs only [RA,ae,zp,↓reduceIte,reduceCtorEq,zq,zr,zs,zt,wI,qo,↓ak,↓aj]
   refine ⟨by omega,fun k o hk hb=>?_,by omega⟩
   rw [if_neg (by omega),if_neg (by omega)];exact hb
  ·rintro pre y h0 nx0 env h n l hy hn0 hn ⟨i1,i2,i3,i4⟩ ⟨h1,⟨b1,b2,b3,b4,b5⟩,hk⟩
   refine e7 aI ?_
   simp only at hn0
   have gy:=hk _ _ b3 (by simp only;omega) b2
   have yb:=Fz.1 hnd y hy
   have lk:=fW i3 y.name
   have hall:ndV V y=false→(ndT x).all (ndV V)=false:=fun hb=>by
    rw [Bool.eq_false_iff]
    intro h
    rw [Fz.1 h y hy] at hb;cases hb
   have hok:ndV V y=true→∀ z∈pre++[y],ndV V z=true:=fun hb z hz=>by
    rcases FE.1 hz with hz|hz
    ·exact i4 z hz
    ·rw [FF.1 hz];exact hb
   rw [aZ] at gy
   rcases ai (y.kind=2) with ⟨k1,j1⟩|⟨k1,j1⟩
   ·have j2:(y.kind=24)=False:=eq_false (by omega)
    rcases ai (vw V y.name=y.width) with ⟨k3,j3⟩|⟨k3,j3⟩
    ·simp -implicitDefEqProofs only [RA,ae,zp,↓reduceIte,reduceCtorEq,zq,zr,zs,zt,ip,fh,b1,b4,b5,gy,i2,lk,j1,j2,j3,unA,ne_eq,not_true_eq_false]
     exact ⟨fun k o _ _ h=>h,.inl ⟨i1,i3,hok (by simp [ndV,k1,k3])⟩⟩
    ·simp -implicitDefEqProofs only [RA,ae,zp,↓reduceIte,reduceCtorEq,zq,zr,zs,zt,ip,fh,b1,b4,b5,gy,i1,i2,lk,j1,j2,j3,unA,ne_eq,not_false_eq_true]
     refine ⟨fun k o hk hF ho=>?_,.inr (.inl ⟨by omega,hall (by simp [ndV,k1,k3])⟩)⟩
     rw [if_neg (by omega)];exact ho
   ·rcases ai (y.kind=24) with ⟨k2,j2⟩|⟨k2,j2⟩
    ·have hl:=Bo yb k2
     have ix0:idxA 6 (bg y.sub) 0=some (.fp (tmE y.sub[0])):=bh (n:=0) (Fo (by omega))
     have v0:wAt y.sub 0=y.sub[0].width:=ca (Fo (by omega))
     generalize y.sub[0]=a0 at ix0 v0
     rw [aZ] at ix0
     rcases ai (a0.width=32) with ⟨k3,j3⟩|⟨k3,j3⟩
     ·simp -implicitDefEqProofs only [RA,ae,zp,↓reduceIte,reduceCtorEq,zq,zr,zs,zt,ip,fh,b1,b4,b5,gy,i2,ix0,j1,j2,j3,unA,ne_eq,not_true_eq_false]
      exact ⟨fun k o _ _ h=>h,.inl ⟨i1,i3,hok (by simp [ndV,k1,k2,v0,k3])⟩⟩
     ·simp -implicitDefEqProofs only [RA,ae,zp,↓reduceIte,reduceCtorEq,zq,zr,zs,zt,ip,fh,b1,b4,b5,gy,i1,i2,ix0,j1,j2,j3,unA,ne_eq,not_false_eq_true]
      refine ⟨fun k o hk hF ho=>?_,.inr (.inl ⟨by omega,hall (by simp [ndV,k1,k2,v0,k3])⟩)⟩
      rw [if_neg (by omega)];exact ho
    ·simp -implicitDefEqProofs only [RA,ae,zp,↓reduceIte,reduceCtorEq,zq,zr,zs,zt,ip,fh,b1,b4,b5,gy,i2,j1,j2,unA,ne_eq,not_true_eq_false]
     exact ⟨fun k o _ _ h=>h,.inl ⟨i1,i3,hok (by simp [ndV,k1,k2])⟩⟩
  ·intro h' n' hn hk hdf
   simp only at hn hk hdf
   have keep:∀ k o,k<nx→aq h k=some o→aq h' k=some o:=fun k o h1 h2=>hk k o (by omega) (by omega) (by rw [af,if_neg (by omega)];exact qk k o h1 h2)
   have a5:(nx+1+1=k1+1)=False:=eq_false (by omega)
   have a6:(nx+1=k1)=False:=eq_false (by omega)
   constructor
   ·rintro ⟨i1,i2,i3,i4⟩
    rw [Fz.2 i4]
    simp -implicitDefEqProofs only [RA,ae,zp,↓reduceIte,reduceCtorEq,zq,zr,zs,zt,i1,hdf,a5,a6,Gg,Gi,R82,dF]
    refine ⟨by omega,fun k o hk ho=>?_⟩
    rw [if_neg (by omega),bT (by omega)]
    exact keep k o hk ho
   ·rintro j ⟨rfl,hj,hbad,i6⟩
    rw [hbad,pL]
    have d6:aq (cC h' (k1+1)) (nx+1+1)=some (.cells [.bool false]):=by rw [bT (by omega)];exact i6
    simp -implicitDefEqProofs only [RA,ae,zp,↓reduceIte,reduceCtorEq,zq,zr,zs,zt,d6,hdf,Gj,R82,dF]
    refine ⟨by omega,fun k o hk ho=>?_⟩
    rw [bT (by omega)]
    exact keep k o hk ho
 ·have d3:(x.width=w)=True:=eq_true (hgo.resolve_left c2)
  simp -implicitDefEqProofs only [RA,ae,zp,↓reduceIte,reduceCtorEq,zq,zr,zs,zt,unA,ne_eq,d1,d2,d3,not_false_eq_true,not_true_eq_false,n1,n2,↓ak,↓aj]
  generalize hH:(_::_:Heap)=H
  have w:=w91 x H k1
  rw [e0] at w
  refine w.mono ?_
  have q0:aq H nx=some (.cells [bM P,.str f.name,bp f.params,.int .i64 f.result,bp f.locals,cp f.blocks,.mp mv,.mp mf]):=by subst hH;simp -implicitDefEqProofs only [RA,ae,zp,↓reduceIte,reduceCtorEq,zq,zr,zs,zt,n1,n2]
  have q2:aq H (nx+1+1)=some (.cells [.bool false]):=by subst hH;simp -implicitDefEqProofs only [RA,ae,zp,↓reduceIte,reduceCtorEq,zq,zr,zs,zt,n1,n2]
  have qk:∀ k o,k<nx→aq h k=some o→aq H k=some o:=fun k o hk ho=>by
   subst hH
   repeat rw [af,if_neg (by omega)]
   exact ho
  clear hH w
  rintro y hh n ⟨rfl,rfl,rfl⟩
  simp -implicitDefEqProofs only [RA,ae,zp,↓reduceIte,reduceCtorEq,zq,zr,zs,zt,eQ]
  refine io (c:=k1) (t:=x) w99 (fun y=>y∈ndT x) (fun k=>k=nx+1+1)
   (fun pre h n=>aq h (nx+1+1)=some (.cells [.bool false])∧aq h nx=some (.cells [bM P,.str f.name,bp f.params,.int .i64 f.result,bp f.locals,cp f.blocks,.mp mv,.mp mf])∧aq h mv=some (.map (V.map cW) st ck)∧∀ y∈pre,ndV V y=true)
   (fun j h n=>j=none∧nx+1+1<n∧(ndT x).all (ndV V)=false∧aq h (nx+1+1)=some (.cells [.bool false]))
   (fun y h' n' env h'' n''=>ah env 7=some (.op n' 0)∧aq h'' n'=some (.cells (tmE y))∧n'<n''∧ah env 3=some (.op nx 0)∧ah env 6=some (.op (nx+1+1) 0))
   (by simp [oev,ah,bY]) (by rw [af,if_pos rfl,e0]) (by simp only;omega) (by decide) hz (fun y hy z hz=>mS _ x (Gp _) y hy z hz) (eK x) (fun k hk=>by simp only;omega)
   (fun pre h n h' n' hi hn hn' hk=>by
    simp only at hn
    exact ⟨hk _ _ (by omega) (by simp only;omega) hi.1,hk _ _ (by omega) (by simp only;omega) hi.2.1,hk _ _ (by omega) (by simp only;omega) hi.2.2.1,hi.2.2.2⟩)
   (fun j h n h' hj hk=>⟨hj.1,hj.2.1,hj.2.2.1,hk _ _ hj.2.1 (by simp only;omega) hj.2.2.2⟩)
   ⟨by rw [af,if_neg (by omega)];exact q2,by rw [af,if_neg (by omega)];exact q0,by rw [af,if_neg (by omega)];exact qk _ _ hmn hm,by simp⟩
   (fun h' n' hi hn hk=>⟨hk _ _ (by simp only;omega) hi.1,hk _ _ (by simp only;omega) hi.2.1,hk _ _ (by simp only;omega) hi.2.2.1,hi.2.2.2⟩)
   ?_ ?_ ?_
  ·intro y h n l hn
   refine e7 aI ?_
   have tl:=aY y
   have tk:=aU y
   have e0:=aZ y
   rw [e0] at tl tk ⊢
   simp -implicitDefEqProofs only [RA,ae,zp,↓reduceIte,reduceCtorEq,zq,zr,zs,zt,wI,qo,↓ak,↓aj]
   refine ⟨by omega,fun k o hk hb=>?_,by omega⟩
   rw [if_neg (by omega),if_neg (by omega)];exact hb
  ·rintro pre y h0 nx0 env h n l hy hn0 hn ⟨i1,i2,i3,i4⟩ ⟨h1,⟨b1,b2,b3,b4,b5⟩,hk⟩
   refine e7 aI ?_
   simp only at hn0
   have gy:=hk _ _ b3 (by simp only;omega) b2
   have yb:=Fz.1 hnd y hy
   have lk:=fW i3 y.name
   have hall:ndV V y=false→(ndT x).all (ndV V)=false:=fun hb=>by
    rw [Bool.eq_false_iff]
    intro h
    rw [Fz.1 h y hy] at hb;cases hb
   have hok:ndV V y=true→∀ z∈pre++[y],ndV V z=true:=fun hb z hz=>by
    rcases FE.1 hz with hz|hz
    ·exact i4 z hz
    ·rw [FF.1 hz];exact hb
   rw [aZ] at gy
   rcases ai (y.kind=2) with ⟨k1,j1⟩|⟨k1,j1⟩
   ·have j2:(y.kind=24)=False:=eq_false (by omega)
    rcases ai (vw V y.name=y.width) with ⟨k3,j3⟩|⟨k3,j3⟩
    ·simp -implicitDefEqProofs only [RA,ae,zp,↓reduceIte,reduceCtorEq,zq,zr,zs,zt,ip,fh,b1,b4,b5,gy,i2,lk,j1,j2,j3,unA,ne_eq,not_true_eq_false]
     exact ⟨fun k o _ _ h=>h,.inl ⟨i1,i3,hok (by simp [ndV,k1,k3])⟩⟩
    ·simp -implicitDefEqProofs only [RA,ae,zp,↓reduceIte,reduceCtorEq,zq,zr,zs,zt,ip,fh,b1,b4,b5,gy,i1,i2,lk,j1,j2,j3,unA,ne_eq,not_false_eq_true]
     refine ⟨fun k o hk hF ho=>?_,.inr (.inl ⟨by omega,hall (by simp [ndV,k1,k3])⟩)⟩
     rw [if_neg (by omega)];exact ho
   ·rcases ai (y.kind=24) with ⟨k2,j2⟩|⟨k2,j2⟩
    ·have hl:=Bo yb k2
     have ix0:idxA 6 (bg y.sub) 0=some (.fp (tmE y.sub[0])):=bh (n:=0) (Fo (by omega))
     have v0:wAt y.sub 0=y.sub[0].width:=ca (Fo (by omega))
     generalize y.sub[0]=a0 at ix0 v0
     rw [aZ] at ix0
     rcases ai (a0.width=32) with ⟨k3,j3⟩|⟨k3,j3⟩
     ·simp -implicitDefEqProofs only [RA,ae,zp,↓reduceIte,reduceCtorEq,zq,zr,zs,zt,ip,fh,b1,b4,b5,gy,i2,ix0,j1,j2,j3,unA,ne_eq,not_true_eq_false]
      exact ⟨fun k o _ _ h=>h,.inl ⟨i1,i3,hok (by simp [ndV,k1,k2,v0,k3])⟩⟩
     ·simp -implicitDefEqProofs only [RA,ae,zp,↓reduceIte,reduceCtorEq,zq,zr,zs,zt,ip,fh,b1,b4,b5,gy,i1,i2,ix0,j1,j2,j3,unA,ne_eq,not_false_eq_true]
      refine ⟨fun k o hk hF ho=>?_,.inr (.inl ⟨by omega,hall (by simp [ndV,k1,k2,v0,k3])⟩)⟩
      rw [if_neg (by omega)];exact ho
    ·simp -implicitDefEqProofs only [RA,ae,zp,↓reduceIte,reduceCtorEq,zq,zr,zs,zt,ip,fh,b1,b4,b5,gy,i2,j1,j2,unA,ne_eq,not_true_eq_false]
     exact ⟨fun k o _ _ h=>h,.inl ⟨i1,i3,hok (by simp [ndV,k1,k2])⟩⟩
  ·intro h' n' hn hk hdf
   simp only at hn hk hdf
   have keep:∀ k o,k<nx→aq h k=some o→aq h' k=some o:=fun k o h1 h2=>hk k o (by omega) (by omega) (by rw [af,if_neg (by omega)];exact qk k o h1 h2)
   have a5:(nx+1+1=k1+1)=False:=eq_false (by omega)
   have a6:(nx+1=k1)=False:=eq_false (by omega)
   constructor
   ·rintro ⟨i1,i2,i3,i4⟩
    rw [Fz.2 i4]
    simp -implicitDefEqProofs only [RA,ae,zp,↓reduceIte,reduceCtorEq,zq,zr,zs,zt,i1,hdf,a5,a6,Gg,Gi,R82,dF]
    refine ⟨by omega,fun k o hk ho=>?_⟩
    rw [if_neg (by omega),bT (by omega)]
    exact keep k o hk ho
   ·rintro j ⟨rfl,hj,hbad,i6⟩
    rw [hbad,pL]
    have d6:aq (cC h' (k1+1)) (nx+1+1)=some (.cells [.bool false]):=by rw [bT (by omega)];exact i6
    simp -implicitDefEqProofs only [RA,ae,zp,↓reduceIte,reduceCtorEq,zq,zr,zs,zt,d6,hdf,Gj,R82,dF]
    refine ⟨by omega,fun k o hk ho=>?_⟩
    rw [bT (by omega)]
    exact keep k o hk ho
def Fn.vars (f:Fn):List Pm:=f.params++f.locals
def kn (V:List Pm) (n:Nm):Bool:=V.any fun p=>p.1==n
theorem xV {V:List Pm} {n:Nm} {i:Nat} (h:kn (V.take i) n=false):vw V n=vw (V.drop i) n∧kn V n=kn (V.drop i) n:=by
 induction i generalizing V with
 | zero=>simp
 | succ i ih =>
  cases V with
  | nil=>simp
  | cons a V =>
   simp only [List.take_succ_cons,kn,List.any_cons,Bool.or_eq_false_iff] at h
   obtain ⟨h1,h2⟩:=h
   have:=ih h2
   rw [fR,if_neg (by simpa using h1),List.drop_succ_cons]
   refine ⟨this.1,?_⟩
   rw [← this.2];simp [kn,h1]
theorem rM {V:List Pm} {n:Nm} (h:∀ p∈V,1≤p.2):kn V n=decide (vw V n≠0):=by
 induction V with
 | nil=>rfl
 | cons a V ih =>
  rw [fR]
  have h1:=h a (by simp)
  by_cases e:a.1=n
  ·rw [if_pos e,decide_eq_true (by omega)];simp [kn,e]
  ·rw [if_neg e,← ih fun p hp=>h p (by simp [hp])];simp [kn,e]
theorem CV {V:List Pm} {n:Nm} (h:kn V n=false):vw V n=0:=by
 induction V with
 | nil=>rfl
 | cons a V ih =>
  simp only [kn,List.any_cons,Bool.or_eq_false_iff] at h
  rw [fR,if_neg (by simpa using h.1)]
  exact ih h.2
theorem w85 (f:Fn) (n:Nm) (h1:f.params.length≤4000000) (h2:f.locals.length≤4000000):Pure Tryz.prog 85 [.agg (fnE f),.str n] (.tup [.int .i64 (vw f.vars n),.bool (kn f.vars n)]):=by
 refine Pure.of fun nx=>AC.go aI is85 (by simp) ?_
 have w:=w19 f h1 h2
 rw [bN] at w ⊢
 simp -implicitDefEqProofs only [RA,ae,zp,↓reduceIte,reduceCtorEq,zq,zr,zs,zt,A85,Eo,↓au,↓ar,↓ay,↓aw]
 refine w.use fun k1 hk1=>?_
 rw [show f.params++f.locals=f.vars from rfl]
 have hV:f.vars.length≤8000000:=by rw [Fn.vars,List.length_append];omega
 generalize f.vars=V at hV
 have lv:=bW V
 simp -implicitDefEqProofs only [RA,ae,zp,↓reduceIte,reduceCtorEq,zq,zr,zs,zt,unA,↓au,↓ar]
 refine aJ (fun q st=>∃ i:Nat,q=V.length-i∧i≤V.length∧ah st.env 1=some (.str n)∧ah st.env 6=some (bp V)∧ah st.env 7=some (.int .i64 i)∧kn (V.take i) n=false∧st.dm=[]) (n:=V.length) aI
  ⟨0,rfl,by omega,by simp [ah],by simp [ah],by simp [ah],by simp [kn],rfl⟩ ?_
 rintro q ⟨env,heap,nx',dm⟩ ⟨i,rfl,hi,g1,g6,g7,ha,hdm⟩
 simp only at g1 g6 g7 ha hdm
 subst hdm
 have f1:=wS (i:=i) (by omega)
 obtain ⟨t1,t2⟩:=xV ha
 by_cases hc:(i:Int)<(V.length:Int)
 case neg =>
  rw [show V.drop i=[] from List.drop_eq_nil_of_le (by omega)] at t1 t2
  rw [t1,t2]
  simp -implicitDefEqProofs only [RA,ae,zp,↓reduceIte,reduceCtorEq,zq,zr,zs,zt,sf,np,g1,g6,g7,lv,hc,R85]
  rfl
 have hr:=Fo (show i<V.length by omega)
 generalize V[i]=r at hr
 have ix:=dG hr
 rw [jA] at ix
 rw [bA hr] at t1 t2
 rw [fR] at t1
 have eqs:(r.1==n)=decide (r.1=n):=by by_cases h:r.1=n <;> simp [h]
 rcases ai (r.1=n) with ⟨c1,d1⟩|⟨c1,d1⟩
 ·rw [if_pos c1] at t1
  rw [t1,t2]
  have:kn (r::V.drop (i+1)) n=true:=by simp [kn,c1]
  rw [this]
  simp -implicitDefEqProofs only [RA,ae,zp,↓reduceIte,reduceCtorEq,zq,zr,zs,zt,sf,np,g1,g6,g7,lv,hc,ix,aG,aN,eqs,d1,R85]
 ·simp -implicitDefEqProofs only [RA,ae,zp,↓reduceIte,reduceCtorEq,zq,zr,zs,zt,sf,np,g1,g6,g7,lv,hc,ix,aG,aN,eqs,d1,f1]
  refine ⟨V.length-(i+1),by omega,i+1,rfl,by omega,rfl,?_⟩
  rw [aQ hr]
  simp only [kn,List.any_append,List.any_cons,List.any_nil,Bool.or_false,Bool.or_eq_false_iff] at ha ⊢
  exact ⟨ha,by simpa using c1⟩
theorem yE {y:Tm} (h:ndB y=true) (hk:y.kind=2):y.sub=[]∧wide y.width=true:=by
 unfold ndB at h
 rw [hk,if_neg (by decide)] at h
 simp only [Gd,decide_eq_true_eq] at h
 exact ⟨List.length_eq_zero_iff.1 h.2.1,h.1⟩
theorem w93 (f:Fn) (h1:f.params.length≤4000000) (h2:f.locals.length≤4000000):∀ (N:Nat) (x:Tm),szT x≤N→N≤4000000→(ndT x).all ndB=true→Pure Tryz.prog 93 [.agg (fnE f),.agg (tmE x)] (.bool ((ndT x).all (ndV f.vars))):=by
 intro N
 induction N with
 | zero=>intro x h;have:=bR x;omega
 | succ N ih =>
  intro x h hN hnb
  have hx:=Fz.1 hnb x (eK x)
  rw [show (ndT x).all (ndV f.vars)=(ndV f.vars x&&(bD x.sub).all (ndV f.vars)) by rw [dU,List.all_cons]]
  refine Pure.of fun nx=>AC.go aI is93 (by simp) ?_
  have hsz:=bR x
  have hsl:=bJ x.sub
  have lv:=bw x.sub
  have tl:=aY x
  have tk:=aU x
  have e0:=aZ x
  have n1:(nx+1=nx)=False:=eq_false (by omega)
  have w85':=w85 f x.name h1 h2
  have fe:=bN f
  rw [e0] at tl tk ⊢
  rw [fe] at w85' ⊢
  rcases ai (x.kind=2) with ⟨c1,d1⟩|⟨c1,d1⟩
  ·obtain ⟨hs,hw⟩:=yE hx c1
   obtain ⟨u1,u2⟩:=dz hw
   rw [hs]
   simp only [bD,List.all_nil,Gi]
   simp -implicitDefEqProofs only [RA,ae,zp,↓reduceIte,reduceCtorEq,zq,zr,zs,zt,A93,wB,↓ak,↓aj,↓au,↓ar,↓ay,↓aw,n1,d1]
   refine w85'.use fun k1 hk1=>?_
   cases hk:kn f.vars x.name
   ·have:ndV f.vars x=false:=by
     unfold ndV
     rw [CV hk,decide_eq_true c1,decide_eq_false (p:=0=x.width) (by omega)];rfl
    rw [this]
    simp -implicitDefEqProofs only [RA,ae,zp,↓reduceIte,reduceCtorEq,zq,zr,zs,zt,unA,n1,d1,R93]
   ·have:ndV f.vars x=decide (vw f.vars x.name=x.width):=by
     unfold ndV
     rw [decide_eq_true c1,decide_eq_false (p:=x.kind=24) (by omega)];simp
    rw [this]
    simp -implicitDefEqProofs only [RA,ae,zp,↓reduceIte,reduceCtorEq,zq,zr,zs,zt,unA,n1,d1,↓ak,↓aj,R93]
  have hcont:∀ b:Bool,ndV f.vars x=b→b=ndV f.vars x:=fun _ h=>h.symm
  rcases ai (x.kind=24) with ⟨c2,d2⟩|⟨c2,d2⟩
  ·have hl:=Bo hx c2
   have ix0:idxA 6 (bg x.sub) 0=some (.fp (tmE x.sub[0])):=bh (n:=0) (Fo (by omega))
   have v0:wAt x.sub 0=x.sub[0].width:=ca (Fo (by omega))
   generalize x.sub[0]=a0 at ix0 v0
   rw [aZ] at ix0
   rcases ai (a0.width=32) with ⟨c3,d3⟩|⟨c3,d3⟩
   case inr =>
    have:ndV f.vars x=false:=by unfold ndV;rw [decide_eq_true c2,v0,decide_eq_false c3];simp
    rw [this]
    simp -implicitDefEqProofs only [RA,ae,zp,↓reduceIte,reduceCtorEq,zq,zr,zs,zt,A93,wB,↓ak,↓aj,↓au,↓ar,↓ay,↓aw,n1,d1,d2,d3,ix0,ne_eq,not_false_eq_true,Gf,R93]
   have:ndV f.vars x=true:=by unfold ndV;rw [decide_eq_false c1,v0,decide_eq_true c3];simp
   rw [this,Ge]
   simp -implicitDefEqProofs only [RA,ae,zp,↓reduceIte,reduceCtorEq,zq,zr,zs,zt,A93,wB,↓ak,↓aj,↓au,↓ar,↓ay,↓aw,n1,d1,d2,d3,ix0,ne_eq,not_true_eq_false]
   refine aJ (fun q st=>∃ i:Nat,q=x.sub.length-i∧i≤x.sub.length∧ah st.env 2=some (.op nx 0)∧ah st.env 3=some (.op (nx+1) 0)∧ah st.env 7=some (.int .i64 i)∧aq st.heap nx=some (.cells [.str f.name,bp f.params,.int .i64 f.result,bp f.locals,cp f.blocks])∧aq st.heap (nx+1)=some (.cells [.int .u8 x.kind,.int .i64 x.width,.int .u64 x.bits,.str x.name,.int .i64 x.low,bg x.sub])∧(bD (x.sub.take i)).all (ndV f.vars)=true∧st.dm=[]) (n:=x.sub.length) aI
    ⟨0,rfl,by omega,by simp [ah],by simp [ah],by simp [ah],by simp [aq],by simp [aq],by simp [bD],rfl⟩ ?_
   rintro q ⟨env,heap,nx',dm⟩ ⟨i,rfl,hi,g2,g3,g7,gf,gx,ha,hdm⟩
   simp only at g2 g3 g7 gf gx ha hdm
   subst hdm
   have f1:=wS (i:=i) (by omega)
   by_cases hc:(i:Int)<(x.sub.length:Int)
   case neg =>
    rw [show x.sub.take i=x.sub from Fs (by omega)] at ha
    rw [ha]
    simp -implicitDefEqProofs only [RA,ae,zp,↓reduceIte,reduceCtorEq,zq,zr,zs,zt,pf,lc,g2,g3,g7,gf,gx,lv,hc,R93]
   have hr:=Fo (show i<x.sub.length by omega)
   generalize x.sub[i]=r at hr
   have ix:=bh hr
   have rl:=aY r
   have rt:=aU r
   have hmem:=Fp hr
   have hm:=bZ hmem
   have hrb:(ndT r).all ndB=true:=Fz.2 fun y hy=>Fz.1 hnb y (by rw [dU];exact List.mem_cons_of_mem _ (dA hmem hy))
   have ihr:=ih r (by omega) (by omega) hrb
   rw [fe] at ihr
   simp -implicitDefEqProofs only [RA,ae,zp,↓reduceIte,reduceCtorEq,zq,zr,zs,zt,pf,lc,g2,g3,g7,gf,gx,lv,hc,ix,rl,rt,↓ak,↓aj,↓au,↓ar,↓ay,↓aw]
   refine ihr.use fun n2 hn2=>?_
   cases hb:(ndT r).all (ndV f.vars)
   ·have:(bD x.sub).all (ndV f.vars)=false:=by
     rw [Bool.eq_false_iff]
     intro hh
     have:(ndT r).all (ndV f.vars)=true:=Fz.2 fun y hy=>Fz.1 hh y (dA hmem hy)
     rw [hb] at this;cases this
    rw [this]
    simp -implicitDefEqProofs only [RA,ae,zp,↓reduceIte,reduceCtorEq,zq,zr,zs,zt,unA,g2,g3,g7,gf,gx,R93]
   ·simp -implicitDefEqProofs only [RA,ae,zp,↓reduceIte,reduceCtorEq,zq,zr,zs,zt,unA,g2,g3,g7,gf,gx,f1]
    refine ⟨x.sub.length-(i+1),by omega,i+1,rfl,by omega,rfl,?_⟩
    rw [aQ hr,db]
    simp only [List.all_append,bD,FM,ha,hb,Gg]
  ·have:ndV f.vars x=true:=by unfold ndV;rw [decide_eq_false c1,decide_eq_false c2];simp
   rw [this,Ge]
   simp -implicitDefEqProofs only [RA,ae,zp,↓reduceIte,reduceCtorEq,zq,zr,zs,zt,A93,wB,↓ak,↓aj,↓au,↓ar,↓ay,↓aw,n1,d1,d2]
   refine aJ (fun q st=>∃ i:Nat,q=x.sub.length-i∧i≤x.sub.length∧ah st.env 2=some (.op nx 0)∧ah st.env 3=some (.op (nx+1) 0)∧ah st.env 7=some (.int .i64 i)∧aq st.heap nx=some (.cells [.str f.name,bp f.params,.int .i64 f.result,bp f.locals,cp f.blocks])∧aq st.heap (nx+1)=some (.cells [.int .u8 x.kind,.int .i64 x.width,.int .u64 x.bits,.str x.name,.int .i64 x.low,bg x.sub])∧(bD (x.sub.take i)).all (ndV f.vars)=true∧st.dm=[]) (n:=x.sub.length) aI
    ⟨0,rfl,by omega,by simp [ah],by simp [ah],by simp [ah],by simp [aq],by simp [aq],by simp [bD],rfl⟩ ?_
   rintro q ⟨env,heap,nx',dm⟩ ⟨i,rfl,hi,g2,g3,g7,gf,gx,ha,hdm⟩
   simp only at g2 g3 g7 gf gx ha hdm
   subst hdm
   have f1:=wS (i:=i) (by omega)
   by_cases hc:(i:Int)<(x.sub.length:Int)
   case neg =>
    rw [show x.sub.take i=x.sub from Fs (by omega)] at ha
    rw [ha]
    simp -implicitDefEqProofs only [RA,ae,zp,↓reduceIte,reduceCtorEq,zq,zr,zs,zt,pf,lc,g2,g3,g7,gf,gx,lv,hc,R93]
   have hr:=Fo (show i<x.sub.length by omega)
   generalize x.sub[i]=r at hr
   have ix:=bh hr
   have rl:=aY r
   have rt:=aU r
   have hmem:=Fp hr
   have hm:=bZ hmem
   have hrb:(ndT r).all ndB=true:=Fz.2 fun y hy=>Fz.1 hnb y (by rw [dU];exact List.mem_cons_of_mem _ (dA hmem hy))
   have ihr:=ih r (by omega) (by omega) hrb
   rw [fe] at ihr
   simp -implicitDefEqProofs only [RA,ae,zp,↓reduceIte,reduceCtorEq,zq,zr,zs,zt,pf,lc,g2,g3,g7,gf,gx,lv,hc,ix,rl,rt,↓ak,↓aj,↓au,↓ar,↓ay,↓aw]
   refine ihr.use fun n2 hn2=>?_
   cases hb:(ndT r).all (ndV f.vars)
   ·have:(bD x.sub).all (ndV f.vars)=false:=by
     rw [Bool.eq_false_iff]
     intro hh
     have:(ndT r).all (ndV f.vars)=true:=Fz.2 fun y hy=>Fz.1 hh y (dA hmem hy)
     rw [hb] at this;cases this
    rw [this]
    simp -implicitDefEqProofs only [RA,ae,zp,↓reduceIte,reduceCtorEq,zq,zr,zs,zt,unA,g2,g3,g7,gf,gx,R93]
   ·simp -implicitDefEqProofs only [RA,ae,zp,↓reduceIte,reduceCtorEq,zq,zr,zs,zt,unA,g2,g3,g7,gf,gx,f1]
    refine ⟨x.sub.length-(i+1),by omega,i+1,rfl,by omega,rfl,?_⟩
    rw [aQ hr,db]
    simp only [List.all_append,bD,FM,ha,hb,Gg]
theorem w87 (f:Fn) (x:Tm) (h1:f.params.length≤4000000) (h2:f.locals.length≤4000000) (hz:szT x≤4000000) (ho:okT x):Pure Tryz.prog 87 [.agg (fnE f),.agg (tmE x)] (.bool (ftZ f.vars x)):=by
 refine Pure.of fun nx=>AC.go aI is87 (by simp) ?_
 have w92':=w92 x hz ho
 have w93':=w93 f h1 h2 4000000 x hz (Gp _)
 have tl:=aY x
 have tk:=aU x
 have e0:=aZ x
 have fe:=bN f
 have n1:(nx+1=nx)=False:=eq_false (by omega)
 rw [e0] at tl tk w92' w93' ⊢
 rw [fe] at w93' ⊢
 unfold ftZ
 simp -implicitDefEqProofs only [RA,ae,zp,↓reduceIte,reduceCtorEq,zq,zr,zs,zt,A87,En,↓ak,↓aj,↓au,↓ar,↓ay,↓aw,n1]
 refine w92'.use fun k1 hk1=>?_
 rcases ai (tcE x=0) with ⟨c1,d1⟩|⟨c1,d1⟩
 ·simp -implicitDefEqProofs only [RA,ae,zp,↓reduceIte,reduceCtorEq,zq,zr,zs,zt,unA,d1,n1,↓ak,↓aj,↓au,↓ar,↓ay,↓aw]
  refine (w93' (t8 c1)).use fun k2 hk2=>?_
  simp -implicitDefEqProofs only [RA,ae,zp,↓reduceIte,reduceCtorEq,zq,zr,zs,zt,Ge,R87]
 ·simp -implicitDefEqProofs only [RA,ae,zp,↓reduceIte,reduceCtorEq,zq,zr,zs,zt,unA,d1,n1,Gf,R87]
def ftR (V:List Pm) (x:Tm) (w:Int):Bool:=decide (x.width=w)&&ftZ V x
theorem w86 (f:Fn) (x:Tm) (w:Int) (h1:f.params.length≤4000000) (h2:f.locals.length≤4000000) (hz:szT x≤4000000) (ho:okT x):Pure Tryz.prog 86 [.agg (fnE f),.agg (tmE x),.int .i64 w] (.bool (ftR f.vars x w)):=by
 refine Pure.of fun nx=>AC.go aI is86 (by simp) ?_
 have w87':=w87 f x h1 h2 hz ho
 have tl:=aY x
 have tk:=aU x
 have e0:=aZ x
 have fe:=bN f
 have n1:(nx+1=nx)=False:=eq_false (by omega)
 rw [e0] at tl tk w87' ⊢
 rw [fe] at w87' ⊢
 unfold ftR
 rcases ai (x.width=w) with ⟨c1,d1⟩|⟨c1,d1⟩
 ·simp -implicitDefEqProofs only [RA,ae,zp,↓reduceIte,reduceCtorEq,zq,zr,zs,zt,A86,Cf,↓ak,↓aj,↓au,↓ar,↓ay,↓aw,n1,d1]
  refine w87'.use fun k2 hk2=>?_
  simp -implicitDefEqProofs only [RA,ae,zp,↓reduceIte,reduceCtorEq,zq,zr,zs,zt,Ge,R86]
 ·simp -implicitDefEqProofs only [RA,ae,zp,↓reduceIte,reduceCtorEq,zq,zr,zs,zt,A86,Cf,↓ak,↓aj,↓au,↓ar,↓ay,↓aw,n1,d1,Gf,R86]
def fnO (P:Pi) (n:Nm):Option Fn:=P.find? fun f=>f.name==n
def fiL:Int→Pi→List Pm
 | _,[]=>[]
 | i,f::r=>(f.name,i)::fiL (i+1) r
def FI (P:Pi):List Pm:=fiL 1 P
theorem vE (n:Nm):∀ (P:Pi) (i:Int),(fnO P n=none∧vw (fiL i P) n=0)∨∃ (j:Nat) (g:Fn),P[j]?=some g∧fnO P n=some g∧vw (fiL i P) n=i+j
 | [],i=>.inl ⟨rfl,rfl⟩
 | f::r,i=>by
  rw [fiL,fR,fnO,List.find?_cons]
  by_cases e:f.name=n
  ·rw [if_pos e]
   exact .inr ⟨0,f,rfl,by simp [e],by simp⟩
  ·have:(f.name==n)=false:=by simpa using e
   rw [if_neg e,this]
   rcases vE n r (i+1) with ⟨h1,h2⟩|⟨j,g,h1,h2,h3⟩
   ·exact .inl ⟨h1,h2⟩
   ·exact .inr ⟨j+1,g,by simpa using h1,h2,by rw [h3];omega⟩
def zpB (ft:Tm→Int→Bool):List Tm→List Pm→Bool
 | a::l,p::ps=>ft a p.2&&zpB ft l ps
 | _,_=>true
def clB (ft:Tm→Int→Bool) (P:Pi) (n:Nm) (args:List Tm):Bool :=
 match fnO P n with
 | none=>false
 | some g=>decide (args.length=g.params.length)&&zpB ft args g.params
def jC (l:List Tm):Prop:=l.length≤4000000∧∀ x∈l,szT x≤4000000∧okT x
def okP (P:Pi):Prop:=P.length≤4000000∧∀ f∈P,f.params.length≤4000000∧f.locals.length≤4000000
theorem w83 (P:Pi) (f:Fn) (mv mf:Nat) (V:List Pm) (n:Nm) (args:List Tm) (h:Heap) (nx:Nat) (st st2:List Nat) (ck ck2:Nat) (hP:okP P) (ha:jC args) (hm:aq h mv=some (.map (V.map cW) st ck)) (hmn:mv<nx) (hf:aq h mf=some (.map ((FI P).map cW) st2 ck2)) (hfn:mf<nx) :
  AC Tryz.prog 83 [.agg (scE P f mv mf),.str n,bg args] h nx fun y h' n'=>((clB (ftB V) P n args=false∧y=.ret (.tup [.agg [.str [],.nilS,.int .i64 0,.nilS,.nilS],.bool false]))∨∃ g,fnO P n=some g∧y=.ret (.tup [.agg (fnE g),.bool (clB (ftB V) P n args)]))∧nx≤n'∧∀ k o,k<nx→aq h k=some o→aq h' k=some o:=by
 refine AC.go aI is83 (by simp) ?_
 have n1:(nx+1=nx)=False:=eq_false (by omega)
 have n2:(nx+1+1=nx)=False:=eq_false (by omega)
 have n3:(nx=nx+1)=False:=eq_false (by omega)
 have e1:(nx=mf)=False:=eq_false (by omega)
 have e2:(nx+1=mf)=False:=eq_false (by omega)
 have e3:(nx=mv)=False:=eq_false (by omega)
 have e4:(nx+1=mv)=False:=eq_false (by omega)
 have lk:∀ A B,eV ((nx+1,A)::(nx,B)::h) .str (.int .i64 0) false (.mp mf) (.str n)=some (.int .i64 (vw (FI P) n)):=fun A B=>fW (by rw [af,if_neg (by omega),af,if_neg (by omega)];exact hf) n
 have lv:=cX P
 have la:=bw args
 unfold scE
 rcases vE n P 1 with ⟨h1,h2⟩|⟨j,g,h1,h2,h3⟩
 ·have hc:clB (ftB V) P n args=false:=by rw [clB,h1]
  rw [hc]
  rw [show vw (FI P) n=0 from h2] at lk
  simp -implicitDefEqProofs only [RA,ae,zp,↓reduceIte,reduceCtorEq,zq,zr,zs,zt,A83,zJ,↓aA,↓az,↓au,↓ar,↓ay,↓aw,↓ak,↓aj,n1,n2,lk,R83]
  refine ⟨.inl trivial,by omega,fun k o hk ho=>?_⟩
  repeat rw [if_neg (by omega)]
  exact ho
 have hj:=(List.getElem?_eq_some_iff.1 h1).1
 obtain ⟨hPl,hPf⟩:=hP
 have hgp:=(hPf g (Fp h1)).1
 have h3':vw (FI P) n=((j+1:Nat):Int):=by show vw (fiL 1 P) n=_;rw [h3];omega
 rw [h3'] at lk
 have d0:(((j+1:Nat):Int)=0)=False:=eq_false (by omega)
 have f1:IntKind.i64.wrap (((j+1:Nat):Int)-1)=(j:Int):=by rw [w64 (by omega) (by omega)];omega
 have ix:=cL h1
 rw [bN] at ix
 have lp:=bW g.params
 rcases ai ((args.length:Int)=(g.params.length:Int)) with ⟨c1,d1⟩|⟨c1,d1⟩
 case inr =>
  have hc:clB (ftB V) P n args=false:=by rw [clB,h2];simp only;rw [decide_eq_false (by omega),Gf]
  rw [hc]
  simp -implicitDefEqProofs only [RA,ae,zp,↓reduceIte,reduceCtorEq,zq,zr,zs,zt,A83,zJ,↓aA,↓az,↓au,↓ar,↓ay,↓aw,↓ak,↓aj,n1,n2,lk,d0,f1,ix,la,lp,d1,ne_eq,not_false_eq_true,R83]
  refine ⟨.inl trivial,by omega,fun k o hk ho=>?_⟩
  repeat rw [if_neg (by omega)]
  exact ho
 have c1':args.length=g.params.length:=by omega
 have hc:clB (ftB V) P n args=zpB (ftB V) args g.params:=by rw [clB,h2];simp only;rw [decide_eq_true c1',Ge]
 rw [hc]
 simp -implicitDefEqProofs only [RA,ae,zp,↓reduceIte,reduceCtorEq,zq,zr,zs,zt,A83,zJ,↓aA,↓az,↓au,↓ar,↓ay,↓aw,↓ak,↓aj,n1,n2,lk,d0,f1,ix,la,lp,d1,ne_eq,not_true_eq_false]
 have SC:∀ X:List AV,X=[bM P,.str f.name,bp f.params,.int .i64 f.result,bp f.locals,cp f.blocks,.mp mv,.mp mf]→X.length=8:=fun X hX=>by rw [hX];rfl
 refine aJ (fun q st=>∃ i:Nat,q=g.params.length-i∧i≤g.params.length∧ah st.env 2=some (bg args)∧ah st.env 3=some (.op nx 0)∧ah st.env 6=some (.op (nx+1) 0)∧ah st.env 9=some (.op (nx+1+1) 0)∧ah st.env 41=some (bp g.params)∧ah st.env 42=some (.int .i64 g.params.length)∧ah st.env 43=some (.int .i64 i) ∧
   aq st.heap nx=some (.cells [bM P,.str f.name,bp f.params,.int .i64 f.result,bp f.locals,cp f.blocks,.mp mv,.mp mf])∧aq st.heap (nx+1)=some (.cells [.str [],.nilS,.int .i64 0,.nilS,.nilS])∧aq st.heap (nx+1+1)=some (.cells [.str g.name,bp g.params,.int .i64 g.result,bp g.locals,cp g.blocks])∧nx+1+1<st.nx∧(∀ k o,k<nx→aq h k=some o→aq st.heap k=some o) ∧
   zpB (ftB V) args g.params=zpB (ftB V) (args.drop i) (g.params.drop i)∧st.dm=[]) (n:=g.params.length) aI
  ⟨0,rfl,by omega,by simp [ah],by simp [ah],by simp [ah],by simp [ah],by simp [ah],by simp [ah],by simp [ah],by (simp only;repeat (first|rw [af,if_pos rfl]|rw [af,if_neg (by omega)])),by (simp only;repeat (first|rw [af,if_pos rfl]|rw [af,if_neg (by omega)])),by (simp only;repeat (first|rw [af,if_pos rfl]|rw [af,if_neg (by omega)])),by simp only;omega,fun k o hk ho=>by simp only;(repeat rw [af,if_neg (by omega)]);exact ho,rfl,rfl⟩ ?_
 rintro q ⟨env,heap,nx',dm⟩ ⟨i,rfl,hi,g2,g3,g6,g9,g41,g42,g43,gs,gz,gg,hlt,hk,hzp,hdm⟩
 simp only at g2 g3 g6 g9 g41 g42 g43 gs gz gg hlt hk hdm
 subst hdm
 have f2:=wS (i:=i) (by omega)
 have m1:(nx=nx+1)=False:=n3
 by_cases hcc:(i:Int)<(g.params.length:Int)
 case neg =>
  have hz1:zpB (ftB V) args g.params=true:=by
   rw [hzp,show args.drop i=[] from List.drop_eq_nil_of_le (by omega)];rfl
  rw [hz1]
  simp -implicitDefEqProofs only [RA,ae,zp,↓reduceIte,reduceCtorEq,zq,zr,zs,zt,wH,qn,g2,g3,g6,g9,g41,g42,g43,gz,gg,hcc,↓au,↓ar,↓ay,↓aw,R83]
  refine ⟨.inr ⟨g,h2,by rw [bN]⟩,by omega,fun k o hk1 ho=>?_⟩
  rw [if_neg (by omega)];exact hk k o hk1 ho
 have hr:=Fo (show i<g.params.length by omega)
 generalize g.params[i]=r at hr
 have hx:=Fo (show i<args.length by omega)
 generalize args[i]=x at hx
 have ixp:=dG hr
 have ixx:=bh hx
 rw [jA] at ixp
 have xl:=aY x
 have xt:=aU x
 obtain ⟨ha1,ha2⟩:=ha.2 x (Fp hx)
 rw [bA hr,bA hx] at hzp
 have hzp':zpB (ftB V) args g.params=(ftB V x r.2&&zpB (ftB V) (args.drop (i+1)) (g.params.drop (i+1))):=hzp
 have q1:(nx'=nx)=False:=eq_false (by omega)
 have q2:(nx'=nx+1)=False:=eq_false (by omega)
 have q3:(nx'=nx+1+1)=False:=eq_false (by omega)
 have ek:∀ (X Y:AO) q o,q<nx'→aq heap q=some o→aq ((nx',X)::(nx',Y)::heap) q=some o:=fun X Y q o hq ho=>by rw [af,if_neg (by omega),af,if_neg (by omega)];exact ho
 have w:=fun X Y=>w82 P f mv mf V x r.2 ((nx',X)::(nx',Y)::heap) (nx'+1) st ck ha1 ha2 (ek X Y _ _ (by omega) (hk _ _ hmn hm)) (by omega)
 unfold scE at w
 simp -implicitDefEqProofs only [RA,ae,zp,↓reduceIte,reduceCtorEq,zq,zr,zs,zt,wH,qn,g2,g3,g6,g9,g41,g42,g43,gs,hcc,ixp,ixx,xl,xt,q1,q2,q3,↓aA,↓az,↓au,↓ar,↓ay,↓aw,↓ak,↓aj]
 refine (w _ _).mono ?_
 rintro y h3 n3' ⟨rfl,hn3,hk3⟩
 have kk:∀ q o,q<nx'→aq heap q=some o→aq h3 q=some o:=fun q o hq ho=>hk3 q o (by omega) (ek _ _ q o hq ho)
 have gg3:=kk _ _ (by omega) gg
 have gz3:=kk _ _ (by omega) gz
 have gs3:=kk _ _ (by omega) gs
 have hk4:∀ k o,k<nx→aq h k=some o→aq h3 k=some o:=fun k o h1 h2=>kk k o (by omega) (hk k o h1 h2)
 cases hb:ftB V x r.2
 ·rw [hzp',hb,Gf]
  simp -implicitDefEqProofs only [RA,ae,zp,↓reduceIte,reduceCtorEq,zq,zr,zs,zt,unA,g2,g3,g6,g9,g41,g42,g43,gz3,gg3,↓au,↓ar,↓ay,↓aw,R83]
  refine ⟨.inr ⟨g,h2,by rw [bN]⟩,by omega,fun k o hk1 ho=>?_⟩
  rw [if_neg (by omega)];exact hk4 k o hk1 ho
 ·rw [hb,Ge] at hzp'
  simp -implicitDefEqProofs only [RA,ae,zp,↓reduceIte,reduceCtorEq,zq,zr,zs,zt,unA,g2,g3,g6,g9,g41,g42,g43,f2]
  exact ⟨g.params.length-(i+1),by omega,i+1,rfl,by omega,rfl,gs3,gz3,gg3,by omega,hk4,hzp'⟩
theorem CT {l:List Int} {i:Nat} {x:Int} (h:(l.take i).contains x=false):l.contains x=(l.drop i).contains x:=by
 conv=>lhs;rw [← List.take_append_drop i l]
 rw [List.contains_append,h,Gm]
theorem w66 (l:List Int) (x:Int) (hl:l.length≤4000000) (nx:Nat):AC Tryz.prog 66 [cD l,.int .i64 x] [] nx fun y h' n'=>∃ v:Int,y=.ret (.int .i64 v)∧decide (0≤v)=l.contains x:=by
 refine AC.go aI is66 (by simp) ?_
 have lv:=eO l
 simp -implicitDefEqProofs only [RA,ae,zp,↓reduceIte,reduceCtorEq,zq,zr,zs,zt,A66,Ez,lv,↓aC,↓aB]
 refine aJ (fun q st=>∃ i:Nat,q=l.length-i∧i≤l.length∧ah st.env 0=some (cD l)∧ah st.env 1=some (.int .i64 x)∧ah st.env 7=some (.int .i64 l.length)∧ah st.env 8=some (.int .i64 i)∧(l.take i).contains x=false∧st.dm=[]) (n:=l.length) aI
  ⟨0,rfl,by omega,by simp [ah],by simp [ah],by simp [ah],by simp [ah],rfl,rfl⟩ ?_
 rintro q ⟨env,heap,nx',dm⟩ ⟨i,rfl,hi,g0,g1,g7,g8,ha,hdm⟩
 simp only at g0 g1 g7 g8 ha hdm
 subst hdm
 have f1:=wS (i:=i) (by omega)
 rw [CT ha]
 by_cases hc:(i:Int)<(l.length:Int)
 case neg =>
  rw [show l.drop i=[] from List.drop_eq_nil_of_le (by omega)]
  simp -implicitDefEqProofs only [RA,ae,zp,↓reduceIte,reduceCtorEq,zq,zr,zs,zt,sp,nz,g0,g1,g7,g8,hc,R66]
  exact ⟨-1,rfl,rfl⟩
 have hr:=Fo (show i<l.length by omega)
 generalize l[i]=r at hr
 have ix:=eu hr
 rw [inE] at ix
 rw [bA hr]
 rcases ai (x=r) with ⟨c1,d1⟩|⟨c1,d1⟩
 ·simp -implicitDefEqProofs only [RA,ae,zp,↓reduceIte,reduceCtorEq,zq,zr,zs,zt,sp,nz,g0,g1,g7,g8,hc,ix,d1,R66]
  exact ⟨i,rfl,by rw [decide_eq_true (by omega)];simp [c1]⟩
 ·rw [← bA hr,← CT ha]
  simp -implicitDefEqProofs only [RA,ae,zp,↓reduceIte,reduceCtorEq,zq,zr,zs,zt,sp,nz,g0,g1,g7,g8,hc,ix,d1,f1]
  refine ⟨l.length-(i+1),by omega,i+1,rfl,by omega,rfl,?_⟩
  rw [aQ hr,List.contains_append,ha,Gm]
  simpa using c1
theorem w47 (l:List Int) (x:Int) (hl:l.length≤4000000):Pure Tryz.prog 47 [cD l,.int .i64 x] (.bool (l.contains x)):=by
 refine Pure.of fun nx=>AC.go aI is47 (by simp) ?_
 simp -implicitDefEqProofs only [RA,ae,zp,↓reduceIte,reduceCtorEq,zq,zr,zs,zt,A47,EJ,↓aC,↓aB]
 refine (w66 l x hl nx).mono ?_
 rintro y h2 n2 ⟨v,rfl,hv⟩
 simp -implicitDefEqProofs only [RA,ae,zp,↓reduceIte,reduceCtorEq,zq,zr,zs,zt,hv,R47]
def on1 (l:List Tm) (f:Tm→Bool):Bool:=match l with|[x]=>f x|_=>false
def on2 (l:List Tm) (f:Tm→Tm→Bool):Bool:=match l with|[x,y]=>f x y|_=>false
theorem gU {l:List Tm} (h:l.length≠1) (f:Tm→Bool):on1 l f=false:=by
 match l,h with
 | [],_=>rfl
 | [x],h=>simp at h
 | x::y::r,_=>rfl
theorem uN {l:List Tm} (h:l.length≠2) (f:Tm→Tm→Bool):on2 l f=false:=by
 match l,h with
 | [],_=>rfl
 | [x],_=>rfl
 | [x,y],h=>simp at h
 | x::y::z::r,_=>rfl
theorem gV (x:Tm) (f:Tm→Bool):on1 [x] f=f x:=rfl
theorem uO (x y:Tm) (f:Tm→Tm→Bool):on2 [x,y] f=f x y:=rfl
def rsO (P:Pi) (n:Nm):Int:=match fnO P n with|some g=>g.result|none=>0
def stB (ft:Tm→Int→Bool) (fz:Tm→Bool) (P:Pi) (V:List Pm) (s:St):Bool :=
 if s.kind=1 then decide (vw V s.var≠0)&&(decide (s.func=[])&&on1 s.terms fun x=>ft x (vw V s.var))
 else if s.kind=2 then decide (s.var=[])&&(decide (s.func=[])&&on2 s.terms fun x y=>ldb x.width&&(fz x&&ft y 32))
 else if s.kind=3 then clB ft P s.func s.terms&&(decide (s.var=[])||(decide (rsO P s.func≠0)&&decide (vw V s.var=rsO P s.func)))
 else if s.kind=4 then decide (s.var=[])&&(decide (s.func=[])&&on1 s.terms fz)
 else false
theorem BG (V:List Pm) (x:Tm):ftB V x 0=ftZ V x:=by unfold ftB;simp
theorem l1 {l:List Tm} (h:l.length=1):∃ x,l=[x]:=by
 match l,h with
 | [x],_=>exact ⟨x,rfl⟩
theorem l2 {l:List Tm} (h:l.length=2):∃ x y,l=[x,y]:=by
 match l,h with
 | [x,y],_=>exact ⟨x,y,rfl⟩
theorem ix1 (x:Tm) (l:List Tm):idxA 6 (bg (x::l)) 0=some (.fp (tmE x)):=bh (n:=0) rfl
theorem ix2 (x y:Tm) (l:List Tm):idxA 6 (bg (x::y::l)) 1=some (.fp (tmE y)):=bh (n:=1) rfl
theorem yK (w:Int):[8,16,32,64].contains w=ldb w:=by
 unfold ldb
 simp only [List.contains_cons,List.contains_nil,Bool.or_false]
 by_cases h1:w=8 <;> by_cases h2:w=16 <;> by_cases h3:w=32 <;> by_cases h4:w=64 <;> simp [h1,h2,h3,h4] <;> omega
theorem w76 (P:Pi) (f:Fn) (mv mf:Nat) (V:List Pm) (s:St) (h:Heap) (nx:Nat) (st st2:List Nat) (ck ck2:Nat) (hP:okP P) (ha:jC s.terms) (hm:aq h mv=some (.map (V.map cW) st ck)) (hmn:mv<nx) (hf:aq h mf=some (.map ((FI P).map cW) st2 ck2)) (hfn:mf<nx) :
  AC Tryz.prog 76 [.agg (scE P f mv mf),.agg (stE s)] h nx (KP h nx (.bool (stB (ftB V) (ftZ V) P V s))):=by
 unfold KP
 refine AC.go aI is76 (by simp) ?_
 obtain ⟨k,var,fnc,ts⟩:=s
 simp only at ha
 have n1:(nx+1=nx)=False:=eq_false (by omega)
 have n2:(nx+1+1=nx)=False:=eq_false (by omega)
 have n3:(nx=nx+1)=False:=eq_false (by omega)
 have z1:((1:Nat):Int)=1:=rfl
 have z2:((2:Nat):Int)=2:=rfl
 have hkeep:∀ (X Y:AO) q o,q<nx→aq h q=some o→aq ((nx+1,X)::(nx,Y)::h) q=some o:=fun X Y q o hq ho=>by rw [af,if_neg (by omega),af,if_neg (by omega)];exact ho
 have lk:∀ (X Y:AO) n,eV ((nx+1,X)::(nx,Y)::h) .str (.int .i64 0) false (.mp mv) (.str n)=some (.int .i64 (vw V n)):=fun X Y n=>fW (hkeep X Y _ _ hmn hm) n
 have lt:=bw ts
 have w82':=fun (x:Tm) (w:Int) (hx:x∈ts) (X Y:AO)=>w82 P f mv mf V x w ((nx+1,X)::(nx,Y)::h) (nx+1+1) st ck (ha.2 x hx).1 (ha.2 x hx).2 (hkeep X Y _ _ hmn hm) (by omega)
 unfold scE at w82' ⊢
 simp only [gq]
 unfold stB
 simp only
 have hfin:∀ (X Y:AO) q o,q<nx→aq h q=some o→(if nx+1=q then some X else if nx=q then some Y else aq h q)=some o:=fun X Y q o hq ho=>by rw [if_neg (by omega),if_neg (by omega)];exact ho
 rcases ai (k=1) with ⟨k1,j1⟩|⟨k1,j1⟩
 ·rw [if_pos k1]
  rcases ai (vw V var=0) with ⟨c1,d1⟩|⟨c1,d1⟩
  ·rw [decide_eq_false (p:=vw V var≠0) (by simp [c1]),Gf]
   simp -implicitDefEqProofs only [RA,ae,zp,↓reduceIte,reduceCtorEq,zq,zr,zs,zt,↓aA,↓az,↓au,↓ar,↓ay,↓aw,↓ak,↓aj,n1,n2,unA,ne_eq,not_true_eq_false,not_false_eq_true,aG,aN,am,Gy,z1,z2,A76,iN,lt,j1,lk,d1,R76]
   exact ⟨by omega,hfin _ _⟩
  rw [decide_eq_true (p:=vw V var≠0) c1,Ge]
  rcases ai (fnc=[]) with ⟨c2,d2⟩|⟨c2,d2⟩
  case inr =>
   rw [decide_eq_false c2,Gf]
   simp -implicitDefEqProofs only [RA,ae,zp,↓reduceIte,reduceCtorEq,zq,zr,zs,zt,↓aA,↓az,↓au,↓ar,↓ay,↓aw,↓ak,↓aj,n1,n2,unA,ne_eq,not_true_eq_false,not_false_eq_true,aG,aN,am,Gy,z1,z2,A76,iN,lt,j1,lk,d1,d2,R76]
   exact ⟨by omega,hfin _ _⟩
  rw [decide_eq_true c2,Ge]
  rcases ai ((ts.length:Int)=1) with ⟨c3,d3⟩|⟨c3,d3⟩
  case inr =>
   rw [gU (by omega)]
   simp -implicitDefEqProofs only [RA,ae,zp,↓reduceIte,reduceCtorEq,zq,zr,zs,zt,↓aA,↓az,↓au,↓ar,↓ay,↓aw,↓ak,↓aj,n1,n2,unA,ne_eq,not_true_eq_false,not_false_eq_true,aG,aN,am,Gy,z1,z2,A76,iN,lt,j1,lk,d1,d2,d3,R76]
   exact ⟨by omega,hfin _ _⟩
  obtain ⟨x,rfl⟩:=l1 (l:=ts) (by omega)
  have xl:=aY x
  have xt:=aU x
  have w:=w82' x (vw V var) (by simp)
  rw [gV]
  simp -implicitDefEqProofs only [RA,ae,zp,↓reduceIte,reduceCtorEq,zq,zr,zs,zt,↓aA,↓az,↓au,↓ar,↓ay,↓aw,↓ak,↓aj,n1,n2,unA,ne_eq,not_true_eq_false,not_false_eq_true,aG,aN,am,Gy,z1,z2,A76,iN,lt,j1,lk,d1,d2,d3,ix1,xl,xt]
  refine (w _ _).mono ?_
  rintro y h2 n4 ⟨rfl,hn2,hk2⟩
  simp -implicitDefEqProofs only [RA,ae,zp,↓reduceIte,reduceCtorEq,zq,zr,zs,zt,↓aA,↓az,↓au,↓ar,↓ay,↓aw,↓ak,↓aj,n1,n2,unA,ne_eq,not_true_eq_false,not_false_eq_true,aG,aN,am,Gy,R76]
  exact ⟨by omega,fun q o hq ho=>hk2 q o (by omega) (hkeep _ _ q o hq ho)⟩
 rw [if_neg k1]
 rcases ai (k=2) with ⟨k2,j2⟩|⟨k2,j2⟩
 ·rw [if_pos k2]
  rcases ai (var=[]) with ⟨c1,d1⟩|⟨c1,d1⟩
  case inr =>
   rw [decide_eq_false c1,Gf]
   simp -implicitDefEqProofs only [RA,ae,zp,↓reduceIte,reduceCtorEq,zq,zr,zs,zt,↓aA,↓az,↓au,↓ar,↓ay,↓aw,↓ak,↓aj,n1,n2,unA,ne_eq,not_true_eq_false,not_false_eq_true,aG,aN,am,Gy,z1,z2,A76,iN,lt,j1,j2,d1,R76]
   exact ⟨by omega,hfin _ _⟩
  rw [decide_eq_true c1,Ge]
  rcases ai (fnc=[]) with ⟨c2,d2⟩|⟨c2,d2⟩
  case inr =>
   rw [decide_eq_false c2,Gf]
   simp -implicitDefEqProofs only [RA,ae,zp,↓reduceIte,reduceCtorEq,zq,zr,zs,zt,↓aA,↓az,↓au,↓ar,↓ay,↓aw,↓ak,↓aj,n1,n2,unA,ne_eq,not_true_eq_false,not_false_eq_true,aG,aN,am,Gy,z1,z2,A76,iN,lt,j1,j2,d1,d2,R76]
   exact ⟨by omega,hfin _ _⟩
  rw [decide_eq_true c2,Ge]
  rcases ai ((ts.length:Int)=2) with ⟨c3,d3⟩|⟨c3,d3⟩
  case inr =>
   rw [uN (by omega)]
   simp -implicitDefEqProofs only [RA,ae,zp,↓reduceIte,reduceCtorEq,zq,zr,zs,zt,↓aA,↓az,↓au,↓ar,↓ay,↓aw,↓ak,↓aj,n1,n2,unA,ne_eq,not_true_eq_false,not_false_eq_true,aG,aN,am,Gy,z1,z2,A76,iN,lt,j1,j2,d1,d2,d3,R76]
   exact ⟨by omega,hfin _ _⟩
  obtain ⟨x,z,rfl⟩:=l2 (l:=ts) (by omega)
  have xl:=aY x
  have xt:=aU x
  have zl:=aY z
  have zt:=aU z
  have wx:=w82' x 0 (by simp)
  have w47':=w47 [8,16,32,64] x.width (by simp)
  rw [yK] at w47'
  simp only [cD,List.map_cons,List.map_nil,inE] at w47'
  have e0:=aZ x
  rw [BG] at wx
  rw [uO]
  have ixx:idxA 6 (bg [x,z]) 0=some (.fp (tmE x)):=ix1 x [z]
  have ixz:=ix2 x z []
  have i4:Int.toNat 1=1:=rfl
  rw [e0] at ixx xl xt wx
  simp -implicitDefEqProofs only [RA,ae,zp,↓reduceIte,reduceCtorEq,zq,zr,zs,zt,↓aA,↓az,↓au,↓ar,↓ay,↓aw,↓ak,↓aj,n1,n2,unA,ne_eq,not_true_eq_false,not_false_eq_true,aG,aN,am,Gy,z1,z2,A76,iN,lt,j1,j2,d1,d2,d3,ixx,ixz,xl,xt]
  refine w47'.use fun m9 hm9=>?_
  have hm9':nx+1+1≤m9:=hm9
  cases hl:ldb x.width
  ·simp -implicitDefEqProofs only [RA,ae,zp,↓reduceIte,reduceCtorEq,zq,zr,zs,zt,↓aA,↓az,↓au,↓ar,↓ay,↓aw,↓ak,↓aj,n1,n2,unA,ne_eq,not_true_eq_false,not_false_eq_true,aG,aN,am,Gy,z1,z2,Gf,R76]
   exact ⟨by omega,hfin _ _⟩
  have wx9:=fun X Y=>w82 P f mv mf V x 0 ((nx+1,X)::(nx,Y)::h) m9 st ck (ha.2 x (by simp)).1 (ha.2 x (by simp)).2 (hkeep X Y _ _ hmn hm) (by omega)
  rw [BG,e0] at wx9
  unfold scE at wx9
  simp -implicitDefEqProofs only [RA,ae,zp,↓reduceIte,reduceCtorEq,zq,zr,zs,zt,↓aA,↓az,↓au,↓ar,↓ay,↓aw,↓ak,↓aj,n1,n2,unA,ne_eq,not_true_eq_false,not_false_eq_true,aG,aN,am,Gy,z1,z2,ixx,xl,xt]
  refine (wx9 _ _).mono ?_
  rintro y h2 n4 ⟨rfl,hn2,hk2⟩
  have hk3:∀ q o,q<nx→aq h q=some o→aq h2 q=some o:=fun q o hq ho=>hk2 q o (by omega) (hkeep _ _ q o hq ho)
  have gs:=hk2 nx _ (by omega) (by rw [af,if_neg (by omega),af,if_pos rfl])
  have gt:=hk2 (nx+1) _ (by omega) (by rw [af,if_pos rfl])
  cases hz:ftZ V x
  ·simp -implicitDefEqProofs only [RA,ae,zp,↓reduceIte,reduceCtorEq,zq,zr,zs,zt,↓aA,↓az,↓au,↓ar,↓ay,↓aw,↓ak,↓aj,n1,n2,unA,ne_eq,not_true_eq_false,not_false_eq_true,aG,aN,am,Gy,z1,z2,gs,gt,Ge,Gf,R76]
   exact ⟨by omega,hk3⟩
  have wz:=w82 P f mv mf V z 32 h2 n4 st ck (ha.2 z (by simp)).1 (ha.2 z (by simp)).2 (hk3 _ _ hmn hm) (by omega)
  have ez:=aZ z
  rw [ez] at wz ixz zl zt
  unfold scE at wz
  simp -implicitDefEqProofs only [RA,ae,zp,↓reduceIte,reduceCtorEq,zq,zr,zs,zt,↓aA,↓az,↓au,↓ar,↓ay,↓aw,↓ak,↓aj,n1,n2,unA,ne_eq,not_true_eq_false,not_false_eq_true,aG,aN,am,Gy,z1,z2,gs,gt,ixz,zl,zt]
  refine wz.mono ?_
  rintro y h5 n5 ⟨rfl,hn5,hk5⟩
  simp -implicitDefEqProofs only [RA,ae,zp,↓reduceIte,reduceCtorEq,zq,zr,zs,zt,↓aA,↓az,↓au,↓ar,↓ay,↓aw,↓ak,↓aj,n1,n2,unA,ne_eq,not_true_eq_false,not_false_eq_true,aG,aN,am,Gy,z1,z2,Ge,R76]
  exact ⟨by omega,fun q o hq ho=>hk5 q o (by omega) (hk3 q o hq ho)⟩
 rw [if_neg k2]
 rcases ai (k=3) with ⟨k3,j3⟩|⟨k3,j3⟩
 ·rw [if_pos k3]
  have w83':=fun X Y=>w83 P f mv mf V fnc ts ((nx+1,X)::(nx,Y)::h) (nx+1+1) st st2 ck ck2 hP ha (hkeep X Y _ _ hmn hm) (by omega) (hkeep X Y _ _ hfn hf) (by omega)
  unfold scE at w83'
  simp -implicitDefEqProofs only [RA,ae,zp,↓reduceIte,reduceCtorEq,zq,zr,zs,zt,↓aA,↓az,↓au,↓ar,↓ay,↓aw,↓ak,↓aj,n1,n2,unA,ne_eq,not_true_eq_false,not_false_eq_true,aG,aN,am,Gy,z1,z2,A76,iN,lt,j1,j2,j3]
  refine (w83' _ _).mono ?_
  rintro y h2 n4 ⟨hres,hn2,hk2⟩
  have hk3:∀ q o,q<nx→aq h q=some o→aq h2 q=some o:=fun q o hq ho=>hk2 q o (by omega) (hkeep _ _ q o hq ho)
  have gs:=hk2 nx _ (by omega) (by rw [af,if_neg (by omega),af,if_pos rfl])
  have gt:=hk2 (nx+1) _ (by omega) (by rw [af,if_pos rfl])
  have y1:(n4=nx)=False:=eq_false (by omega)
  have y2:(n4=nx+1)=False:=eq_false (by omega)
  rcases hres with ⟨hcl,rfl⟩|⟨g,hg,rfl⟩
  ·rw [hcl,Gf]
   simp -implicitDefEqProofs only [RA,ae,zp,↓reduceIte,reduceCtorEq,zq,zr,zs,zt,↓aA,↓az,↓au,↓ar,↓ay,↓aw,↓ak,↓aj,n1,n2,unA,ne_eq,not_true_eq_false,not_false_eq_true,aG,aN,am,Gy,z1,z2,gs,gt,y1,y2,R76]
   refine ⟨by omega,fun q o hq ho=>?_⟩
   rw [if_neg (by omega)];(try rw [if_neg (by omega)])
   exact hk3 q o hq ho
  have hrs:rsO P fnc=g.result:=by rw [rsO,hg]
  rw [bN,hrs]
  cases hcl:clB (ftB V) P fnc ts
  ·rw [Gf]
   simp -implicitDefEqProofs only [RA,ae,zp,↓reduceIte,reduceCtorEq,zq,zr,zs,zt,↓aA,↓az,↓au,↓ar,↓ay,↓aw,↓ak,↓aj,n1,n2,unA,ne_eq,not_true_eq_false,not_false_eq_true,aG,aN,am,Gy,z1,z2,gs,gt,y1,y2,R76]
   refine ⟨by omega,fun q o hq ho=>?_⟩
   repeat rw [if_neg (by omega)]
   exact hk3 q o hq ho
  rw [Ge]
  rcases ai (var=[]) with ⟨c1,d1⟩|⟨c1,d1⟩
  ·rw [decide_eq_true c1,Bool.true_or]
   simp -implicitDefEqProofs only [RA,ae,zp,↓reduceIte,reduceCtorEq,zq,zr,zs,zt,↓aA,↓az,↓au,↓ar,↓ay,↓aw,↓ak,↓aj,n1,n2,unA,ne_eq,not_true_eq_false,not_false_eq_true,aG,aN,am,Gy,z1,z2,gs,gt,y1,y2,d1,R76]
   refine ⟨by omega,fun q o hq ho=>?_⟩
   repeat rw [if_neg (by omega)]
   exact hk3 q o hq ho
  rw [decide_eq_false c1,Gm]
  rcases ai (g.result=0) with ⟨c2,d2⟩|⟨c2,d2⟩
  ·rw [decide_eq_false (p:=g.result≠0) (by simp [c2]),Gf]
   simp -implicitDefEqProofs only [RA,ae,zp,↓reduceIte,reduceCtorEq,zq,zr,zs,zt,↓aA,↓az,↓au,↓ar,↓ay,↓aw,↓ak,↓aj,n1,n2,unA,ne_eq,not_true_eq_false,not_false_eq_true,aG,aN,am,Gy,z1,z2,gs,gt,y1,y2,d1,d2,R76]
   refine ⟨by omega,fun q o hq ho=>?_⟩
   repeat rw [if_neg (by omega)]
   exact hk3 q o hq ho
  rw [decide_eq_true (p:=g.result≠0) c2,Ge]
  have lk2:∀ X Y,eV ((n4,X)::(n4,Y)::h2) .str (.int .i64 0) false (.mp mv) (.str var)=some (.int .i64 (vw V var)):=fun X Y=>fW (by rw [af,if_neg (by omega),af,if_neg (by omega)];exact hk3 _ _ hmn hm) var
  simp -implicitDefEqProofs only [RA,ae,zp,↓reduceIte,reduceCtorEq,zq,zr,zs,zt,↓aA,↓az,↓au,↓ar,↓ay,↓aw,↓ak,↓aj,n1,n2,unA,ne_eq,not_true_eq_false,not_false_eq_true,aG,aN,am,Gy,z1,z2,gs,gt,y1,y2,d1,d2,lk2,R76]
  refine ⟨by omega,fun q o hq ho=>?_⟩
  repeat rw [if_neg (by omega)]
  exact hk3 q o hq ho
 rw [if_neg k3]
 rcases ai (k=4) with ⟨k4,j4⟩|⟨k4,j4⟩
 ·rw [if_pos k4]
  rcases ai (var=[]) with ⟨c1,d1⟩|⟨c1,d1⟩
  case inr =>
   rw [decide_eq_false c1,Gf]
   simp -implicitDefEqProofs only [RA,ae,zp,↓reduceIte,reduceCtorEq,zq,zr,zs,zt,↓aA,↓az,↓au,↓ar,↓ay,↓aw,↓ak,↓aj,n1,n2,unA,ne_eq,not_true_eq_false,not_false_eq_true,aG,aN,am,Gy,z1,z2,A76,iN,lt,j1,j2,j3,j4,d1,R76]
   exact ⟨by omega,hfin _ _⟩
  rw [decide_eq_true c1,Ge]
  rcases ai (fnc=[]) with ⟨c2,d2⟩|⟨c2,d2⟩
  case inr =>
   rw [decide_eq_false c2,Gf]
   simp -implicitDefEqProofs only [RA,ae,zp,↓reduceIte,reduceCtorEq,zq,zr,zs,zt,↓aA,↓az,↓au,↓ar,↓ay,↓aw,↓ak,↓aj,n1,n2,unA,ne_eq,not_true_eq_false,not_false_eq_true,aG,aN,am,Gy,z1,z2,A76,iN,lt,j1,j2,j3,j4,d1,d2,R76]
   exact ⟨by omega,hfin _ _⟩
  rw [decide_eq_true c2,Ge]
  rcases ai ((ts.length:Int)=1) with ⟨c3,d3⟩|⟨c3,d3⟩
  case inr =>
   rw [gU (by omega)]
   simp -implicitDefEqProofs only [RA,ae,zp,↓reduceIte,reduceCtorEq,zq,zr,zs,zt,↓aA,↓az,↓au,↓ar,↓ay,↓aw,↓ak,↓aj,n1,n2,unA,ne_eq,not_true_eq_false,not_false_eq_true,aG,aN,am,Gy,z1,z2,A76,iN,lt,j1,j2,j3,j4,d1,d2,d3,R76]
   exact ⟨by omega,hfin _ _⟩
  obtain ⟨x,rfl⟩:=l1 (l:=ts) (by omega)
  have xl:=aY x
  have xt:=aU x
  have w:=w82' x 0 (by simp)
  rw [BG] at w
  rw [gV]
  simp -implicitDefEqProofs only [RA,ae,zp,↓reduceIte,reduceCtorEq,zq,zr,zs,zt,↓aA,↓az,↓au,↓ar,↓ay,↓aw,↓ak,↓aj,n1,n2,unA,ne_eq,not_true_eq_false,not_false_eq_true,aG,aN,am,Gy,z1,z2,A76,iN,lt,j1,j2,j3,j4,d1,d2,d3,ix1,xl,xt]
  refine (w _ _).mono ?_
  rintro y h2 n4 ⟨rfl,hn2,hk2⟩
  simp -implicitDefEqProofs only [RA,ae,zp,↓reduceIte,reduceCtorEq,zq,zr,zs,zt,↓aA,↓az,↓au,↓ar,↓ay,↓aw,↓ak,↓aj,n1,n2,unA,ne_eq,not_true_eq_false,not_false_eq_true,aG,aN,am,Gy,z1,z2,R76]
  exact ⟨by omega,fun q o hq ho=>hk2 q o (by omega) (hkeep _ _ q o hq ho)⟩
 rw [if_neg k4]
 simp -implicitDefEqProofs only [RA,ae,zp,↓reduceIte,reduceCtorEq,zq,zr,zs,zt,↓aA,↓az,↓au,↓ar,↓ay,↓aw,↓ak,↓aj,n1,n2,unA,ne_eq,not_true_eq_false,not_false_eq_true,aG,aN,am,Gy,z1,z2,A76,iN,lt,j1,j2,j3,j4,R76]
 exact ⟨by omega,hfin _ _⟩
end Go.Proofs.YtkhjclmfbmfahaaGreatDoor
