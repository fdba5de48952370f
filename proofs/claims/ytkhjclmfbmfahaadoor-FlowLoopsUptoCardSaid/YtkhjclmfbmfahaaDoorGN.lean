/- The reference's table of dominators. -/
import Derived.Test.YtkhjclmfbmfahaaDoorGM
namespace Go.Proofs.YtkhjclmfbmfahaaDoor
open List renaming map_append → Em
open Bool renaming and_eq_true → EU, true_and → EV
open Nat renaming le_refl → E5
set_option maxHeartbeats 64000000
open Go Go.Ab Go.Proofs
open Nat renaming reduceEqDiff → zp, reduceAdd → zq, reduceLeDiff → zr, reduceLT → zs, reduceBEq → zt
set_option linter.unusedVariables false
set_option linter.unusedSimpArgs false
set_option maxRecDepth 20000
def blE (b:Bool):List AV:=[.bool b]
def blA (l:List Bool):AV:=.lst 1 (l.map blE)
theorem yk (l:List Bool):∀ z∈l.map blE,z.length=1:=fun z hz=>by
 obtain ⟨r,_,rfl⟩:=List.mem_map.1 hz;rfl
theorem rV {l:List Bool} {n:Nat} {r:Bool} (h:l[n]?=some r):idxA 1 (blA l) (n:Int)=some (.fp [.bool r]):=bI h
theorem vF (l:List Bool):(l.map blE).flatten=l.map .bool:=by
 induction l with
 | nil=>rfl
 | cons a r ih=>simp only [List.map_cons,List.flatten_cons,blE,ih];rfl
def bbE (l:List Bool):List AV:=[blA l]
def bbA (l:List (List Bool)):AV:=.lst 1 (l.map bbE)
theorem rW (l:List (List Bool)):∀ z∈l.map bbE,z.length=1:=fun z hz=>by
 obtain ⟨r,_,rfl⟩:=List.mem_map.1 hz;rfl
theorem rX {l:List (List Bool)} {n:Nat} {r:List Bool} (h:l[n]?=some r):idxA 1 (bbA l) (n:Int)=some (.fp [blA r]):=bI h
noncomputable def rwK (G:Nat→List Nat) (n a k:Nat):List Bool:=(List.range n).map fun x=>decide (x<k)&&dc (Dm G a x)
theorem jc (G:Nat→List Nat) (n a k:Nat):(rwK G n a k).length=n:=by simp [rwK]
theorem ui {G:Nat→List Nat} {n a k x:Nat} (h:x<n):(rwK G n a k)[x]?=some (decide (x<k)&&dc (Dm G a x)):=by simp [rwK,h]
theorem uh (G:Nat→List Nat) (n a:Nat):rwK G n a 0=blL n []:=by simp [rwK,blL]
theorem xn {G:Nat→List Nat} {n a k:Nat}:(rwK G n a k).set k (dc (Dm G a k))=rwK G n a (k+1):=by
 apply List.ext_getElem?
 intro x
 by_cases hx:x<n
 ·rw [ui hx]
  by_cases e:x=k
  ·subst e;rw [List.getElem?_set_self (by rw [jc];exact hx)];simp
  ·rw [List.getElem?_set_ne (by omega),ui hx,show decide (x<k+1)=decide (x<k) from decide_eq_decide.2 (by omega)]
 ·rw [List.getElem?_eq_none (by rw [List.length_set,jc];omega),List.getElem?_eq_none (by rw [jc];omega)]
noncomputable def rwL (G:Nat→List Nat) (n a:Nat):List Bool:=(List.range n).map fun x=>dc (Dm G a x)
theorem xo (G:Nat→List Nat) (n a:Nat):rwK G n a n=rwL G n a:=by
 unfold rwK rwL
 apply List.map_congr_left
 intro x hx
 rw [decide_eq_true (List.mem_range.1 hx),EV]
noncomputable def dtL (G:Nat→List Nat) (n:Nat):List (List Bool):=(List.range n).map fun a=>rwL G n a
theorem vq {G:Nat→List Nat} {n a:Nat} (h:a<n):(dtL G n)[a]?=some (rwL G n a):=by simp [dtL,h]
theorem ug {G:Nat→List Nat} {n a x:Nat} (h:x<n):(rwL G n a)[x]?=some (dc (Dm G a x)):=by simp [rwL,h]
theorem my {G:Nat→List Nat} {n fr x:Nat} {av:Nat→Prop} (h:x<n):(wyL G n fr av)[x]?=some (dc (Wy G av fr x)):=by simp [wyL,h]
theorem ra {G:Nat→List Nat} {x:Nat}:Wy G (fun y=>(y:Int)=-1) 0 x↔Rch G x:=⟨fun h=>h.weak fun y hy=>hy.elim,fun h=>h.weak fun y hy=>by omega⟩
theorem mw {G:Nat→List Nat} {a fr x:Nat}:Wy G (fun y=>(y:Int)=(a:Int)) fr x↔Wy G (fun y=>y=a) fr x:=⟨fun h=>h.weak fun y hy=>by omega,fun h=>h.weak fun y hy=>by omega⟩
theorem x6 (G:Nat→List Nat) (a b:Nat):dc (Dm G a b)=(dc (Rch G a)&&(dc (Rch G b)&&!dc (Wy G (fun y=>y=a) 0 b))):=by
 rw [Bool.eq_iff_iff]
 simp only [EU,cT,Bool.not_eq_true',Bool.eq_false_iff,ne_eq]
 exact Iff.rfl
theorem w41 {P:Pi} {g:Fn} (G:GdF P g):Pure Tryd.prog 18 [ntA (ntF g)] (bbA (dtL (nbG g) g.blocks.length)):=by
 refine Pure.own (e:=72) (rW _) fun nx=>AC.go aI is41 (by simp) ?_
 have hn60:=G.n2
 have hn1:=G.n1
 have hNl:=jf g
 have lN:=kH (ntF g)
 have w59':=fun fr but h=>w59 G fr but h
 obtain ⟨n,hn⟩:∃ n,n=g.blocks.length:=⟨_,rfl⟩
 rw [← hn] at hNl hn60 hn1 w59' ⊢
 rw [hNl] at lN
 generalize nbG g=E at *
 have hmk:=ol (n:=n) (b:=1) (by omega) (by omega)
 have mkb:=uS n
 have wa:=w59' 0 (-1) (by omega)
 rw [show ((0:Nat):Int)=0 from rfl] at wa
 obtain ⟨RR0,hRR⟩:∃ a,a=AV.lst 1 ((wyL E n 0 fun y=>(y:Int)=-1).map fun b=>[.bool b]):=⟨_,rfl⟩
 rw [← hRR] at wa
 simp -implicitDefEqProofs only [RA,ae,zp,↓reduceIte,reduceCtorEq,zq,zr,zs,zt,↓az,↓aA,↓ar,↓aq,↓aw,↓au,↓ak,↓aj,↓aC,↓aB,↓aE,↓aD,unA,ne_eq,not_true_eq_false,not_false_eq_true,A41,Dq,lN]
 refine wa.use fun k1 hk1=>?_
 simp -implicitDefEqProofs only [RA,ae,zp,↓reduceIte,reduceCtorEq,zq,zr,zs,zt,↓az,↓aA,↓ar,↓aq,↓aw,↓au,↓ak,↓aj,↓aC,↓aB,↓aE,↓aD,unA,ne_eq,not_true_eq_false,not_false_eq_true,lN]
 refine aJ (fun q st=>∃ (a:Nat) (v:AV),q=n-a∧a≤n∧ah st.env 0=some (ntA (ntF g))∧ah st.env 3=some RR0∧ah st.env 4=some v∧ah st.env 5=some (.int .i64 a)∧aU 72 1 st.heap st.nx v (((List.range a).map fun a=>rwL E n a).map bbE)∧st.dm=[]) (n:=n) aI
  ⟨0,.nilS,rfl,by omega,by simp [ah],by simp [ah],by simp [ah],by simp [ah],.inl ⟨rfl,rfl⟩,rfl⟩ ?_
 rintro q ⟨env,heap,nx',dm⟩ ⟨a,v,rfl,ha,g0,g3,g4,g5,ov,hdm⟩
 simp only at g0 g3 g4 g5 ov hdm
 subst hdm
 have f1:=wS (i:=a) (by omega)
 by_cases hc:(a:Int)<(n:Int)
 case neg =>
  have e:a=n:=by omega
  subst e
  simp -implicitDefEqProofs only [RA,ae,zp,↓reduceIte,reduceCtorEq,zq,zr,zs,zt,↓az,↓aA,↓ar,↓aq,↓aw,↓au,↓ak,↓aj,↓aC,↓aB,↓aE,↓aD,unA,ne_eq,not_true_eq_false,not_false_eq_true,ww,qB,g0,g3,g4,g5,lN,hc,R41]
  exact ⟨v,rfl,ov⟩
 have han:a<n:=by omega
 have wb:=w59' 0 a (by omega)
 rw [show ((0:Nat):Int)=0 from rfl] at wb
 obtain ⟨FF,hFF⟩:∃ l,l=AV.lst 1 ((wyL E n 0 fun y=>(y:Int)=(a:Int)).map fun b=>[.bool b]):=⟨_,rfl⟩
 rw [← hFF] at wb
 have ixa:idxA 1 RR0 (a:Int)=some (.fp [.bool (dc (Rch E a))]):=by
  rw [hRR,← gv ra];exact bI (f:=fun b=>[AV.bool b]) (my han)
 simp -implicitDefEqProofs only [RA,ae,zp,↓reduceIte,reduceCtorEq,zq,zr,zs,zt,↓az,↓aA,↓ar,↓aq,↓aw,↓au,↓ak,↓aj,↓aC,↓aB,↓aE,↓aD,unA,ne_eq,not_true_eq_false,not_false_eq_true,ww,qB,g0,g3,g4,g5,lN,hc,hmk,mkb,Int.toNat_natCast]
 refine wb.use fun k2 hk2=>?_
 rw [← uh E n a]
 simp -implicitDefEqProofs only [RA,ae,zp,↓reduceIte,reduceCtorEq,zq,zr,zs,zt,↓az,↓aA,↓ar,↓aq,↓aw,↓au,↓ak,↓aj,↓aC,↓aB,↓aE,↓aD,unA,ne_eq,not_true_eq_false,not_false_eq_true,lN]
 obtain ⟨rb,hrb⟩:∃ r,r=nx':=⟨_,rfl⟩
 refine iO (fun q st=>∃ (b:Nat),q=n-b∧b≤n∧ah st.env 0=some (ntA (ntF g))∧ah st.env 3=some RR0∧ah st.env 4=some v∧ah st.env 5=some (.int .i64 a)∧ah st.env 6=some (.os rb 0 4 1 n)∧ah st.env 7=some FF∧ah st.env 8=some (.int .i64 b)∧ay st.heap rb=some (.cells ((rwK E n a b).map .bool))∧aU 72 1 st.heap st.nx v (((List.range a).map fun a=>rwL E n a).map bbE)∧aS v≠some rb∧rb<st.nx∧st.dm=[]) 2
  (fun st=>ah st.env 0=some (ntA (ntF g))∧ah st.env 3=some RR0∧ah st.env 4=some v∧ah st.env 5=some (.int .i64 a)∧ah st.env 6=some (.os rb 0 4 1 n)∧ay st.heap rb=some (.cells ((rwL E n a).map .bool))∧aU 72 1 st.heap st.nx v (((List.range a).map fun a=>rwL E n a).map bbE)∧aS v≠some rb∧rb<st.nx∧st.dm=[]) (n:=n) aI
  ⟨0,rfl,by omega,by simp [ah,g0],by simp [ah,g3],by simp [ah,g4],by simp [ah,g5],by simp [ah,hrb],by simp [ah],by simp [ah],by simp only;rw [af,if_pos hrb.symm],?_,fun e=>?_,by simp only;omega,rfl⟩ ?_ ?_
 ·simp only
  refine (ov.mono (nx':=k2) (by omega)).keep (E5 _) fun k o h1 h2=>?_
  rw [af,if_neg (by have:=(ov.blk h1).2.2;omega)];exact h2
 ·have:=(ov.blk e).2.2;omega
 ·clear g0 g3 g4 g5
  rintro q ⟨env,heap2,nx2,dm⟩ ⟨b,rfl,hb,g0,g3,g4,g5,g6,g7,g8,gr,ov,hne,hlt,hdm⟩
  simp only at g0 g3 g4 g5 g6 g7 g8 gr ov hlt hdm
  subst hdm
  have f2:=wS (i:=b) (by omega)
  by_cases hcb:(b:Int)<(n:Int)
  case neg =>
   have e:b=n:=by omega
   subst e
   rw [xo] at gr
   simp -implicitDefEqProofs only [RA,ae,zp,↓reduceIte,reduceCtorEq,zq,zr,zs,zt,↓az,↓aA,↓ar,↓aq,↓aw,↓au,↓ak,↓aj,↓aC,↓aB,↓aE,↓aD,unA,ne_eq,not_true_eq_false,not_false_eq_true,cU,dv,dw,dx,pj,lf,g0,g3,g4,g5,g6,g7,g8,lN,hcb,f2]
   exact ⟨gr,ov,hne,hlt⟩
  have hbn:b<n:=by omega
  have ixb:idxA 1 RR0 (b:Int)=some (.fp [.bool (dc (Rch E b))]):=by
   rw [hRR,← gv ra];exact bI (f:=fun b=>[AV.bool b]) (my hbn)
  have ixf:idxA 1 FF (b:Int)=some (.fp [.bool (dc (Wy E (fun y=>y=a) 0 b))]):=by
   rw [hFF,← gv mw];exact bI (f:=fun b=>[AV.bool b]) (my hbn)
  have ir:=eu (b:=rb) (e:=4) (n:=n) (i:=b) hbn
  have hput:=fB (f:=AV.bool) (l:=rwK E n a b) (i:=b) (by rw [jc];omega) (dc (Dm E a b))
  have hle:=hE (f:=AV.bool) (l:=rwK E n a b) (i:=b) (by rw [jc];omega)
  rw [xn,x6] at hput
  have fin:∀ h3,h3=(rb,AO.cells ((rwK E n a (b+1)).map .bool))::heap2→ay h3 rb=some (.cells ((rwK E n a (b+1)).map .bool))∧aU 72 1 h3 nx2 v (((List.range a).map fun a=>rwL E n a).map bbE):=by
   rintro h3 rfl
   refine ⟨by rw [af,if_pos rfl],ov.keep (E5 _) fun k o h1 h2=>?_⟩
   rw [af,if_neg (fun e=>hne (by rw [h1,e]))];exact h2
  obtain ⟨fin1,fin2⟩:=fin _ rfl
  cases h1:dc (Rch E a)
  ·rw [h1,Bool.false_and] at hput
   rw [h1] at ixa
   simp -implicitDefEqProofs only [RA,ae,zp,↓reduceIte,reduceCtorEq,zq,zr,zs,zt,↓az,↓aA,↓ar,↓aq,↓aw,↓au,↓ak,↓aj,↓aC,↓aB,↓aE,↓aD,unA,ne_eq,not_true_eq_false,not_false_eq_true,cU,dv,dw,dx,pj,lf,g0,g3,g4,g5,g6,g7,g8,lN,hcb,f2,ixa,ir,gr,hput,hle]
   exact ⟨n-(b+1),by omega,b+1,rfl,by omega,rfl,rfl,fin2,hne,hlt⟩
  cases h2:dc (Rch E b)
  ·rw [h1,h2,Bool.false_and,Bool.and_false] at hput
   rw [h1] at ixa
   rw [h2] at ixb
   simp -implicitDefEqProofs only [RA,ae,zp,↓reduceIte,reduceCtorEq,zq,zr,zs,zt,↓az,↓aA,↓ar,↓aq,↓aw,↓au,↓ak,↓aj,↓aC,↓aB,↓aE,↓aD,unA,ne_eq,not_true_eq_false,not_false_eq_true,cU,dv,dw,dx,pj,lf,g0,g3,g4,g5,g6,g7,g8,lN,hcb,f2,ixa,ixb,ir,gr,hput,hle]
   exact ⟨n-(b+1),by omega,b+1,rfl,by omega,rfl,rfl,fin2,hne,hlt⟩
  rw [h1,h2,EV,EV] at hput
  rw [h1] at ixa
  rw [h2] at ixb
  simp -implicitDefEqProofs only [RA,ae,zp,↓reduceIte,reduceCtorEq,zq,zr,zs,zt,↓az,↓aA,↓ar,↓aq,↓aw,↓au,↓ak,↓aj,↓aC,↓aB,↓aE,↓aD,unA,ne_eq,not_true_eq_false,not_false_eq_true,cU,dv,dw,dx,pj,lf,g0,g3,g4,g5,g6,g7,g8,lN,hcb,f2,ixa,ixb,ixf,ir,gr,hput,hle]
  exact ⟨n-(b+1),by omega,b+1,rfl,by omega,rfl,rfl,fin2,hne,hlt⟩
 ·rintro ⟨env,heap2,nx2,dm⟩ ⟨g0,g3,g4,g5,g6,gr,ov,hne,hlt,hdm⟩
  simp only at g0 g3 g4 g5 g6 gr ov hlt hdm
  subst hdm
  have hfr:=Frz.os (h:=heap2) (b:=rb) (sz:=1) (n:=n) (e:=4) (es:=(rwL E n a).map blE) (by rw [vF];exact gr) (yk _) (by simp [rwL])
  refine ⟨6,_,_,_,g6,hfr,?_⟩
  have ov2:aU 72 1 (bQ heap2 rb) nx2 v (((List.range a).map fun a=>rwL E n a).map bbE):=ov.keep (E5 _) fun k o h1 h2=>by
   rw [bq (fun e=>hne (by rw [h1,e]))];exact h2
  obtain ⟨v',h4,n4,ea,og,hle,fr,id⟩:=ov2.grw (bytes:=24) (ns:=[bbE (rwL E n a)]) (rW _) (by simp [bbE]) (by simp;omega) (by simp [maxLen];omega)
  rw [bbE,blA] at ea
  simp -implicitDefEqProofs only [RA,ae,zp,↓reduceIte,reduceCtorEq,zq,zr,zs,zt,↓az,↓aA,↓ar,↓aq,↓aw,↓au,↓ak,↓aj,↓aC,↓aB,↓aE,↓aD,unA,ne_eq,not_true_eq_false,not_false_eq_true,g0,g3,g4,g5,g6,ea,f1]
  refine ⟨n-(a+1),by omega,a+1,v',rfl,by omega,rfl,rfl,?_⟩
  rw [List.range_succ,Em,Em];exact og
section
variable {G:Nat→List Nat}
def Bw (G:Nat→List Nat) (h u:Nat):Prop:=h∈G u∧Dm G h u
def LI (G:Nat→List Nat) (h b:Nat):Prop:=b=h∨(Rch G b∧∃ u,Bw G h u∧Wy G (fun x=>x=h) b u)
theorem Bw.rch {h u:Nat} (b:Bw G h u):Rch G u:=b.2.2.1
theorem LI.bk {h u:Nat} (b:Bw G h u):LI G h u:=by
 by_cases e:u=h
 ·exact .inl e
 ·exact .inr ⟨b.rch,u,b,.nil e⟩
theorem LI.back {h b c:Nat} (hb:Rch G b) (hc:c∈G b) (hl:LI G h c) (hne:c≠h):LI G h b:=by
 by_cases e:b=h
 ·exact .inl e
 ·rcases hl with e2|⟨_,u,h1,h2⟩
  ·exact absurd e2 hne
  ·exact .inr ⟨hb,u,h1,(Wy.one (av:=fun x=>x=h) e hc hne).trans h2⟩
theorem LI.rch {h b:Nat} (hh:Rch G h) (hl:LI G h b):Rch G b:=by
 rcases hl with e|h
 ·subst e;exact hh
 ·exact h.1
structure LP (G:Nat→List Nat) (n h m:Nat):Prop where
 lt:m<18446744073709551616
 sub:∀ x,m.testBit x=true→x<n∧LI G h x
 hd:m.testBit h=true
 bk:∀ u,Bw G h u→m.testBit u=true
theorem LP.add {n h m b c:Nat} (l:LP G n h m) (hn:n≤60) (hb:b<n) (hr:Rch G b) (hc:c∈G b) (hm:m.testBit c=true) (hne:c≠h):LP G n h (m ||| 2 ^ b):=by
 refine ⟨n7 l.lt (kE (by omega)),fun x hx=>?_,?_,fun u hu=>?_⟩
 ·rw [Nat.testBit_or,Nat.testBit_two_pow,Bool.or_eq_true,decide_eq_true_eq] at hx
  rcases hx with h1|h1
  ·exact l.sub x h1
  ·subst h1;exact ⟨hb,LI.back hr hc (l.sub c hm).2 hne⟩
 ·rw [Nat.testBit_or,l.hd];rfl
 ·rw [Nat.testBit_or,l.bk u hu];rfl
theorem By (m b:Nat):m≤m ||| 2 ^ b:=Nat.left_le_or
theorem xw {m b:Nat} (h:m ||| 2 ^ b=m):m.testBit b=true:=by
 rw [← h,Nat.testBit_or,Nat.testBit_two_pow,decide_eq_true rfl,Bool.or_true]
theorem LP.done {n h m:Nat} (l:LP G n h m) (hG:∀ x,Rch G x→x<n) (hh:h<n) (hf:∀ b,b<n→∀ c∈G b,Rch G b→m.testBit c=true→c≠h→m.testBit b=true):m=mkP n fun x=>LI G h x:=by
 apply eb
 intro x
 rw [cu,Bool.eq_iff_iff,EU,decide_eq_true_eq,cT]
 refine ⟨fun hx=>l.sub x hx,fun ⟨h1,h2⟩=>?_⟩
 rcases h2 with e|⟨hr,u,hu,hw⟩
 ·subst e;exact l.hd
 ·exact hw.back (p:=fun x=>m.testBit x=true) (l.bk u hu) fun u' c w hc hv hp=>hf u' (hG _ (w.rchFrom hr)) c hc (w.rchFrom hr) hp hv
noncomputable def bkN (G:Nat→List Nat) (n h:Nat):Nat:=mkP n fun u=>Bw G h u
theorem LP.first {n h:Nat} (hn:n≤60) (hh:h<n) (hG:∀ x,Rch G x→x<n):LP G n h (bkN G n h ||| 2 ^ h):=by
 refine ⟨n7 (gZ (by omega)) (kE (by omega)),fun x hx=>?_,?_,fun u hu=>?_⟩
 ·rw [Nat.testBit_or,Nat.testBit_two_pow,Bool.or_eq_true,decide_eq_true_eq,bkN,cu,EU,decide_eq_true_eq,cT] at hx
  rcases hx with ⟨h1,h2⟩|h1
  ·exact ⟨h1,.bk h2⟩
  ·subst h1;exact ⟨hh,.inl rfl⟩
 ·rw [Nat.testBit_or,Nat.testBit_two_pow,decide_eq_true rfl,Bool.or_true]
 ·rw [Nat.testBit_or,bkN,cu,decide_eq_true (hG u hu.rch),pV hu];rfl
theorem oV {n h:Nat} (hG:∀ x,Rch G x→x<n):bkN G n h=0↔∀ u,¬ Bw G h u:=by
 constructor
 ·intro e u hu
  have:(bkN G n h).testBit u=true:=by rw [bkN,cu,decide_eq_true (hG u hu.rch),pV hu];rfl
  rw [e] at this;simp at this
 ·intro hn
  apply eb
  intro i
  rw [bkN,cu,tD (hn i)];simp
noncomputable def lbF (G:Nat→List Nat) (n h:Nat):List Nat:=(List.range n).filter fun b=>dc (LI G h b)
noncomputable def lpF (G:Nat→List Nat) (n:Nat):Nat→List (Nat × List Nat)
 | 0=>[]
 | k+1=>lpF G n k++(if dc (∃ u,Bw G k u)=true then [(k,lbF G n k)] else [])
end
end Go.Proofs.YtkhjclmfbmfahaaDoor
