/- The reference's table of dominators. -/
import Derived.Test.YtkhjclmfbmfahaaGreatDoorGM
namespace Go.Proofs.YtkhjclmfbmfahaaGreatDoor
open List renaming getElem?_eq_getElem → DN, mem_of_getElem? → DO, take_of_length_le → DQ, map_append → D7
open Bool renaming and_eq_true → EF, true_and → EG, false_and → EH
open Nat renaming le_refl → EQ
set_option maxHeartbeats 64000000
open Go Go.Ab Go.Proofs
open Nat renaming reduceEqDiff → zp, reduceAdd → zq, reduceLeDiff → zr, reduceLT → zs, reduceBEq → zt
set_option linter.unusedVariables false
set_option linter.unusedSimpArgs false
set_option maxRecDepth 20000
def blE (b:Bool):List AV:=[.bool b]
def blA (l:List Bool):AV:=.lst 1 (l.map blE)
theorem x6 (l:List Bool):∀ z∈l.map blE,z.length=1:=fun z hz=>by
 obtain ⟨r,_,rfl⟩:=List.mem_map.1 hz;rfl
theorem x7 {l:List Bool} {n:Nat} {r:Bool} (h:l[n]?=some r):idxA 1 (blA l) (n:Int)=some (.fp [.bool r]):=bM h
theorem va (l:List Bool):(l.map blE).flatten=l.map .bool:=by
 induction l with
 | nil=>rfl
 | cons a r ih=>simp only [List.map_cons,List.flatten_cons,blE,ih];rfl
def bbE (l:List Bool):List AV:=[blA l]
def bbA (l:List (List Bool)):AV:=.lst 1 (l.map bbE)
theorem rP (l:List (List Bool)):∀ z∈l.map bbE,z.length=1:=fun z hz=>by
 obtain ⟨r,_,rfl⟩:=List.mem_map.1 hz;rfl
theorem x9 {l:List (List Bool)} {n:Nat} {r:List Bool} (h:l[n]?=some r):idxA 1 (bbA l) (n:Int)=some (.fp [blA r]):=bM h
noncomputable def rwK (G:Nat→List Nat) (n a k:Nat):List Bool:=(List.range n).map fun x=>decide (x<k)&&dc (Dm G a x)
theorem iS (G:Nat→List Nat) (n a k:Nat):(rwK G n a k).length=n:=by simp [rwK]
theorem tR {G:Nat→List Nat} {n a k x:Nat} (h:x<n):(rwK G n a k)[x]?=some (decide (x<k)&&dc (Dm G a x)):=by simp [rwK,h]
theorem tQ (G:Nat→List Nat) (n a:Nat):rwK G n a 0=blL n []:=by simp [rwK,blL]
theorem xk {G:Nat→List Nat} {n a k:Nat}:(rwK G n a k).set k (dc (Dm G a k))=rwK G n a (k+1):=by
 apply List.ext_getElem?
 intro x
 by_cases hx:x<n
 ·rw [tR hx]
  by_cases e:x=k
  ·subst e;rw [List.getElem?_set_self (by rw [iS];exact hx)];simp
  ·rw [List.getElem?_set_ne (by omega),tR hx,show decide (x<k+1)=decide (x<k) from decide_eq_decide.2 (by omega)]
 ·rw [List.getElem?_eq_none (by rw [List.length_set,iS];omega),List.getElem?_eq_none (by rw [iS];omega)]
noncomputable def rwL (G:Nat→List Nat) (n a:Nat):List Bool:=(List.range n).map fun x=>dc (Dm G a x)
theorem xm (G:Nat→List Nat) (n a:Nat):rwK G n a n=rwL G n a:=by
 unfold rwK rwL
 apply List.map_congr_left
 intro x hx
 rw [decide_eq_true (List.mem_range.1 hx),EG]
noncomputable def dtL (G:Nat→List Nat) (n:Nat):List (List Bool):=(List.range n).map fun a=>rwL G n a
theorem Ae {G:Nat→List Nat} {n a:Nat} (h:a<n):(dtL G n)[a]?=some (rwL G n a):=by simp [dtL,h]
theorem zI {G:Nat→List Nat} {n a x:Nat} (h:x<n):(rwL G n a)[x]?=some (dc (Dm G a x)):=by simp [rwL,h]
theorem oX {G:Nat→List Nat} {n fr x:Nat} {av:Nat→Prop} (h:x<n):(wyL G n fr av)[x]?=some (dc (Wy G av fr x)):=by simp [wyL,h]
theorem qY {G:Nat→List Nat} {x:Nat}:Wy G (fun y=>(y:Int)=-1) 0 x↔Rch G x:=⟨fun h=>h.weak fun y hy=>hy.elim,fun h=>h.weak fun y hy=>by omega⟩
theorem wW {G:Nat→List Nat} {a fr x:Nat}:Wy G (fun y=>(y:Int)=(a:Int)) fr x↔Wy G (fun y=>y=a) fr x:=⟨fun h=>h.weak fun y hy=>by omega,fun h=>h.weak fun y hy=>by omega⟩
theorem xP (G:Nat→List Nat) (a b:Nat):dc (Dm G a b)=(dc (Rch G a)&&(dc (Rch G b)&&!dc (Wy G (fun y=>y=a) 0 b))):=by
 rw [Bool.eq_iff_iff]
 simp only [EF,eX,Bool.not_eq_true',Bool.eq_false_iff,ne_eq]
 exact Iff.rfl
theorem w41 {P:Pi} {g:Fn} (G:GdF P g):Pure Tryz.prog 41 [ntA (ntF g)] (bbA (dtL (nbG g) g.blocks.length)):=by
 refine Pure.own (e:=85) (rP _) fun nx=>AC.go aI is41 (by simp) ?_
 have hn60:=G.n2
 have hn1:=G.n1
 have hNl:=iW g
 have lN:=km (ntF g)
 have w59':=fun fr but h=>w59 G fr but h
 obtain ⟨n,hn⟩:∃ n,n=g.blocks.length:=⟨_,rfl⟩
 rw [← hn] at hNl hn60 hn1 w59' ⊢
 rw [hNl] at lN
 generalize nbG g=E at *
 have hmk:=rp (n:=n) (b:=1) (by omega) (by omega)
 have mkb:=uu n
 have wa:=w59' 0 (-1) (by omega)
 rw [show ((0:Nat):Int)=0 from rfl] at wa
 obtain ⟨RR0,hRR⟩:∃ a,a=AV.lst 1 ((wyL E n 0 fun y=>(y:Int)=-1).map fun b=>[.bool b]):=⟨_,rfl⟩
 rw [← hRR] at wa
 simp -implicitDefEqProofs only [RA,ae,zp,↓reduceIte,reduceCtorEq,zq,zr,zs,zt,↓ay,↓az,↓ar,↓aq,↓aw,↓au,↓ak,↓aj,↓aC,↓aB,↓aE,↓aD,unA,ne_eq,not_true_eq_false,not_false_eq_true,A41,C4,lN]
 refine wa.use fun k1 hk1=>?_
 simp -implicitDefEqProofs only [RA,ae,zp,↓reduceIte,reduceCtorEq,zq,zr,zs,zt,↓ay,↓az,↓ar,↓aq,↓aw,↓au,↓ak,↓aj,↓aC,↓aB,↓aE,↓aD,unA,ne_eq,not_true_eq_false,not_false_eq_true,lN]
 refine aJ (fun q st=>∃ (a:Nat) (v:AV),q=n-a∧a≤n∧ai st.env 0=some (ntA (ntF g))∧ai st.env 3=some RR0∧ai st.env 4=some v∧ai st.env 5=some (.int .i64 a)∧aQ 85 1 st.heap st.nx v (((List.range a).map fun a=>rwL E n a).map bbE)∧st.dm=[]) (n:=n) aI
  ⟨0,.nilS,rfl,by omega,by simp [ai],by simp [ai],by simp [ai],by simp [ai],.inl ⟨rfl,rfl⟩,rfl⟩ ?_
 rintro q ⟨env,heap,nx',dm⟩ ⟨a,v,rfl,ha,g0,g3,g4,g5,ov,hdm⟩
 simp only at g0 g3 g4 g5 ov hdm
 subst hdm
 have f1:=wS (i:=a) (by omega)
 by_cases hc:(a:Int)<(n:Int)
 case neg =>
  have e:a=n:=by omega
  subst e
  simp -implicitDefEqProofs only [RA,ae,zp,↓reduceIte,reduceCtorEq,zq,zr,zs,zt,↓ay,↓az,↓ar,↓aq,↓aw,↓au,↓ak,↓aj,↓aC,↓aB,↓aE,↓aD,unA,ne_eq,not_true_eq_false,not_false_eq_true,wg,qq,g0,g3,g4,g5,lN,hc,R41]
  exact ⟨v,rfl,ov⟩
 have han:a<n:=by omega
 have wb:=w59' 0 a (by omega)
 rw [show ((0:Nat):Int)=0 from rfl] at wb
 obtain ⟨FF,hFF⟩:∃ l,l=AV.lst 1 ((wyL E n 0 fun y=>(y:Int)=(a:Int)).map fun b=>[.bool b]):=⟨_,rfl⟩
 rw [← hFF] at wb
 have ixa:idxA 1 RR0 (a:Int)=some (.fp [.bool (dc (Rch E a))]):=by
  rw [hRR,← lU qY];exact bM (f:=fun b=>[AV.bool b]) (oX han)
 simp -implicitDefEqProofs only [RA,ae,zp,↓reduceIte,reduceCtorEq,zq,zr,zs,zt,↓ay,↓az,↓ar,↓aq,↓aw,↓au,↓ak,↓aj,↓aC,↓aB,↓aE,↓aD,unA,ne_eq,not_true_eq_false,not_false_eq_true,wg,qq,g0,g3,g4,g5,lN,hc,hmk,mkb,Int.toNat_natCast]
 refine wb.use fun k2 hk2=>?_
 rw [← tQ E n a]
 simp -implicitDefEqProofs only [RA,ae,zp,↓reduceIte,reduceCtorEq,zq,zr,zs,zt,↓ay,↓az,↓ar,↓aq,↓aw,↓au,↓ak,↓aj,↓aC,↓aB,↓aE,↓aD,unA,ne_eq,not_true_eq_false,not_false_eq_true,lN]
 obtain ⟨rb,hrb⟩:∃ r,r=nx':=⟨_,rfl⟩
 refine kw (fun q st=>∃ (b:Nat),q=n-b∧b≤n∧ai st.env 0=some (ntA (ntF g))∧ai st.env 3=some RR0∧ai st.env 4=some v∧ai st.env 5=some (.int .i64 a)∧ai st.env 6=some (.os rb 0 4 1 n)∧ai st.env 7=some FF∧ai st.env 8=some (.int .i64 b)∧aA st.heap rb=some (.cells ((rwK E n a b).map .bool))∧aQ 85 1 st.heap st.nx v (((List.range a).map fun a=>rwL E n a).map bbE)∧aM v≠some rb∧rb<st.nx∧st.dm=[]) 2
  (fun st=>ai st.env 0=some (ntA (ntF g))∧ai st.env 3=some RR0∧ai st.env 4=some v∧ai st.env 5=some (.int .i64 a)∧ai st.env 6=some (.os rb 0 4 1 n)∧aA st.heap rb=some (.cells ((rwL E n a).map .bool))∧aQ 85 1 st.heap st.nx v (((List.range a).map fun a=>rwL E n a).map bbE)∧aM v≠some rb∧rb<st.nx∧st.dm=[]) (n:=n) aI
  ⟨0,rfl,by omega,by simp [ai,g0],by simp [ai,g3],by simp [ai,g4],by simp [ai,g5],by simp [ai,hrb],by simp [ai],by simp [ai],by simp only;rw [af,if_pos hrb.symm],?_,fun e=>?_,by simp only;omega,rfl⟩ ?_ ?_
 ·simp only
  refine (ov.mono (nx':=k2) (by omega)).keep (EQ _) fun k o h1 h2=>?_
  rw [af,if_neg (by have:=(ov.blk h1).2.2;omega)];exact h2
 ·have:=(ov.blk e).2.2;omega
 ·clear g0 g3 g4 g5
  rintro q ⟨env,heap2,nx2,dm⟩ ⟨b,rfl,hb,g0,g3,g4,g5,g6,g7,g8,gr,ov,hne,hlt,hdm⟩
  simp only at g0 g3 g4 g5 g6 g7 g8 gr ov hlt hdm
  subst hdm
  have f2:=wS (i:=b) (by omega)
  by_cases hcb:(b:Int)<(n:Int)
  case neg =>
   have e:b=n:=by omega
   subst e
   rw [xm] at gr
   simp -implicitDefEqProofs only [RA,ae,zp,↓reduceIte,reduceCtorEq,zq,zr,zs,zt,↓ay,↓az,↓ar,↓aq,↓aw,↓au,↓ak,↓aj,↓aC,↓aB,↓aE,↓aD,unA,ne_eq,not_true_eq_false,not_false_eq_true,fu,fW,fX,fY,oR,kQ,g0,g3,g4,g5,g6,g7,g8,lN,hcb,f2]
   exact ⟨gr,ov,hne,hlt⟩
  have hbn:b<n:=by omega
  have ixb:idxA 1 RR0 (b:Int)=some (.fp [.bool (dc (Rch E b))]):=by
   rw [hRR,← lU qY];exact bM (f:=fun b=>[AV.bool b]) (oX hbn)
  have ixf:idxA 1 FF (b:Int)=some (.fp [.bool (dc (Wy E (fun y=>y=a) 0 b))]):=by
   rw [hFF,← lU wW];exact bM (f:=fun b=>[AV.bool b]) (oX hbn)
  have ir:=eP (b:=rb) (e:=4) (n:=n) (i:=b) hbn
  have hput:=fQ (f:=AV.bool) (l:=rwK E n a b) (i:=b) (by rw [iS];omega) (dc (Dm E a b))
  have hle:=iB (f:=AV.bool) (l:=rwK E n a b) (i:=b) (by rw [iS];omega)
  rw [xk,xP] at hput
  have fin:∀ h3,h3=(rb,AO.cells ((rwK E n a (b+1)).map .bool))::heap2→aA h3 rb=some (.cells ((rwK E n a (b+1)).map .bool))∧aQ 85 1 h3 nx2 v (((List.range a).map fun a=>rwL E n a).map bbE):=by
   rintro h3 rfl
   refine ⟨by rw [af,if_pos rfl],ov.keep (EQ _) fun k o h1 h2=>?_⟩
   rw [af,if_neg (fun e=>hne (by rw [h1,e]))];exact h2
  obtain ⟨fin1,fin2⟩:=fin _ rfl
  cases h1:dc (Rch E a)
  ·rw [h1,EH] at hput
   rw [h1] at ixa
   simp -implicitDefEqProofs only [RA,ae,zp,↓reduceIte,reduceCtorEq,zq,zr,zs,zt,↓ay,↓az,↓ar,↓aq,↓aw,↓au,↓ak,↓aj,↓aC,↓aB,↓aE,↓aD,unA,ne_eq,not_true_eq_false,not_false_eq_true,fu,fW,fX,fY,oR,kQ,g0,g3,g4,g5,g6,g7,g8,lN,hcb,f2,ixa,ir,gr,hput,hle]
   exact ⟨n-(b+1),by omega,b+1,rfl,by omega,rfl,rfl,fin2,hne,hlt⟩
  cases h2:dc (Rch E b)
  ·rw [h1,h2,EH,Bool.and_false] at hput
   rw [h1] at ixa
   rw [h2] at ixb
   simp -implicitDefEqProofs only [RA,ae,zp,↓reduceIte,reduceCtorEq,zq,zr,zs,zt,↓ay,↓az,↓ar,↓aq,↓aw,↓au,↓ak,↓aj,↓aC,↓aB,↓aE,↓aD,unA,ne_eq,not_true_eq_false,not_false_eq_true,fu,fW,fX,fY,oR,kQ,g0,g3,g4,g5,g6,g7,g8,lN,hcb,f2,ixa,ixb,ir,gr,hput,hle]
   exact ⟨n-(b+1),by omega,b+1,rfl,by omega,rfl,rfl,fin2,hne,hlt⟩
  rw [h1,h2,EG,EG] at hput
  rw [h1] at ixa
  rw [h2] at ixb
  simp -implicitDefEqProofs only [RA,ae,zp,↓reduceIte,reduceCtorEq,zq,zr,zs,zt,↓ay,↓az,↓ar,↓aq,↓aw,↓au,↓ak,↓aj,↓aC,↓aB,↓aE,↓aD,unA,ne_eq,not_true_eq_false,not_false_eq_true,fu,fW,fX,fY,oR,kQ,g0,g3,g4,g5,g6,g7,g8,lN,hcb,f2,ixa,ixb,ixf,ir,gr,hput,hle]
  exact ⟨n-(b+1),by omega,b+1,rfl,by omega,rfl,rfl,fin2,hne,hlt⟩
 ·rintro ⟨env,heap2,nx2,dm⟩ ⟨g0,g3,g4,g5,g6,gr,ov,hne,hlt,hdm⟩
  simp only at g0 g3 g4 g5 g6 gr ov hlt hdm
  subst hdm
  have hfr:=Frz.os (h:=heap2) (b:=rb) (sz:=1) (n:=n) (e:=4) (es:=(rwL E n a).map blE) (by rw [va];exact gr) (x6 _) (by simp [rwL])
  refine ⟨6,_,_,_,g6,hfr,?_⟩
  have ov2:aQ 85 1 (bN heap2 rb) nx2 v (((List.range a).map fun a=>rwL E n a).map bbE):=ov.keep (EQ _) fun k o h1 h2=>by
   rw [br (fun e=>hne (by rw [h1,e]))];exact h2
  obtain ⟨v',h4,n4,ea,og,hle,fr,id⟩:=ov2.grw (bytes:=24) (ns:=[bbE (rwL E n a)]) (rP _) (by simp [bbE]) (by simp;omega) (by simp [maxLen];omega)
  rw [bbE,blA] at ea
  simp -implicitDefEqProofs only [RA,ae,zp,↓reduceIte,reduceCtorEq,zq,zr,zs,zt,↓ay,↓az,↓ar,↓aq,↓aw,↓au,↓ak,↓aj,↓aC,↓aB,↓aE,↓aD,unA,ne_eq,not_true_eq_false,not_false_eq_true,g0,g3,g4,g5,g6,ea,f1]
  refine ⟨n-(a+1),by omega,a+1,v',rfl,by omega,rfl,rfl,?_⟩
  rw [List.range_succ,D7,D7];exact og
noncomputable def neK (G:Nat→List Nat) (a b:Nat):Nat→Bool
 | 0=>true
 | k+1=>if k≠b∧dc (Dm G k b)=true∧dc (Dm G k a)=false then false else neK G a b k
theorem rm (G:Nat→List Nat) (a b:Nat):∀ k,neK G a b k=true↔∀ c,c<k→c≠b→Dm G c b→Dm G c a
 | 0=>by simp [neK]
 | k+1=>by
  rw [neK]
  split
  ·rename_i h
   constructor
   ·intro h';cases h'
   ·intro h'
    have:=xR (h' k (by omega) h.1 (eX.1 h.2.1))
    rw [h.2.2] at this;cases this
  ·rename_i h
   rw [rm G a b k]
   constructor
   ·intro h' c hc hne hd
    by_cases e:c=k
    ·subst e
     cases hq:dc (Dm G c a)
     ·exact absurd ⟨hne,xR hd,hq⟩ h
     ·exact eX.1 hq
    ·exact h' c (by omega) hne hd
   ·intro h' c hc
    exact h' c (by omega)
theorem zR (G:Nat→List Nat) (n a b:Nat):dc (Nr G n a b)=(decide (a≠b)&&(dc (Dm G a b)&&neK G a b n)):=by
 rw [Bool.eq_iff_iff]
 simp only [EF,eX,decide_eq_true_eq,rm]
 exact Iff.rfl
theorem w16 (P:Pi) (f:Int) (ho:im P):Pure Tryz.prog 16 [.agg (piE P),.int .i64 f] (.tup [bT (dmL P f),.int .i64 (chE P f)]):=by
 refine Pure.frz fun nx=>AC.go aI is16 (by simp) ?_
 have w12':=w12 P f ho
 unfold piE at w12' ⊢
 simp -implicitDefEqProofs only [RA,ae,zp,↓reduceIte,reduceCtorEq,zq,zr,zs,zt,↓ay,↓az,↓ar,↓aq,↓aw,↓au,↓ak,↓aj,↓aC,↓aB,↓aE,↓aD,unA,ne_eq,not_true_eq_false,not_false_eq_true,A16,Dn]
 refine w12'.use fun k1 hk1=>?_
 rcases ah (chE P f=0) with ⟨c1,d1⟩|⟨c1,d1⟩
 case inr =>
  rw [uX c1]
  simp -implicitDefEqProofs only [RA,ae,zp,↓reduceIte,reduceCtorEq,zq,zr,zs,zt,↓ay,↓az,↓ar,↓aq,↓aw,↓au,↓ak,↓aj,↓aC,↓aB,↓aE,↓aD,unA,ne_eq,not_true_eq_false,not_false_eq_true,d1,R16]
  exact ⟨_,_,rfl,(Frz.nilS _ 1).head⟩
 obtain ⟨e0,e1,e2,g,hg,hgm⟩:=iF c1
 obtain ⟨gl,_,_,gd⟩:=kE e0
 have G:=gd g hgm
 rw [uW c1 hg,c1,mz c1 hg]
 rw [show (g.blocks.map fun b=>nxL b.to)=ntF g from rfl]
 have w41':=w41 G
 have hn60:=G.n2
 have lN:=km (ntF g)
 rw [iW] at lN
 obtain ⟨n,hn⟩:∃ n,n=g.blocks.length:=⟨_,rfl⟩
 rw [← hn] at w41' hn60 lN ⊢
 generalize nbG g=E at *
 have ixr:=fun a (h:a<n)=>x9 (Ae (G:=E) h)
 have ixc:=fun a x (h:x<n)=>x7 (zI (G:=E) (a:=a) h)
 generalize bbA (dtL E n)=DT at *
 simp -implicitDefEqProofs only [RA,ae,zp,↓reduceIte,reduceCtorEq,zq,zr,zs,zt,↓ay,↓az,↓ar,↓aq,↓aw,↓au,↓ak,↓aj,↓aC,↓aB,↓aE,↓aD,unA,ne_eq,not_true_eq_false,not_false_eq_true]
 refine w41'.use fun k2 hk2=>?_
 simp -implicitDefEqProofs only [RA,ae,zp,↓reduceIte,reduceCtorEq,zq,zr,zs,zt,↓ay,↓az,↓ar,↓aq,↓aw,↓au,↓ak,↓aj,↓aC,↓aB,↓aE,↓aD,unA,ne_eq,not_true_eq_false,not_false_eq_true,lN]
 refine aJ (fun q st=>∃ (b:Nat) (v:AV),q=n-b∧b≤n∧ai st.env 6=some (ntA (ntF g))∧ai st.env 8=some DT∧ai st.env 9=some v∧ai st.env 10=some (.int .i64 b)∧aQ 3 1 st.heap st.nx v (((List.range b).map fun b=>nrK E n b n).map inE)∧st.dm=[]) (n:=n) aI
  ⟨0,.nilS,rfl,by omega,by simp [ai],by simp [ai],by simp [ai],by simp [ai],.inl ⟨rfl,rfl⟩,rfl⟩ ?_
 rintro q ⟨env,heap,nx',dm⟩ ⟨b,v,rfl,hb,g6,g8,g9,g10,ov,hdm⟩
 simp only at g6 g8 g9 g10 ov hdm
 subst hdm
 have f1:=wS (i:=b) (by omega)
 by_cases hc:(b:Int)<(n:Int)
 case neg =>
  have e:b=n:=by omega
  subst e
  simp -implicitDefEqProofs only [RA,ae,zp,↓reduceIte,reduceCtorEq,zq,zr,zs,zt,↓ay,↓az,↓ar,↓aq,↓aw,↓au,↓ak,↓aj,↓aC,↓aB,↓aE,↓aD,unA,ne_eq,not_true_eq_false,not_false_eq_true,wF,qK,g6,g8,g9,g10,lN,hc,R16]
  obtain ⟨h2,hf⟩:=ov.frz (eo _)
  exact ⟨_,_,rfl,hf.head⟩
 have hbn:b<n:=by omega
 simp -implicitDefEqProofs only [RA,ae,zp,↓reduceIte,reduceCtorEq,zq,zr,zs,zt,↓ay,↓az,↓ar,↓aq,↓aw,↓au,↓ak,↓aj,↓aC,↓aB,↓aE,↓aD,unA,ne_eq,not_true_eq_false,not_false_eq_true,wF,qK,g6,g8,g9,g10,lN,hc]
 refine aJ (fun q st=>∃ (a:Nat),q=n-a∧a≤n∧ai st.env 6=some (ntA (ntF g))∧ai st.env 8=some DT∧ai st.env 9=some v∧ai st.env 10=some (.int .i64 b)∧ai st.env 11=some (.int .i64 (nrK E n b a))∧ai st.env 12=some (.int .i64 a)∧aQ 3 1 st.heap st.nx v (((List.range b).map fun b=>nrK E n b n).map inE)∧st.dm=[]) (n:=n) aI
  ⟨0,rfl,by omega,by simp [ai,g6],by simp [ai,g8],by simp [ai,g9],by simp [ai,g10],by simp [ai,nrK],by simp [ai],ov,rfl⟩ ?_
 clear g6 g8 g9 g10 ov
 rintro q ⟨env,heap,nx',dm⟩ ⟨a,rfl,ha,g6,g8,g9,g10,g11,g12,ov,hdm⟩
 simp only at g6 g8 g9 g10 g11 g12 ov hdm
 subst hdm
 have f2:=wS (i:=a) (by omega)
 by_cases hca:(a:Int)<(n:Int)
 case neg =>
  have e:a=n:=by omega
  subst e
  obtain ⟨v',h4,n4,ea,og,hle,fr,id⟩:=ov.grw (bytes:=8) (ns:=[inE (nrK E a b a)]) (eo _) (by simp [inE]) (by simp;omega) (by simp [maxLen];omega)
  rw [inE] at ea
  simp -implicitDefEqProofs only [RA,ae,zp,↓reduceIte,reduceCtorEq,zq,zr,zs,zt,↓ay,↓az,↓ar,↓aq,↓aw,↓au,↓ak,↓aj,↓aC,↓aB,↓aE,↓aD,unA,ne_eq,not_true_eq_false,not_false_eq_true,oT,kS,g6,g8,g9,g10,g11,g12,lN,hca,ea,f1]
  refine ⟨a-(b+1),by omega,b+1,v',rfl,by omega,rfl,rfl,?_⟩
  rw [List.range_succ,D7,D7];exact og
 have han:a<n:=by omega
 have hnf:=zR E n a b
 have hnk:nrK E n b (a+1)=if dc (Nr E n a b)=true then (a:Int) else nrK E n b a:=rfl
 rw [hnf] at hnk
 have ixa:=ixr a han
 have ixab:=ixc a b hbn
 rcases ah ((a:Int)=(b:Int)) with ⟨j1,i1⟩|⟨j1,i1⟩
 ·rw [decide_eq_false (p:=a≠b) (by omega),EH,if_neg (by simp)] at hnk
  simp -implicitDefEqProofs only [RA,ae,zp,↓reduceIte,reduceCtorEq,zq,zr,zs,zt,↓ay,↓az,↓ar,↓aq,↓aw,↓au,↓ak,↓aj,↓aC,↓aB,↓aE,↓aD,unA,ne_eq,not_true_eq_false,not_false_eq_true,oT,kS,g6,g8,g9,g10,g11,g12,lN,hca,i1,f2]
  exact ⟨n-(a+1),by omega,a+1,rfl,by omega,by rw [hnk],rfl,ov⟩
 rw [decide_eq_true (p:=a≠b) (by omega),EG] at hnk
 cases hd:dc (Dm E a b)
 ·rw [hd] at ixab hnk
  rw [EH,if_neg (by simp)] at hnk
  simp -implicitDefEqProofs only [RA,ae,zp,↓reduceIte,reduceCtorEq,zq,zr,zs,zt,↓ay,↓az,↓ar,↓aq,↓aw,↓au,↓ak,↓aj,↓aC,↓aB,↓aE,↓aD,unA,ne_eq,not_true_eq_false,not_false_eq_true,oT,kS,g6,g8,g9,g10,g11,g12,lN,hca,i1,ixa,ixab,f2]
  exact ⟨n-(a+1),by omega,a+1,rfl,by omega,by rw [hnk],rfl,ov⟩
 rw [hd] at ixab hnk
 rw [EG] at hnk
 simp -implicitDefEqProofs only [RA,ae,zp,↓reduceIte,reduceCtorEq,zq,zr,zs,zt,↓ay,↓az,↓ar,↓aq,↓aw,↓au,↓ak,↓aj,↓aC,↓aB,↓aE,↓aD,unA,ne_eq,not_true_eq_false,not_false_eq_true,oT,kS,g6,g8,g9,g10,g11,g12,lN,hca,i1,ixa,ixab]
 refine aJ (fun q st=>∃ (c:Nat),q=n-c∧c≤n∧ai st.env 6=some (ntA (ntF g))∧ai st.env 8=some DT∧ai st.env 9=some v∧ai st.env 10=some (.int .i64 b)∧ai st.env 11=some (.int .i64 (nrK E n b a))∧ai st.env 12=some (.int .i64 a)∧ai st.env 13=some (.bool (neK E a b c))∧ai st.env 14=some (.int .i64 c)∧aQ 3 1 st.heap st.nx v (((List.range b).map fun b=>nrK E n b n).map inE)∧st.dm=[]) (n:=n) aI
  ⟨0,rfl,by omega,by simp [ai,g6],by simp [ai,g8],by simp [ai,g9],by simp [ai,g10],by simp [ai,g11],by simp [ai,g12],by simp [ai,neK],by simp [ai],ov,rfl⟩ ?_
 clear g6 g8 g9 g10 g11 g12 ov
 rintro q ⟨env,heap,nx',dm⟩ ⟨c,rfl,hcc,g6,g8,g9,g10,g11,g12,g13,g14,ov,hdm⟩
 simp only at g6 g8 g9 g10 g11 g12 g13 g14 ov hdm
 subst hdm
 have f3:=wS (i:=c) (by omega)
 by_cases hcn:(c:Int)<(n:Int)
 case neg =>
  have e:c=n:=by omega
  subst e
  cases hk:neK E a b c
  ·rw [hk] at hnk g13
   rw [if_neg (by simp)] at hnk
   simp -implicitDefEqProofs only [RA,ae,zp,↓reduceIte,reduceCtorEq,zq,zr,zs,zt,↓ay,↓az,↓ar,↓aq,↓aw,↓au,↓ak,↓aj,↓aC,↓aB,↓aE,↓aD,unA,ne_eq,not_true_eq_false,not_false_eq_true,kT,iK,g6,g8,g9,g10,g11,g12,g13,g14,lN,hcn,f2]
   exact ⟨c-(a+1),by omega,a+1,rfl,by omega,by rw [hnk],rfl,ov⟩
  ·rw [hk] at hnk g13
   rw [if_pos rfl] at hnk
   simp -implicitDefEqProofs only [RA,ae,zp,↓reduceIte,reduceCtorEq,zq,zr,zs,zt,↓ay,↓az,↓ar,↓aq,↓aw,↓au,↓ak,↓aj,↓aC,↓aB,↓aE,↓aD,unA,ne_eq,not_true_eq_false,not_false_eq_true,kT,iK,g6,g8,g9,g10,g11,g12,g13,g14,lN,hcn,f2]
   exact ⟨c-(a+1),by omega,a+1,rfl,by omega,by rw [hnk],rfl,ov⟩
 have hcN:c<n:=by omega
 have ixn:=ixr c hcN
 have ixcb:=ixc c b hbn
 have ixca:=ixc c a han
 have hne:neK E a b (c+1)=if c≠b∧dc (Dm E c b)=true∧dc (Dm E c a)=false then false else neK E a b c:=rfl
 rcases ah ((c:Int)=(b:Int)) with ⟨j3,i3⟩|⟨j3,i3⟩
 ·rw [if_neg (fun h=>h.1 (by omega))] at hne
  simp -implicitDefEqProofs only [RA,ae,zp,↓reduceIte,reduceCtorEq,zq,zr,zs,zt,↓ay,↓az,↓ar,↓aq,↓aw,↓au,↓ak,↓aj,↓aC,↓aB,↓aE,↓aD,unA,ne_eq,not_true_eq_false,not_false_eq_true,kT,iK,g6,g8,g9,g10,g11,g12,g13,g14,lN,hcn,i3,f3]
  exact ⟨n-(c+1),by omega,c+1,rfl,by omega,by rw [hne],rfl,ov⟩
 cases h1:dc (Dm E c b)
 ·rw [h1] at ixcb
  rw [if_neg (fun h=>by rw [h1] at h;cases h.2.1)] at hne
  simp -implicitDefEqProofs only [RA,ae,zp,↓reduceIte,reduceCtorEq,zq,zr,zs,zt,↓ay,↓az,↓ar,↓aq,↓aw,↓au,↓ak,↓aj,↓aC,↓aB,↓aE,↓aD,unA,ne_eq,not_true_eq_false,not_false_eq_true,kT,iK,g6,g8,g9,g10,g11,g12,g13,g14,lN,hcn,i3,ixn,ixcb,f3]
  exact ⟨n-(c+1),by omega,c+1,rfl,by omega,by rw [hne],rfl,ov⟩
 rw [h1] at ixcb
 cases h2:dc (Dm E c a)
 ·rw [h2] at ixca
  rw [if_pos ⟨by omega,h1,h2⟩] at hne
  simp -implicitDefEqProofs only [RA,ae,zp,↓reduceIte,reduceCtorEq,zq,zr,zs,zt,↓ay,↓az,↓ar,↓aq,↓aw,↓au,↓ak,↓aj,↓aC,↓aB,↓aE,↓aD,unA,ne_eq,not_true_eq_false,not_false_eq_true,kT,iK,g6,g8,g9,g10,g11,g12,g13,g14,lN,hcn,i3,ixn,ixcb,ixca,f3]
  exact ⟨n-(c+1),by omega,c+1,rfl,by omega,by rw [hne],rfl,ov⟩
 ·rw [h2] at ixca
  rw [if_neg (fun h=>by rw [h2] at h;cases h.2.2)] at hne
  simp -implicitDefEqProofs only [RA,ae,zp,↓reduceIte,reduceCtorEq,zq,zr,zs,zt,↓ay,↓az,↓ar,↓aq,↓aw,↓au,↓ak,↓aj,↓aC,↓aB,↓aE,↓aD,unA,ne_eq,not_true_eq_false,not_false_eq_true,kT,iK,g6,g8,g9,g10,g11,g12,g13,g14,lN,hcn,i3,ixn,ixcb,ixca,f3]
  exact ⟨n-(c+1),by omega,c+1,rfl,by omega,by rw [hne],rfl,ov⟩
theorem w71:∀ (m:Nat) (t:Tm),szT t≤m→m≤4000000→Pure Tryz.prog 71 [.agg (tmE t),.agg (tmE t)] (.bool true):=by
 intro m
 induction m with
 | zero=>intro x hx;have:=bK x;omega
 | succ m ih =>
  rintro ⟨k,w,b,n,lo,s⟩ hm hM
  refine Pure.of fun nx=>AC.go aI is71 (by simp) ?_
  simp only [szT] at hm
  have hsl:=bY s
  have e0:tmE (.mk k w b n lo s)=[.int .u8 k,.int .i64 w,.int .u64 b,.str n,.int .i64 lo,bg s]:=by rw [aY];rfl
  rw [e0]
  have lv:=bA s
  have n1:(nx+1=nx)=False:=eq_false (by omega)
  have bn:(n==n)=true:=by simp
  simp -implicitDefEqProofs only [RA,ae,zp,↓reduceIte,reduceCtorEq,zq,zr,zs,zt,A71,CH,n1,lv,↓ak,↓aj,aG,aL,bn]
  refine aJ (fun q st=>∃ i:Nat,q=s.length-i∧i≤s.length∧ai st.env 2=some (.op nx 0)∧ai st.env 3=some (.op (nx+1) 0)∧ai st.env 5=some (.int .i64 i)∧aA st.heap nx=some (.cells [.int .u8 k,.int .i64 w,.int .u64 b,.str n,.int .i64 lo,bg s])∧aA st.heap (nx+1)=some (.cells [.int .u8 k,.int .i64 w,.int .u64 b,.str n,.int .i64 lo,bg s])∧st.dm=[]) (n:=s.length) aI
   ⟨0,rfl,by omega,by simp [ai],by simp [ai],by simp [ai],by simp [aA],by simp [aA],rfl⟩ ?_
  rintro q ⟨env,heap,nx',dm⟩ ⟨i,rfl,hi,g2,g3,g5,gx,gy,hdm⟩
  simp only at g2 g3 g5 gx gy hdm
  subst hdm
  have f1:=wS (i:=i) (by omega)
  by_cases hc:(i:Int)<(s.length:Int)
  case neg =>
   simp -implicitDefEqProofs only [RA,ae,zp,↓reduceIte,reduceCtorEq,zq,zr,zs,zt,vM,p9,g2,g3,g5,gx,gy,lv,hc,R71]
  have hr:=DN (show i<s.length by omega)
  generalize s[i]=r at hr
  have hmem:=DO hr
  have m1:=cb hmem
  have ix:=bf hr
  simp -implicitDefEqProofs only [RA,ae,zp,↓reduceIte,reduceCtorEq,zq,zr,zs,zt,vM,p9,g2,g3,g5,gx,gy,lv,hc,ix,aX,aV]
  refine (ih r (by omega) (by omega)).use fun n3 hn3=>?_
  simp -implicitDefEqProofs only [RA,ae,zp,↓reduceIte,reduceCtorEq,zq,zr,zs,zt,g2,g3,g5,gx,gy,unA,f1]
  refine ⟨s.length-(i+1),by omega,i+1,?_⟩
  repeat' apply And.intro
  all_goals first|assumption|rfl|omega|(simp [ai, *];done)
theorem w52 (l:List Tm) (ho:kj l):Pure Tryz.prog 52 [bg l,bg l] (.bool true):=by
 refine Pure.of fun nx=>AC.go aI is52 (by simp) ?_
 obtain ⟨hl,hok⟩:=ho
 have lv:=bA l
 have d0:((l.length:Int)=(l.length:Int))=True:=eq_true rfl
 simp -implicitDefEqProofs only [RA,ae,zp,↓reduceIte,reduceCtorEq,zq,zr,zs,zt,A52,CW,lv,d0]
 refine aJ (fun q st=>∃ i:Nat,q=l.length-i∧i≤l.length∧ai st.env 0=some (bg l)∧ai st.env 1=some (bg l)∧ai st.env 5=some (.int .i64 i)∧st.dm=[]) (n:=l.length) aI
  ⟨0,rfl,by omega,by simp [ai],by simp [ai],by simp [ai],rfl⟩ ?_
 rintro q ⟨env,heap,nx',dm⟩ ⟨i,rfl,hi,g0,g1,g5,hdm⟩
 simp only at g0 g1 g5 hdm
 subst hdm
 have f1:=wS (i:=i) (by omega)
 by_cases hc:(i:Int)<(l.length:Int)
 case neg =>
  simp -implicitDefEqProofs only [RA,ae,zp,↓reduceIte,reduceCtorEq,zq,zr,zs,zt,v7,qj,g0,g1,g5,lv,hc,R52]
 have hr:=DN (show i<l.length by omega)
 generalize l[i]=r at hr
 have ix:=bf hr
 simp -implicitDefEqProofs only [RA,ae,zp,↓reduceIte,reduceCtorEq,zq,zr,zs,zt,v7,qj,g0,g1,g5,lv,hc,ix,aX,aV]
 refine (w71 4000000 r (hok r (DO hr)).1 (EQ _)).use fun n1 hn1=>?_
 simp -implicitDefEqProofs only [RA,ae,zp,↓reduceIte,reduceCtorEq,zq,zr,zs,zt,g0,g1,g5,unA,f1]
 exact ⟨l.length-(i+1),by omega,i+1,rfl,by omega,rfl⟩
theorem w35 (b:Bk) (ho:okK b):Pure Tryz.prog 35 [.agg (bkE b),.agg (bkE b)] (.bool true):=by
 refine Pure.of fun nx=>AC.go aI is35 (by simp) ?_
 obtain ⟨hs,h1,h2,h3⟩:=ho
 have lv:=fh b.steps
 have li:=eh b.to
 have n1:(nx+1=nx)=False:=eq_false (by omega)
 have bn:∀ n:Nm,(n != n)=false:=fun n=>by simp
 have bm:∀ n:Nm,(n==n)=true:=fun n=>by simp
 rw [fL]
 simp -implicitDefEqProofs only [RA,ae,zp,↓reduceIte,reduceCtorEq,zq,zr,zs,zt,A35,Da,n1,lv,li,↓ak,↓aj,↓aE,↓aD,↓aC,↓aB,aG,aL,bn,bm]
 refine (w52 b.terms h2).use fun n2 hn2=>?_
 simp -implicitDefEqProofs only [RA,ae,zp,↓reduceIte,reduceCtorEq,zq,zr,zs,zt,unA]
 generalize hC:([fD b.steps,AV.int .u8 b.kind,.str b.func,bg b.terms,bT b.to]:List AV)=C
 refine aJ (fun q st=>∃ i:Nat,q=b.to.length-i∧i≤b.to.length∧ai st.env 2=some (.op nx 0)∧ai st.env 3=some (.op (nx+1) 0)∧ai st.env 5=some (.int .i64 i)∧aA st.heap nx=some (.cells C)∧aA st.heap (nx+1)=some (.cells C)∧nx+1<st.nx∧st.dm=[]) (n:=b.to.length) aI
  ⟨0,rfl,by omega,by simp [ai],by simp [ai],by simp [ai],by simp [af,n1],by simp [af],by simp only;omega,rfl⟩ ?_
 rintro q ⟨env,heap,nx',dm⟩ ⟨i,rfl,hi,g2,g3,g5,gx,gy,hlt,hdm⟩
 simp only at g2 g3 g5 gx gy hlt hdm
 subst hdm
 have f1:=wS (i:=i) (by omega)
 by_cases hc:(i:Int)<(b.to.length:Int)
 case pos =>
  have hr:=DN (show i<b.to.length by omega)
  generalize b.to[i]=r at hr
  have ix:=ej hr
  have ie:inE r=[.int .i64 r]:=rfl
  subst hC
  have d1:(r=r)=True:=eq_true rfl
  simp -implicitDefEqProofs only [RA,ae,zp,↓reduceIte,reduceCtorEq,zq,zr,zs,zt,ws,qz,g2,g3,g5,gx,gy,li,hc,ix,ie,d1,f1]
  exact ⟨b.to.length-(i+1),by omega,i+1,rfl,by omega,rfl,hlt⟩
 subst hC
 simp -implicitDefEqProofs only [RA,ae,zp,↓reduceIte,reduceCtorEq,zq,zr,zs,zt,ws,qz,g2,g3,g5,gx,gy,li,hc]
 generalize hC:([fD b.steps,AV.int .u8 b.kind,.str b.func,bg b.terms,bT b.to]:List AV)=C at gx gy
 refine aJ (fun q st=>∃ i:Nat,q=b.steps.length-i∧i≤b.steps.length∧ai st.env 2=some (.op nx 0)∧ai st.env 3=some (.op (nx+1) 0)∧ai st.env 6=some (.int .i64 i)∧aA st.heap nx=some (.cells C)∧aA st.heap (nx+1)=some (.cells C)∧nx+1<st.nx∧st.dm=[]) (n:=b.steps.length) aI
  ⟨0,rfl,by omega,by simp [ai,g2],by simp [ai,g3],by simp [ai],gx,gy,hlt,rfl⟩ ?_
 clear g2 g3 g5 gx gy hlt hi hc f1
 rintro q ⟨env,heap,nx',dm⟩ ⟨i,rfl,hi,g2,g3,g6,gx,gy,hlt,hdm⟩
 simp only at g2 g3 g6 gx gy hlt hdm
 subst hdm;subst hC
 have f1:=wS (i:=i) (by omega)
 by_cases hc:(i:Int)<(b.steps.length:Int)
 case neg =>
  simp -implicitDefEqProofs only [RA,ae,zp,↓reduceIte,reduceCtorEq,zq,zr,zs,zt,wq,qy,g2,g3,g6,gx,gy,lv,hc,R35]
 have hr:=DN (show i<b.steps.length by omega)
 generalize b.steps[i]=r at hr
 have ix:=ii hr
 rw [iq] at ix
 have a1:(nx'+1=nx')=False:=eq_false (by omega)
 have a2:(nx'=nx)=False:=eq_false (by omega)
 have a3:(nx'=nx+1)=False:=eq_false (by omega)
 have a4:(nx'+1=nx)=False:=eq_false (by omega)
 have a5:(nx'=nx'+1)=False:=eq_false (by omega)
 simp -implicitDefEqProofs only [RA,ae,zp,↓reduceIte,reduceCtorEq,zq,zr,zs,zt,wq,qy,g2,g3,g6,gx,gy,lv,hc,ix,a1,a2,a3,a4,a5,↓ak,↓aj,aG,aL,bn,bm]
 refine (w52 r.terms (h1 r (DO hr))).use fun n3 hn3=>?_
 simp -implicitDefEqProofs only [RA,ae,zp,↓reduceIte,reduceCtorEq,zq,zr,zs,zt,g2,g3,g6,gx,gy,unA,a2,a3,a4,f1]
 refine ⟨b.steps.length-(i+1),by omega,i+1,rfl,by omega,rfl,by omega⟩
theorem w10 (l:List Fn) (hl:l.length≤4000000) (ho:∀ f∈l,okF f):Pure Tryz.prog 10 [.agg [bU l],.agg [bU l]] (.bool true):=by
 refine Pure.of fun nx=>AC.go aI is10 (by simp) ?_
 have lv:=cw l
 have n1:(nx+1=nx)=False:=eq_false (by omega)
 have bm:∀ n:Nm,(n==n)=true:=fun n=>by simp
 have bn:∀ n:Nm,(n != n)=false:=fun n=>by simp
 simp -implicitDefEqProofs only [RA,ae,zp,↓reduceIte,reduceCtorEq,zq,zr,zs,zt,A10,DC,n1,lv,↓ay,↓az]
 refine aJ (fun q st=>∃ i:Nat,q=l.length-i∧i≤l.length∧ai st.env 2=some (.op nx 0)∧ai st.env 3=some (.op (nx+1) 0)∧ai st.env 5=some (.int .i64 i)∧aA st.heap nx=some (.cells [bU l])∧aA st.heap (nx+1)=some (.cells [bU l])∧nx+1<st.nx∧st.dm=[]) (n:=l.length) aI
  ⟨0,rfl,by omega,by simp [ai],by simp [ai],by simp [ai],by simp [af,n1],by simp [af],by simp only;omega,rfl⟩ ?_
 rintro q ⟨env,heap,nx',dm⟩ ⟨i,rfl,hi,g2,g3,g5,gx,gy,hlt,hdm⟩
 simp only at g2 g3 g5 gx gy hlt hdm
 subst hdm
 have f1:=wS (i:=i) (by omega)
 by_cases hc:(i:Int)<(l.length:Int)
 case neg =>
  simp -implicitDefEqProofs only [RA,ae,zp,↓reduceIte,reduceCtorEq,zq,zr,zs,zt,wO,qR,g2,g3,g5,gx,gy,lv,hc,R10]
 have hr:=DN (show i<l.length by omega)
 generalize l[i]=f at hr
 have hof:=ho f (DO hr)
 have ix:=cC hr
 have c32:=w19 f hof.2.1 hof.2.2.1
 obtain ⟨_,o1,o2,_,o3,o4⟩:=hof
 rw [bG] at ix c32
 have a1:(nx'+1=nx')=False:=eq_false (by omega)
 have a2:(nx'=nx)=False:=eq_false (by omega)
 have a3:(nx'=nx+1)=False:=eq_false (by omega)
 have a4:(nx'+1=nx)=False:=eq_false (by omega)
 have a5:(nx'=nx'+1)=False:=eq_false (by omega)
 have lp:=ce f.params
 have lo:=ce f.locals
 have lb:=dn f.blocks
 simp -implicitDefEqProofs only [RA,ae,zp,↓reduceIte,reduceCtorEq,zq,zr,zs,zt,wO,qR,g2,g3,g5,gx,gy,lv,hc,ix,a1,a2,a3,a4,a5,↓ar,↓aq,↓aw,↓au,aG,aL,bn,bm,lp,lo,lb]
 refine c32.use fun n2 hn2=>?_
 simp -implicitDefEqProofs only [RA,ae,zp,↓reduceIte,reduceCtorEq,zq,zr,zs,zt,a1,a2,a3,a4,a5]
 refine c32.use fun n3 hn3=>?_
 simp -implicitDefEqProofs only [RA,ae,zp,↓reduceIte,reduceCtorEq,zq,zr,zs,zt,a1,a2,a3,a4,a5]
 have lxy:=ce (f.params++f.locals)
 generalize hX:f.params++f.locals=X at lxy
 have hXl:X.length≤8000000:=by rw [← hX,List.length_append];omega
 generalize hC:([.str f.name,bh f.params,.int .i64 f.result,bh f.locals,cg f.blocks]:List AV)=C
 generalize hH:((nx'+1,AO.cells C)::(nx',.cells C)::(nx'+1,.cells [.str [],.nilS,.int .i64 0,.nilS,.nilS])::(nx',.cells [.str [],.nilS,.int .i64 0,.nilS,.nilS])::heap:Heap)=H1
 have kx:aA H1 nx=some (.cells [bU l]):=by rw [← hH];simp only [af];rw [if_neg (by omega),if_neg (by omega),if_neg (by omega),if_neg (by omega)];exact gx
 have ky:aA H1 (nx+1)=some (.cells [bU l]):=by rw [← hH];simp only [af];rw [if_neg (by omega),if_neg (by omega),if_neg (by omega),if_neg (by omega)];exact gy
 have k6:aA H1 nx'=some (.cells C):=by rw [← hH];simp [af]
 have k7:aA H1 (nx'+1)=some (.cells C):=by rw [← hH];simp [af]
 clear hH
 refine aJ (fun q st=>∃ j:Nat,q=X.length-j∧j≤X.length∧ai st.env 2=some (.op nx 0)∧ai st.env 3=some (.op (nx+1) 0)∧ai st.env 5=some (.int .i64 i)∧ai st.env 6=some (.op nx' 0)∧ai st.env 7=some (.op (nx'+1) 0)∧ai st.env 8=some (bh X)∧ai st.env 9=some (bh X)∧ai st.env 10=some (.int .i64 j)∧st.heap=H1∧nx'+1<st.nx∧st.dm=[]) (n:=X.length) aI
  ⟨0,rfl,by omega,by simp [ai,g2],by simp [ai,g3],by simp [ai,g5],by simp [ai],by simp [ai],by simp [ai],by simp [ai],by simp [ai],rfl,by simp only;omega,rfl⟩ ?_
 clear g2 g3 g5
 rintro q ⟨env,hp,nx2,dm⟩ ⟨j,rfl,hj,g2,g3,g5,g6,g7,g8,g9,g10,hh,hlt2,hdm⟩
 simp only at g2 g3 g5 g6 g7 g8 g9 g10 hh hlt2 hdm
 subst hdm;subst hh
 have f2:=wS (i:=j) (by omega)
 by_cases hd:(j:Int)<(X.length:Int)
 case pos =>
  have hr2:=DN (show j<X.length by omega)
  generalize X[j]=r at hr2
  have iy:=eI hr2
  have rl:=ph r
  have rt:=mr r
  have he:eqL [.str,.int] (pmE r) (pmE r)=some true:=by simp [eqL,eqC,pmE]
  simp -implicitDefEqProofs only [RA,ae,zp,↓reduceIte,reduceCtorEq,zq,zr,zs,zt,wQ,qT,g2,g3,g5,g6,g7,g8,g9,g10,lxy,hd,iy,rl,rt,he,f2]
  exact ⟨X.length-(j+1),by omega,j+1,rfl,by omega,rfl,hlt2⟩
 simp -implicitDefEqProofs only [RA,ae,zp,↓reduceIte,reduceCtorEq,zq,zr,zs,zt,wQ,qT,g8,g10,lxy,hd]
 refine aJ (fun q st=>∃ j:Nat,q=f.blocks.length-j∧j≤f.blocks.length∧ai st.env 2=some (.op nx 0)∧ai st.env 3=some (.op (nx+1) 0)∧ai st.env 5=some (.int .i64 i)∧ai st.env 6=some (.op nx' 0)∧ai st.env 7=some (.op (nx'+1) 0)∧ai st.env 11=some (.int .i64 j)∧st.heap=hp∧nx'+1<st.nx∧st.dm=[]) (n:=f.blocks.length) aI
  ⟨0,rfl,by omega,by simp [ai,g2],by simp [ai,g3],by simp [ai,g5],by simp [ai,g6],by simp [ai,g7],by simp [ai],rfl,hlt2,rfl⟩ ?_
 clear g2 g3 g5 g6 g7 g8 g9 g10 hlt2 hd hj f2
 rintro q ⟨env,hp2,nx2,dm⟩ ⟨j,rfl,hj,g2,g3,g5,g6,g7,g11,hh,hlt2,hdm⟩
 simp only at g2 g3 g5 g6 g7 g11 hh hlt2 hdm
 subst hdm;subst hh;subst hC
 have f2:=wS (i:=j) (by omega)
 by_cases hd:(j:Int)<(f.blocks.length:Int)
 case neg =>
  simp -implicitDefEqProofs only [RA,ae,zp,↓reduceIte,reduceCtorEq,zq,zr,zs,zt,wP,qS,g2,g3,g5,g6,g7,g11,k6,k7,lb,hd,f1]
  exact ⟨l.length-(i+1),by omega,i+1,rfl,by omega,rfl,kx,ky,by omega⟩
 have hr2:=DN (show j<f.blocks.length by omega)
 generalize f.blocks[j]=b at hr2
 have iy:=eq hr2
 have ob1:=o4 b (DO hr2)
 have rl:=mO b
 have rt:=rN b
 simp -implicitDefEqProofs only [RA,ae,zp,↓reduceIte,reduceCtorEq,zq,zr,zs,zt,wP,qS,g2,g3,g5,g6,g7,g11,k6,k7,lb,hd,iy,rl,rt]
 refine (w35 b ob1).use fun n4 hn4=>?_
 simp -implicitDefEqProofs only [RA,ae,zp,↓reduceIte,reduceCtorEq,zq,zr,zs,zt,g2,g3,g5,g6,g7,g11,unA,f2]
 exact ⟨f.blocks.length-(j+1),by omega,j+1,rfl,by omega,rfl,by omega⟩
theorem w62:∀ (N:Nat) (x:Tm),szT x≤N→N≤4000000→Pure Tryz.prog 62 [.agg (tmE x)] (.agg (tmE x)):=by
 intro N
 induction N with
 | zero=>intro x hx;have:=bK x;omega
 | succ N ih =>
  rintro ⟨k,w,b,n,lo,s⟩ hm hM
  refine Pure.frz fun nx=>AC.go aI is62 (by simp) ?_
  simp only [szT] at hm
  have hsl:=bY s
  have lv:=bA s
  have e0:=gu k w b n lo s
  have n1:(nx+1=nx)=False:=eq_false (by omega)
  have n2:(nx+1+1=nx)=False:=eq_false (by omega)
  have n3:(nx+1+1=nx+1)=False:=eq_false (by omega)
  have n4:(nx+1=nx+1+1)=False:=eq_false (by omega)
  rw [e0]
  simp -implicitDefEqProofs only [RA,ae,zp,↓reduceIte,reduceCtorEq,zq,zr,zs,zt,↓ay,↓az,↓ar,↓aq,↓aw,↓au,↓ak,↓aj,↓aC,↓aB,↓aE,↓aD,unA,ne_eq,not_true_eq_false,not_false_eq_true,A62,CN,n1,n2,n3]
  refine aJ (fun q st=>∃ (i:Nat) (v:AV),q=s.length-i∧i≤s.length∧ai st.env 1=some (.op nx 0)∧ai st.env 2=some (.op (nx+1) 0)∧ai st.env 3=some (.op (nx+1+1) 0)∧ai st.env 4=some (.int .i64 i)∧aA st.heap nx=some (.cells [.int .u8 k,.int .i64 w,.int .u64 b,.str n,.int .i64 lo,bg s])∧aA st.heap (nx+1)=some (.cells [.int .u8 0,.int .i64 0,.int .u64 0,.str [],.int .i64 0,.nilS])∧aA st.heap (nx+1+1)=some (.cells [.int .u8 k,.int .i64 w,.int .u64 b,.str n,.int .i64 lo,v])∧aQ 119 6 st.heap st.nx v ((s.take i).map tmE)∧nx+1+1<st.nx∧(∀ c,aM v=some c→nx+1+1<c)∧st.dm=[]) (n:=s.length) aI
   ⟨0,.nilS,rfl,by omega,by simp [ai],by simp [ai],by simp [ai],by simp [ai],by simp [aA,n2,n1],by simp [aA,n3],by simp [aA],.inl ⟨rfl,rfl⟩,by simp only;omega,by simp [aM],rfl⟩ ?_
  rintro q ⟨env,heap,nx',dm⟩ ⟨i,v,rfl,hi,g1,g2,g3,g4,gx,gy,gz,ov,hlt,hv,hdm⟩
  simp only at g1 g2 g3 g4 gx gy gz ov hlt hdm
  subst hdm
  have f1:=wS (i:=i) (by omega)
  by_cases hc:(i:Int)<(s.length:Int)
  case neg =>
   rw [show s.take i=s from DQ (by omega)] at ov
   simp -implicitDefEqProofs only [RA,ae,zp,↓reduceIte,reduceCtorEq,zq,zr,zs,zt,↓ay,↓az,↓ar,↓aq,↓aw,↓au,↓ak,↓aj,↓aC,↓aB,↓aE,↓aD,unA,ne_eq,not_true_eq_false,not_false_eq_true,vU,qf,g1,g2,g3,g4,gx,gy,gz,lv,hc,R62,n4]
   obtain ⟨h2,hf⟩:=((ov.keep (h':=(nx+1,AO.cells [.int .u8 k,.int .i64 w,.int .u64 b,.str n,.int .i64 lo,v])::heap) (EQ _) fun c o h1 h2=>by rw [af,if_neg (by have:=hv c h1;omega)];exact h2)).frz (jT _)
   exact ⟨_,h2,rfl,.agg (.keep rfl (.keep rfl (.keep rfl (.keep rfl (.keep rfl (.cons hf rfl (.nil _)))))))⟩
  have hr:=DN (show i<s.length by omega)
  generalize s[i]=r at hr
  have hmem:=DO hr
  have m1:=cb hmem
  have ix:=bf hr
  have rl:=aX r
  have rt:=aV r
  have er:=aY r
  have w:=ih r (by omega) (by omega)
  rw [er] at ix rl rt w
  simp -implicitDefEqProofs only [RA,ae,zp,↓reduceIte,reduceCtorEq,zq,zr,zs,zt,↓ay,↓az,↓ar,↓aq,↓aw,↓au,↓ak,↓aj,↓aC,↓aB,↓aE,↓aD,unA,ne_eq,not_true_eq_false,not_false_eq_true,vU,qf,g1,g2,g3,g4,gx,gy,gz,lv,hc,ix,rl,rt]
  refine w.use fun n5 hn5=>?_
  obtain ⟨v',h4,n6,ea,og,hle,fr,id⟩:=(ov.mono hn5).grw (bytes:=72) (ns:=[tmE r]) (jT _) (by simp [aX]) (by simp;omega) (by simp [maxLen];omega)
  rw [er] at ea
  obtain ⟨vc,vp⟩:=cJ og
  have hnv:∀ c,c≤nx+1+1→aM v≠some c:=fun c h1 h2=>by have:=hv c h2;omega
  have gx4:=fr nx _ (by omega) gx (hnv _ (by omega))
  have gy4:=fr (nx+1) _ (by omega) gy (hnv _ (by omega))
  have gz4:=fr (nx+1+1) _ (by omega) gz (hnv _ (by omega))
  have hnv':∀ c,aM v'=some c→nx+1+1<c:=fun c e=>by
   rcases id c e with h|h
   ·omega
   ·exact hv c h
  simp -implicitDefEqProofs only [RA,ae,zp,↓reduceIte,reduceCtorEq,zq,zr,zs,zt,↓ay,↓az,↓ar,↓aq,↓aw,↓au,↓ak,↓aj,↓aC,↓aB,↓aE,↓aD,unA,ne_eq,not_true_eq_false,not_false_eq_true,g1,g2,g3,g4,gx,gy,gz,ea,gz4,vc,vp,List.length_singleton,f1]
  refine ⟨s.length-(i+1),by omega,i+1,v',rfl,by omega,rfl,by rw [if_neg (by omega)];exact gx4,by rw [if_neg (by omega)];exact gy4,rfl,?_,by omega,hnv'⟩
  rw [aP hr,D7]
  exact og.keep (EQ _) fun c o h1 h2=>by rw [af,if_neg (by have:=hnv' c h1;omega)];exact h2
theorem w44 (l:List Tm) (ho:kj l):Pure Tryz.prog 44 [bg l] (bg l):=by
 refine Pure.own (e:=119) (jT _) fun nx=>AC.go aI is44 (by simp) ?_
 obtain ⟨hl,hok⟩:=ho
 have lv:=bA l
 simp -implicitDefEqProofs only [RA,ae,zp,↓reduceIte,reduceCtorEq,zq,zr,zs,zt,↓ay,↓az,↓ar,↓aq,↓aw,↓au,↓ak,↓aj,↓aC,↓aB,↓aE,↓aD,unA,ne_eq,not_true_eq_false,not_false_eq_true,A44,C2,lv]
 refine aJ (fun q st=>∃ (i:Nat) (v:AV),q=l.length-i∧i≤l.length∧ai st.env 0=some (bg l)∧ai st.env 3=some v∧ai st.env 4=some (.int .i64 i)∧aQ 119 6 st.heap st.nx v ((l.take i).map tmE)∧st.dm=[]) (n:=l.length) aI
  ⟨0,.nilS,rfl,by omega,by simp [ai],by simp [ai],by simp [ai],.inl ⟨rfl,rfl⟩,rfl⟩ ?_
 rintro q ⟨env,heap,nx',dm⟩ ⟨i,v,rfl,hi,g0,g3,g4,ov,hdm⟩
 simp only at g0 g3 g4 ov hdm
 subst hdm
 have f1:=wS (i:=i) (by omega)
 by_cases hc:(i:Int)<(l.length:Int)
 case neg =>
  rw [show l.take i=l from DQ (by omega)] at ov
  simp -implicitDefEqProofs only [RA,ae,zp,↓reduceIte,reduceCtorEq,zq,zr,zs,zt,↓ay,↓az,↓ar,↓aq,↓aw,↓au,↓ak,↓aj,↓aC,↓aB,↓aE,↓aD,unA,ne_eq,not_true_eq_false,not_false_eq_true,wc,qn,g0,g3,g4,lv,hc,R44]
  exact ⟨v,rfl,ov⟩
 have hr:=DN (show i<l.length by omega)
 generalize l[i]=r at hr
 have hmem:=DO hr
 have ix:=bf hr
 have rl:=aX r
 have rt:=aV r
 have er:=aY r
 have w:=w62 4000000 r (hok r hmem).1 (EQ _)
 rw [er] at ix rl rt w
 simp -implicitDefEqProofs only [RA,ae,zp,↓reduceIte,reduceCtorEq,zq,zr,zs,zt,↓ay,↓az,↓ar,↓aq,↓aw,↓au,↓ak,↓aj,↓aC,↓aB,↓aE,↓aD,unA,ne_eq,not_true_eq_false,not_false_eq_true,wc,qn,g0,g3,g4,lv,hc,ix,rl,rt]
 refine w.use fun n5 hn5=>?_
 obtain ⟨v',h4,n6,ea,og,hle,fr,id⟩:=(ov.mono hn5).grw (bytes:=72) (ns:=[tmE r]) (jT _) (by simp [aX]) (by simp;omega) (by simp [maxLen];omega)
 rw [er] at ea
 simp -implicitDefEqProofs only [RA,ae,zp,↓reduceIte,reduceCtorEq,zq,zr,zs,zt,↓ay,↓az,↓ar,↓aq,↓aw,↓au,↓ak,↓aj,↓aC,↓aB,↓aE,↓aD,unA,ne_eq,not_true_eq_false,not_false_eq_true,g0,g3,g4,ea,f1]
 refine ⟨l.length-(i+1),by omega,i+1,v',rfl,by omega,rfl,rfl,?_⟩
 rw [aP hr,D7];exact og
end Go.Proofs.YtkhjclmfbmfahaaGreatDoor
