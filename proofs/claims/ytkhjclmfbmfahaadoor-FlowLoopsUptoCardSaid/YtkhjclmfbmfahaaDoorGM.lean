/- Dominators by rounds. -/
import Derived.Test.YtkhjclmfbmfahaaDoorGL
namespace Go.Proofs.YtkhjclmfbmfahaaDoor
open List renaming getElem?_eq_getElem → D9, mem_of_getElem? → Ea, take_of_length_le → Ec, length_cons → Ee, mem_cons → En, mem_append → Eo, length_set → EL
open Nat renaming le_refl → E5
open Int renaming toNat_natCast → Fg
set_option maxHeartbeats 64000000
open Go Go.Ab Go.Proofs
open Nat renaming reduceEqDiff → zp, reduceAdd → zq, reduceLeDiff → zr, reduceLT → zs, reduceBEq → zt
set_option linter.unusedVariables false
set_option linter.unusedSimpArgs false
set_option maxRecDepth 20000
theorem iC:∀ (dm:List Nat) (h:Heap) (k:Nat),k∉dm→ay (eK h dm) k=ay h k
 | [],_,_,_=>rfl
 | b::r,h,k,hk=>by
  simp only [En,not_or] at hk
  rw [eK,iC r _ k hk.2,bq hk.1]
theorem mU:∀ (dm:List Nat) (h:Heap),dm.Nodup→(∀ d∈dm,ay h d=some .dfd)→kf h dm
 | [],_,_,_=>trivial
 | b::r,h,hn,hd=>by
  obtain ⟨n1,n2⟩:=List.nodup_cons.1 hn
  exact ⟨hd b (by simp),mU r _ n2 fun d hm=>by rw [bq (fun e=>n1 (by rw [← e];exact hm))];exact hd d (List.mem_cons_of_mem _ hm)⟩
theorem kT (rs:List RV) (Q:AE→Heap→Nat→Prop) (env:Env) (h:Heap) (n:Nat) (dm:List Nat):Ab.Fin rs Q .ret ⟨env,h,n,dm⟩=(kf h dm∧∃ ys,eo env (eK h dm) rs=some ys∧Q (.ret (gP ys)) (eK h dm) n):=by simp [Ab.Fin]
structure DS (g:Fn) (cG cO bo cA all:Nat) (h:Heap) (nx:Nat) (dm D:List Nat):Prop where
 gG:ay h cG=some (.cells (fnE g))
 gO:ay h cO=some (.cells [.os bo 0 58 1 D.length])
 gb:ay h bo=some (.cells (D.map ce))
 gA:ay h cA=some (.cells [.int .u64 all])
 lt:cG<nx∧cO<nx∧bo<nx∧cA<nx
 ne:cG≠cO∧cG≠bo∧cG≠cA∧cO≠bo∧cO≠cA∧bo≠cA
 d1:∀ d∈dm,d<nx∧ay h d=some .dfd
 d2:dm.Nodup
theorem DS.ext {g:Fn} {cG cO bo cA all:Nat} {h h':Heap} {nx nx':Nat} {dm D:List Nat} (S:DS g cG cO bo cA all h nx dm D) (hn:nx≤nx') (hk:∀ k o,k<nx→ay h k=some o→ay h' k=some o):DS g cG cO bo cA all h' nx' dm D :=
 ⟨hk _ _ S.lt.1 S.gG,hk _ _ S.lt.2.1 S.gO,hk _ _ S.lt.2.2.1 S.gb,hk _ _ S.lt.2.2.2 S.gA,by have:=S.lt;omega,S.ne,fun d hd=>⟨by have:=(S.d1 d hd).1;omega,hk _ _ (S.d1 d hd).1 (S.d1 d hd).2⟩,S.d2⟩
theorem DS.set {g:Fn} {cG cO bo cA all:Nat} {h:Heap} {nx:Nat} {dm D:List Nat} (S:DS g cG cO bo cA all h nx dm D) (b v:Nat):DS g cG cO bo cA all ((bo,.cells ((D.set b v).map ce))::h) nx dm (D.set b v):=by
 obtain ⟨a1,a2,a3,a4,a5,a6,a7,a8⟩:=S
 refine ⟨by rw [af,if_neg (by omega)];exact a1,by rw [af,if_neg (by omega),EL];exact a2,by rw [af,if_pos rfl],by rw [af,if_neg (by omega)];exact a4,a5,a6,fun d hd=>⟨(a7 d hd).1,?_⟩,a8⟩
 rw [af,if_neg (fun e=>?_)]
 ·exact (a7 d hd).2
 ·have:=(a7 d hd).2
  rw [← e,a3] at this;cases this
theorem DS.mark {g:Fn} {cG cO bo cA all:Nat} {h h':Heap} {nx nx' d:Nat} {dm D:List Nat} (S:DS g cG cO bo cA all h nx dm D) (hn:nx≤d) (hd:d<nx') (hk:∀ k o,k<nx→ay h k=some o→ay h' k=some o) (hh:ay h' d=some .dfd):DS g cG cO bo cA all h' nx' (d::dm) D:=by
 have S':=S.ext (nx':=nx') (by omega) hk
 refine ⟨S'.gG,S'.gO,S'.gb,S'.gA,S'.lt,S'.ne,fun e he=>?_,List.nodup_cons.2 ⟨fun hm=>?_,S.d2⟩⟩
 ·rcases En.1 he with e1|e1
  ·subst e1;exact ⟨hd,hh⟩
  ·exact S'.d1 e e1
 ·have:=(S.d1 d hm).1;omega
theorem DS.all {g:Fn} {cG cO bo cA all:Nat} {h:Heap} {nx:Nat} {dm D:List Nat} (S:DS g cG cO bo cA all h nx dm D) (v:Nat):DS g cG cO bo cA v ((cA,.cells [.int .u64 v])::h) nx dm D:=by
 obtain ⟨a1,a2,a3,a4,a5,a6,a7,a8⟩:=S
 refine ⟨by rw [af,if_neg (by omega)];exact a1,by rw [af,if_neg (by omega)];exact a2,by rw [af,if_neg (by omega)];exact a3,by rw [af,if_pos rfl],a5,a6,fun d hd=>⟨(a7 d hd).1,?_⟩,a8⟩
 rw [af,if_neg (fun e=>?_)]
 ·exact (a7 d hd).2
 ·have:=(a7 d hd).2
  rw [← e,a4] at this;cases this
def kR (l:List Nat):Nat:=l.foldl (fun m b=>m ||| 2 ^ b) 0
theorem tI (l:List Nat) (b:Nat):kR (l++[b])=kR l ||| 2 ^ b:=by simp [kR,List.foldl_append]
theorem r5 (i:Nat):∀ (l:List Nat) (m:Nat),(l.foldl (fun m b=>m ||| 2 ^ b) m).testBit i=(m.testBit i||decide (i∈l))
 | [],m=>by simp
 | b::l,m=>by
  rw [List.foldl_cons,r5 i l,Nat.testBit_or,Nat.testBit_two_pow]
  by_cases h:b=i
  ·subst h;simp
  ·have h':¬ i=b:=fun e=>h e.symm
   simp [h,h']
theorem yq (l:List Nat) (i:Nat):(kR l).testBit i=decide (i∈l):=by rw [kR,r5];simp
theorem r6:∀ (l:List Nat) (m:Nat),m<18446744073709551616→(∀ x∈l,x<64)→l.foldl (fun m b=>m ||| 2 ^ b) m<18446744073709551616
 | [],m,h,_=>h
 | b::l,m,h,hl=>r6 l _ (n7 h (kE (hl b (by simp)))) fun x hx=>hl x (List.mem_cons_of_mem _ hx)
theorem r4 {l:List Nat} (h:∀ x∈l,x<64):kR l<18446744073709551616:=r6 l 0 (by omega) h
theorem uR (n:Nat):(List.replicate n [AV.int .u64 0]).flatten=(List.replicate n 0).map ce:=by
 rw [show (List.replicate n [AV.int .u64 0]).flatten=List.replicate n (AV.int .u64 0) by simp,List.map_replicate];rfl
theorem kI (G:Nat→List Nat) (D:Nat→Nat) (b a:Nat):∀ (l:List Nat) (m:Nat),fN G D b (l++[a]) m=(G a).foldl (fun m c=>if c=b then m &&& D a else m) (fN G D b l m)
 | [],m=>rfl
 | x::l,m=>by simp only [List.cons_append,fN,kI G D b a l]
theorem kJ (G:Nat→List Nat) (D:Nat→Nat) (b:Nat):∀ (l:List Nat) (m:Nat),fN G D b l m≤m
 | [],m=>E5 _
 | x::l,m=>Nat.le_trans (kJ G D b l _) (mR b (D x) (G x) m)
theorem vu {P:Pi} {g:Fn} (G:GdF P g) {ord rest:List Nat} {all cG cO bo cA:Nat} (o1:ord.Nodup) (o2:∀ x,x∈ord↔Rch (nbG g) x) (o3:∀ x∈ord,x<g.blocks.length) (o4:ord=0::rest)
  (hall:∀ x,all.testBit x=true↔Rch (nbG g) x) (hallt:all<18446744073709551616) {D1:List Nat} {st:ASt} {Q:AX→ASt→Prop}
  (g1:ah st.env 1=some (.op cG 0)) (g4:ah st.env 4=some (.op cO 0)) (g5:ah st.env 5=some (fg ord)) (g6:ah st.env 6=some (.op cA 0)) (hl1:D1.length=g.blocks.length) (hI1:DI (nbG g) fun b=>D1.getD b 0)
  (S1:DS g cG cO bo cA all st.heap st.nx st.dm D1)
  (hQ:∀ env' h' n' dm',ah env' 2=some (.os bo 0 58 1 g.blocks.length)→kf h' dm'→ay (eK h' dm') bo=some (.cells ((ke (nbG g) g.blocks.length).map ce))→bo<n'→Q .ret ⟨env',h',n',dm'⟩) :
  AW Tryd.prog (fun _ _=>false) none 91 (.loop wB) Q st:=by
 have hn1:=G.n1
 have hn60:=G.n2
 have ff:=bK g
 have fl:=jL g
 have ft:=iD g
 have hol:=dk _ o1 o3
 have lo:=kM ord
 have lr:=kM rest
 have hor:ord.length=rest.length+1:=by rw [o4];rfl
 have hG:=lU G
 have hslc:ln 1 (fg ord) 1 ord.length none=some (fg rest):=by
  have e2:(rest.map fun x:Nat=>inE (x:Int)).take rest.length=rest.map fun x:Nat=>inE (x:Int):=Ec (by simp)
  rw [o4];simp [ln,fg,inN,e2]
 refine aJ (F:=[]) (Q:=Q) (fun q st=>∃ D:List Nat,q=D.sum∧ah st.env 1=some (.op cG 0)∧ah st.env 4=some (.op cO 0)∧ah st.env 5=some (fg ord)∧ah st.env 6=some (.op cA 0)∧D.length=g.blocks.length∧DI (nbG g) (fun b=>D.getD b 0)∧DS g cG cO bo cA all st.heap st.nx st.dm D) (n:=D1.sum) aI
  ⟨D1,rfl,g1,g4,g5,g6,hl1,hI1,S1⟩ ?_
 clear g1 g4 g5 g6 hl1 hI1 S1
 rintro q ⟨env,heap,nx',dm⟩ ⟨D0,rfl,g1,g4,g5,g6,hl0,hI0,S0⟩
 simp only at g1 g4 g5 g6 S0
 have gO:=S0.gO
 have gb:=S0.gb
 have w:=w56 (nx:=nx') gb S0.lt.2.2.1 (by omega) (by omega)
 simp -implicitDefEqProofs only [RA,ae,zp,↓reduceIte,reduceCtorEq,zq,zr,zs,zt,↓az,↓aA,↓ar,↓aq,↓aw,↓au,↓ak,↓aj,↓aC,↓aB,↓aE,↓aD,unA,ne_eq,not_true_eq_false,not_false_eq_true,wB,wA,g1,g4,g5,g6,gO]
 refine w.mono ?_
 rintro y h1 n1 ⟨c,rfl,hc1,hc2,gw,hk1⟩
 have S1:=S0.ext (nx':=n1) (by omega) hk1
 simp -implicitDefEqProofs only [RA,ae,zp,↓reduceIte,reduceCtorEq,zq,zr,zs,zt,↓az,↓aA,↓ar,↓aq,↓aw,↓au,↓ak,↓aj,↓aC,↓aB,↓aE,↓aD,unA,ne_eq,not_true_eq_false,not_false_eq_true,g1,g4,g5,g6,lo,lr,bnd,hslc,Fg,nn,show (0≤(1:Int))=True from by decide,show ((1:Int)).toNat=1 from rfl]
 have h0r:0∉rest:=by rw [o4] at o1;exact (List.nodup_cons.1 o1).1
 have hrm:∀ b∈rest,b∈ord:=fun b hb=>by rw [o4];exact List.mem_cons_of_mem _ hb
 have lt0:=S0.lt
 refine aJ (fun q st=>∃ (j:Nat) (D:List Nat),q=rest.length-j∧j≤rest.length∧ah st.env 1=some (.op cG 0)∧ah st.env 4=some (.op cO 0)∧ah st.env 5=some (fg ord)∧ah st.env 6=some (.op cA 0)∧ah st.env 11=some (.os c 0 58 1 D0.length)∧ah st.env 53=some (fg rest)∧ah st.env 54=some (.int .i64 rest.length)∧ah st.env 55=some (.int .i64 j)∧D.length=g.blocks.length∧DI (nbG g) (fun b=>D.getD b 0)∧DS g cG cO bo cA all st.heap st.nx st.dm D∧ay st.heap c=some (.cells (D0.map ce))∧c<st.nx ∧
   ((D=D0∧∀ b∈rest.take j,mM (nbG g) ord all (fun x=>D0.getD x 0) b=D0.getD b 0)∨D.sum<D0.sum)) (n:=rest.length) aI
  ⟨0,D0,rfl,by omega,by simp [ah,g1],by simp [ah,g4],by simp [ah,g5],by simp [ah,g6],by simp [ah],by simp [ah],by simp [ah],by simp [ah],hl0,hI0,S1,gw,hc2,.inl ⟨rfl,by simp⟩⟩ ?_
 clear g1 g4 g5 g6 S0 S1 gO gb gw hk1
 rintro q ⟨env,heap,nx2,dm⟩ ⟨j,D,rfl,hj,g1,g4,g5,g6,g11,g53,g54,g55,hlD,hID,S,gw,hcl,hcase⟩
 simp only at g1 g4 g5 g6 g11 g53 g54 g55 S gw hcl
 have f1:=wS (i:=j) (by omega)
 have gO:=S.gO
 have gb:=S.gb
 have gA:=S.gA
 have gG:=S.gG
 have ltS:=S.lt
 by_cases hcj:(j:Int)<(rest.length:Int)
 case neg =>
  rw [show rest.take j=rest from Ec (by omega)] at hcase
  have w58':=w58o (nx:=nx2) gw gb (by omega)
  simp -implicitDefEqProofs only [RA,ae,zp,↓reduceIte,reduceCtorEq,zq,zr,zs,zt,↓az,↓aA,↓ar,↓aq,↓aw,↓au,↓ak,↓aj,↓aC,↓aB,↓aE,↓aD,unA,ne_eq,not_true_eq_false,not_false_eq_true,wC,qC,g1,g4,g5,g6,g11,g53,g54,g55,hcj,gO]
  refine w58'.mono ?_
  rintro y h3 n3 ⟨rfl,rfl,hn3⟩
  rcases ai (D0=D) with ⟨e1,j1⟩|⟨e1,j1⟩
  ·subst e1
   rcases hcase with ⟨_,hf⟩|hlt
   ·have hend:=x5 hl0 (fun x hx=>o3 x ((o2 x).2 hx)) hI0 hall o2 fun b hb hr=>hf b (by
     have:=(o2 b).2 hr
     rw [o4] at this
     rcases En.1 this with e|e
     ·exact absurd e hb
     ·exact e)
    have hnd:bo∉dm:=fun hm=>by have:=(S.d1 bo hm).2;rw [gb] at this;cases this
    simp -implicitDefEqProofs only [RA,ae,zp,↓reduceIte,reduceCtorEq,zq,zr,zs,zt,↓az,↓aA,↓ar,↓aq,↓aw,↓au,↓ak,↓aj,↓aC,↓aB,↓aE,↓aD,unA,ne_eq,not_true_eq_false,not_false_eq_true,g1,g4,g5,g6,g11,g53,g54,g55,gO,decide_true]
    refine hQ _ _ _ _ (by simp [ah,hlD]) (mU dm h3 S.d2 fun d hd=>(S.d1 d hd).2) ?_ (by omega)
    rw [iC _ _ _ hnd,gb,hend]
   ·omega
  ·have hlt:D.sum<D0.sum:=by
    rcases hcase with ⟨e,_⟩|h
    ·exact absurd e.symm e1
    ·exact h
   simp -implicitDefEqProofs only [RA,ae,zp,↓reduceIte,reduceCtorEq,zq,zr,zs,zt,↓az,↓aA,↓ar,↓aq,↓aw,↓au,↓ak,↓aj,↓aC,↓aB,↓aE,↓aD,unA,ne_eq,not_true_eq_false,not_false_eq_true,g1,g4,g5,g6,g11,g53,g54,g55,gO,j1,decide_false]
   exact ⟨D.sum,hlt,D,rfl,hlD,hID,S.ext hn3 fun _ _ _ h=>h⟩
 have hr:=D9 (show j<rest.length by omega)
 generalize rest[j]=b at hr
 have hbm:=Ea hr
 have hb0:b≠0:=fun e=>h0r (by rw [← e];exact hbm)
 have hbr:=(o2 b).1 (hrm b hbm)
 have hbn:=o3 b (hrm b hbm)
 have ixr:=jl hr
 have q1:∀ k,k<nx2→(nx2=k)=False:=fun k hk=>eq_false (by omega)
 have q2:∀ k,k<nx2→(nx2+1=k)=False:=fun k hk=>eq_false (by omega)
 have e5:(nx2+1=nx2)=False:=eq_false (by omega)
 have e6:=q1 cA ltS.2.2.2
 simp -implicitDefEqProofs only [RA,ae,zp,↓reduceIte,reduceCtorEq,zq,zr,zs,zt,↓az,↓aA,↓ar,↓aq,↓aw,↓au,↓ak,↓aj,↓aC,↓aB,↓aE,↓aD,unA,ne_eq,not_true_eq_false,not_false_eq_true,wC,qC,g1,g4,g5,g6,g11,g53,g54,g55,hcj,ixr,gA,e6,e5,lo]
 obtain ⟨cB,hcB⟩:∃ k,k=nx2:=⟨_,rfl⟩
 refine aJ (fun q st=>∃ (i:Nat),q=ord.length-i∧i≤ord.length∧ah st.env 1=some (.op cG 0)∧ah st.env 4=some (.op cO 0)∧ah st.env 5=some (fg ord)∧ah st.env 6=some (.op cA 0)∧ah st.env 11=some (.os c 0 58 1 D0.length)∧ah st.env 13=some (.op cB 0)∧ah st.env 14=some (.op (cB+1) 0)∧ah st.env 53=some (fg rest)∧ah st.env 54=some (.int .i64 rest.length)∧ah st.env 55=some (.int .i64 j)∧ah st.env 60=some (fg ord)∧ah st.env 61=some (.int .i64 ord.length)∧ah st.env 62=some (.int .i64 i)∧DS g cG cO bo cA all st.heap st.nx st.dm D∧ay st.heap c=some (.cells (D0.map ce))∧cB+1<st.nx ∧
   ay st.heap cB=some (.cells [.int .i64 b])∧ay st.heap (cB+1)=some (.cells [.int .u64 (fN (nbG g) (fun x=>D.getD x 0) b (ord.take i) all:Nat)])) (n:=ord.length) aI
  ⟨0,rfl,by omega,by simp [ah,g1],by simp [ah,g4],by simp [ah,g5],by simp [ah,g6],by simp [ah,g11],by simp [ah,hcB],by simp [ah,hcB],by simp [ah,g53],by simp [ah,g54],by simp [ah,g55],by simp [ah],by simp [ah],by simp [ah],S.ext (by simp only;omega) (fun k o h1 h2=>by simp only;rw [af,if_neg (by omega),af,if_neg (by omega),af,if_neg (by omega),af,if_neg (by omega)];exact h2),
   by simp only;rw [af,if_neg (by omega),af,if_neg (by omega),af,if_neg (by omega),af,if_neg (by omega)];exact gw,by simp only;omega,by simp only;rw [af,if_neg (by omega),af,if_neg (by omega),af,if_pos hcB.symm],by simp only;rw [af,if_pos (by omega)];rfl⟩ ?_
 have hcS:=ltS
 clear g1 g4 g5 g6 g11 g53 g54 g55 S gw gO gb gA gG e5 e6 q1 q2
 rintro q ⟨env,heap2,nx3,dm2⟩ ⟨i,rfl,hi,g1,g4,g5,g6,g11,g13,g14,g53,g54,g55,g60,g61,g62,S,gw,hlt3,gB,gM⟩
 simp only at g1 g4 g5 g6 g11 g13 g14 g53 g54 g55 g60 g61 g62 S gw hlt3 gB gM
 have f2:=wS (i:=i) (by omega)
 have gO:=S.gO
 have gb:=S.gb
 have gG:=S.gG
 by_cases hci:(i:Int)<(ord.length:Int)
 case neg =>
  rw [show ord.take i=ord from Ec (by omega)] at gM
  have hml:=kJ (nbG g) (fun x=>D.getD x 0) b ord all
  have w:=w40 (fN (nbG g) (fun x=>D.getD x 0) b ord all) b (by omega) (by omega)
  rw [show fN (nbG g) (fun x=>D.getD x 0) b ord all ||| 2 ^ b=mM (nbG g) ord all (fun x=>D.getD x 0) b from rfl] at w
  have ib:=eu (b:=bo) (e:=58) (n:=D.length) (i:=b) (by omega)
  obtain ⟨nv,hnv⟩:∃ v,v=mM (nbG g) ord all (fun x=>D.getD x 0) b:=⟨_,rfl⟩
  rw [← hnv] at w
  have hput:=fB (f:=ce) (l:=D) (i:=b) (by omega) nv
  have hle:=hE (f:=ce) (l:=D) (i:=b) (by omega)
  have uc:AV.int .u64 (nv:Int)=ce nv:=rfl
  rw [← uc] at hput
  simp -implicitDefEqProofs only [RA,ae,zp,↓reduceIte,reduceCtorEq,zq,zr,zs,zt,↓az,↓aA,↓ar,↓aq,↓aw,↓au,↓ak,↓aj,↓aC,↓aB,↓aE,↓aD,unA,ne_eq,not_true_eq_false,not_false_eq_true,wD,qD,g1,g4,g5,g6,g11,g13,g14,g53,g54,g55,g60,g61,g62,hci,gO,gB,gM]
  refine w.use fun n4 hn4=>?_
  simp -implicitDefEqProofs only [RA,ae,zp,↓reduceIte,reduceCtorEq,zq,zr,zs,zt,↓az,↓aA,↓ar,↓aq,↓aw,↓au,↓ak,↓aj,↓aC,↓aB,↓aE,↓aD,unA,ne_eq,not_true_eq_false,not_false_eq_true,g1,g4,g5,g6,g11,g13,g14,g53,g54,g55,g60,g61,g62,gO,gB,gM,gb,ib,hput,hle,f1]
  have hup:DI (nbG g) fun x=>(D.set b nv).getD x 0:=hID.upd hall o2 hbr hb0 (by rw [fh D b nv b (by omega),if_pos rfl,hnv]) fun c' hc'=>by rw [fh D b nv c' (by omega),if_neg hc']
  have hle2:nv≤D.getD b 0:=by rw [hnv];exact oB (hID.new_le hall o2 hbr hb0)
  have hsum:=rf D b nv (by omega)
  refine ⟨rest.length-(j+1),by omega,j+1,D.set b nv,rfl,by omega,rfl,by rw [EL];exact hlD,hup,(S.set b nv).ext hn4 fun _ _ _ h=>h,?_,by omega,?_⟩
  ·rw [if_neg (by omega)];exact gw
  ·rcases hcase with ⟨rfl,hf⟩|hlt
   ·by_cases e:nv=D.getD b 0
    ·left
     have hse:D.set b nv=D:=by
      apply List.ext_getElem?
      intro x
      by_cases hx:x=b
      ·subst hx
       rw [List.getElem?_set_self (by omega),e,List.getD_eq_getElem?_getD,D9 (by omega)];rfl
      ·rw [List.getElem?_set_ne (by omega)]
     refine ⟨hse,fun x hx=>?_⟩
     rw [aO hr] at hx
     rcases Eo.1 hx with h|h
     ·exact hf x h
     ·simp at h;subst h;rw [← hnv];exact e
    ·right;omega
   ·right;omega
 have hra:=D9 (show i<ord.length by omega)
 generalize ord[i]=a at hra
 have ixa:=jl hra
 have han:=o3 a (Ea hra)
 have hblk:=D9 (l:=g.blocks) han
 generalize g.blocks[a]=blk at hblk
 have hDa:=D9 (l:=D) (show a<D.length by omega)
 have hda:D.getD a 0=D[a]:=by rw [List.getD_eq_getElem?_getD,hDa];rfl
 have hdl:D.getD a 0<18446744073709551616:=hID.lt a
 rw [hda] at hdl
 generalize D[a]=da at hDa hda hdl
 have hml:=kJ (nbG g) (fun x=>D.getD x 0) b (ord.take i) all
 have hms:=kI (nbG g) (fun x=>D.getD x 0) b a (ord.take i) all
 rw [← aO hra] at hms
 simp only [hda] at hms
 generalize fN (nbG g) (fun x=>D.getD x 0) b (ord.take i) all=m at gM hml hms
 have e7:(nx3=cG)=False:=eq_false (by have:=S.lt;omega)
 have w2:=w25 g a ((nx3,.cells [.int .i64 a])::(nx3,.cells [.int .i64 0])::heap2) (nx3+1)
 rw [ff] at w2 gG fl ft
 simp -implicitDefEqProofs only [RA,ae,zp,↓reduceIte,reduceCtorEq,zq,zr,zs,zt,↓az,↓aA,↓ar,↓aq,↓aw,↓au,↓ak,↓aj,↓aC,↓aB,↓aE,↓aD,unA,ne_eq,not_true_eq_false,not_false_eq_true,wD,qD,g1,g4,g5,g6,g11,g13,g14,g53,g54,g55,g60,g61,g62,hci,ixa,gG,fl,ft,e7]
 refine w2.mono ?_
 rintro y hh nn ⟨rfl,rfl,rfl⟩
 simp -implicitDefEqProofs only [RA,ae,zp,↓reduceIte,reduceCtorEq,zq,zr,zs,zt,↓az,↓aA,↓ar,↓aq,↓aw,↓au,↓ak,↓aj,↓aC,↓aB,↓aE,↓aD,unA,ne_eq,not_true_eq_false,not_false_eq_true,cN]
 have lt3:=S.lt
 have get6:∀ k,k<nx3→ay ((nx3+1+1,AO.cells [.int .i64 a])::(nx3+1,.cells [.str g.name,bj g.params,.int .i64 g.result,bj g.locals,cg g.blocks])::(nx3,.cells [.int .i64 a])::(nx3,.cells [.int .i64 0])::heap2) k=ay heap2 k:=fun k hk=>by
  rw [af,if_neg (by omega),af,if_neg (by omega),af,if_neg (by omega),af,if_neg (by omega)]
 refine vt G (cO:=cO) (bo:=bo) (cB:=cB) (cM:=cB+1) (ca:=nx3) (c1:=nx3+1) (c2:=nx3+1+1) (a:=a) (b:=b) (m:=m) (da:=da) (D:=D) hblk
  (by simp [ah,g4]) (by simp [ah,g13]) (by simp [ah,g14]) (by simp [ah]) (by simp [ah]) (by simp only;rw [get6 _ lt3.2.1];exact gO) (by simp only;rw [get6 _ lt3.2.2.1];exact gb) (by simp only;rw [get6 _ (by omega)];exact gB)
  (by simp only;rw [af,if_neg (by omega),af,if_neg (by omega),af,if_pos rfl]) (by simp only;rw [get6 _ hlt3];exact gM) (by simp only;rw [af,if_neg (by omega),af,if_pos rfl,ff]) (by simp only;rw [af,if_pos rfl]) (by simp only;omega) (by omega) (by omega) hDa hdl ?_
 intro h5 n5 hn5 hk5 hd5 hM5
 simp only at hn5 hk5 hd5
 have hk6:∀ k o,k<nx3→k≠cB+1→ay heap2 k=some o→ay h5 k=some o:=fun k o h1 h2 h3=>hk5 k o (by omega) h2 (by rw [get6 k h1];exact h3)
 simp -implicitDefEqProofs only [RA,ae,zp,↓reduceIte,reduceCtorEq,zq,zr,zs,zt,↓az,↓aA,↓ar,↓aq,↓aw,↓au,↓ak,↓aj,↓aC,↓aB,↓aE,↓aD,unA,ne_eq,not_true_eq_false,not_false_eq_true,g1,g4,g5,g6,g11,g13,g14,g53,g54,g55,g60,g61,g62,f2]
 have hdc:∀ d∈dm2,d≠cB+1:=fun d hd e=>by have:=(S.d1 d hd).2;rw [e,gM] at this;cases this
 refine ⟨ord.length-(i+1),by omega,i+1,rfl,by omega,rfl,⟨hk6 _ _ lt3.1 (by omega) (by rw [ff];exact gG),hk6 _ _ lt3.2.1 (by omega) gO,hk6 _ _ lt3.2.2.1 (by omega) gb,hk6 _ _ lt3.2.2.2 (by omega) S.gA,by omega,S.ne,fun d hd=>?_,List.nodup_cons.2 ⟨fun hm=>?_,S.d2⟩⟩,hk6 _ _ (by omega) (by omega) gw,by omega,hk6 _ _ (by omega) (by omega) gB,by rw [hms];exact hM5⟩
 ·rcases En.1 hd with e1|e1
  ·subst e1;exact ⟨by omega,hd5⟩
  ·have:=S.d1 d e1
   exact ⟨by omega,hk6 _ _ this.1 (hdc d e1) this.2⟩
 ·have:=(S.d1 _ hm).1;omega
theorem w39 {P:Pi} {g:Fn} (G:GdF P g):Pure Tryd.prog 12 [.agg (fnE g)] (.lst 1 ((ke (nbG g) g.blocks.length).map iJ)):=by
 refine Pure.own (e:=58) (nT _) fun nx=>AC.go aI is39 (by simp) ?_
 have ff:=bK g
 have fl:=jL g
 have ft:=iD g
 have lb:=ec g.blocks
 have hn1:=G.n1
 have hn60:=G.n2
 obtain ⟨o1,o2,o3,rest,o4⟩:=Ac hn1 (lU G)
 have w37':=w37 G
 obtain ⟨ord,hord⟩:∃ ord,ord=Bx g:=⟨_,rfl⟩
 rw [← hord] at w37'
 rw [show pA (nbG g) g.blocks.length=ord from hord.symm] at o1 o2 o3 o4
 have hol:=dk _ o1 o3
 have hmk:=ol (n:=g.blocks.length) (b:=8) (by omega) (by omega)
 have mkb:=uR g.blocks.length
 have n1:(nx+1=nx)=False:=eq_false (by omega)
 have n2:(nx+1+1=nx)=False:=eq_false (by omega)
 have lo:=kM ord
 rw [ff] at fl ft w37' ⊢
 simp -implicitDefEqProofs only [RA,ae,zp,↓reduceIte,reduceCtorEq,zq,zr,zs,zt,↓az,↓aA,↓ar,↓aq,↓aw,↓au,↓ak,↓aj,↓aC,↓aB,↓aE,↓aD,unA,ne_eq,not_true_eq_false,not_false_eq_true,A39,Ds,lb,hmk,mkb,n1,n2,fl,ft,Fg]
 refine w37'.use fun k1 hk1=>?_
 simp -implicitDefEqProofs only [RA,ae,zp,↓reduceIte,reduceCtorEq,zq,zr,zs,zt,↓az,↓aA,↓ar,↓aq,↓aw,↓au,↓ak,↓aj,↓aC,↓aB,↓aE,↓aD,unA,ne_eq,not_true_eq_false,not_false_eq_true,n1,n2,lo]
 have S0:DS g nx (nx+1+1) (nx+1) k1 0 [(k1,AO.cells [AV.int .u64 0]),(nx+1+1,.cells [.os (nx+1) 0 58 1 g.blocks.length]),(nx+1+1,.cells [.nilS]),(nx+1,.cells ((List.replicate g.blocks.length 0).map ce)),(nx,.cells [.str g.name,bj g.params,.int .i64 g.result,bj g.locals,cg g.blocks])] (k1+1) [] (List.replicate g.blocks.length 0):=by
  refine ⟨?_,?_,?_,by rw [af,if_pos rfl];rfl,by omega,by omega,by simp,.nil⟩
  ·rw [af,if_neg (by omega),af,if_neg (by omega),af,if_neg (by omega),af,if_neg (by omega),af,if_pos rfl,ff]
  ·rw [af,if_neg (by omega),af,if_pos rfl,List.length_replicate]
  ·rw [af,if_neg (by omega),af,if_neg (by omega),af,if_neg (by omega),af,if_pos rfl]
 obtain ⟨cO,hcO⟩:∃ c,c=nx+1+1:=⟨_,rfl⟩
 obtain ⟨bo,hbo⟩:∃ c,c=nx+1:=⟨_,rfl⟩
 rw [← hcO,← hbo] at S0 ⊢
 refine aJ (fun q st=>∃ i:Nat,q=ord.length-i∧i≤ord.length∧ah st.env 1=some (.op nx 0)∧ah st.env 4=some (.op cO 0)∧ah st.env 5=some (fg ord)∧ah st.env 6=some (.op k1 0)∧ah st.env 26=some (fg ord)∧ah st.env 27=some (.int .i64 ord.length)∧ah st.env 28=some (.int .i64 i)∧DS g nx cO bo k1 (kR (ord.take i)) st.heap st.nx [] (List.replicate g.blocks.length 0)∧st.dm=[]) (n:=ord.length) aI
  ⟨0,rfl,by omega,by simp [ah],by simp [ah],by simp [ah],by simp [ah],by simp [ah],by simp [ah],by simp [ah],S0,rfl⟩ ?_
 clear S0
 rintro q ⟨env,heap,nx',dm⟩ ⟨i,rfl,hi,g1,g4,g5,g6,g26,g27,g28,S,hdm⟩
 simp only at g1 g4 g5 g6 g26 g27 g28 S hdm
 subst hdm
 have f1:=wS (i:=i) (by omega)
 by_cases hc:(i:Int)<(ord.length:Int)
 case pos =>
  have hr:=D9 (show i<ord.length by omega)
  generalize ord[i]=b at hr
  have ixr:=jl hr
  have hbn:=o3 b (Ea hr)
  have w:=w40 (kR (ord.take i)) b (r4 fun x hx=>by have:=o3 x (List.mem_of_mem_take hx);omega) (by omega)
  rw [← tI,← aO hr] at w
  have gA:=S.gA
  simp -implicitDefEqProofs only [RA,ae,zp,↓reduceIte,reduceCtorEq,zq,zr,zs,zt,↓az,↓aA,↓ar,↓aq,↓aw,↓au,↓ak,↓aj,↓aC,↓aB,↓aE,↓aD,unA,ne_eq,not_true_eq_false,not_false_eq_true,wF,qF,g1,g4,g5,g6,g26,g27,g28,hc,ixr,gA]
  refine w.use fun n3 hn3=>?_
  simp -implicitDefEqProofs only [RA,ae,zp,↓reduceIte,reduceCtorEq,zq,zr,zs,zt,↓az,↓aA,↓ar,↓aq,↓aw,↓au,↓ak,↓aj,↓aC,↓aB,↓aE,↓aD,unA,ne_eq,not_true_eq_false,not_false_eq_true,g1,g4,g5,g6,g26,g27,g28,gA,f1]
  exact ⟨ord.length-(i+1),by omega,i+1,rfl,by omega,rfl,(S.all _).ext hn3 fun _ _ _ h=>h⟩
 rw [show ord.take i=ord from Ec (by omega)] at S
 have hall:∀ x,(kR ord).testBit x=true↔Rch (nbG g) x:=fun x=>by rw [yq,decide_eq_true_eq,o2]
 have hallt:kR ord<18446744073709551616:=r4 fun x hx=>by have:=o3 x hx;omega
 obtain ⟨all,hallE⟩:∃ a,a=kR ord:=⟨_,rfl⟩
 rw [← hallE] at S hall hallt
 simp -implicitDefEqProofs only [RA,ae,zp,↓reduceIte,reduceCtorEq,zq,zr,zs,zt,↓az,↓aA,↓ar,↓aq,↓aw,↓au,↓ak,↓aj,↓aC,↓aB,↓aE,↓aD,unA,ne_eq,not_true_eq_false,not_false_eq_true,wF,qF,g1,g4,g5,g6,g26,g27,g28,hc,lo]
 refine aJ (fun q st=>∃ (i:Nat) (D:List Nat),q=ord.length-i∧i≤ord.length∧ah st.env 1=some (.op nx 0)∧ah st.env 4=some (.op cO 0)∧ah st.env 5=some (fg ord)∧ah st.env 6=some (.op k1 0)∧ah st.env 36=some (fg ord)∧ah st.env 37=some (.int .i64 ord.length)∧ah st.env 38=some (.int .i64 i)∧D.length=g.blocks.length∧(∀ b,D.getD b 0=if b∈ord.take i then all else 0)∧DS g nx cO bo k1 all st.heap st.nx [] D∧st.dm=[]) (n:=ord.length) aI
  ⟨0,List.replicate g.blocks.length 0,rfl,by omega,by simp [ah,g1],by simp [ah,g4],by simp [ah,g5],by simp [ah,g6],by simp [ah],by simp [ah],by simp [ah],by simp,fun b=>by simp [List.getD_eq_getElem?_getD,List.getElem?_replicate];split <;> rfl,S,rfl⟩ ?_
 clear S g1 g4 g5 g6 g26 g27 g28 f1 hc hi
 rintro q ⟨env,heap,nx',dm⟩ ⟨i,D,rfl,hi,g1,g4,g5,g6,g36,g37,g38,hDl,hD,S,hdm⟩
 simp only at g1 g4 g5 g6 g36 g37 g38 S hdm
 subst hdm
 have f1:=wS (i:=i) (by omega)
 have gA:=S.gA
 have gO:=S.gO
 have gb:=S.gb
 by_cases hc:(i:Int)<(ord.length:Int)
 case pos =>
  have hr:=D9 (show i<ord.length by omega)
  generalize ord[i]=b at hr
  have ixr:=jl hr
  have hbn:=o3 b (Ea hr)
  have ib:=eu (b:=bo) (e:=58) (n:=D.length) (i:=b) (by omega)
  have hput:=fB (f:=ce) (l:=D) (i:=b) (by omega) all
  have hle:=hE (f:=ce) (l:=D) (i:=b) (by omega)
  have uc:AV.int .u64 (all:Int)=ce all:=rfl
  rw [← uc] at hput
  simp -implicitDefEqProofs only [RA,ae,zp,↓reduceIte,reduceCtorEq,zq,zr,zs,zt,↓az,↓aA,↓ar,↓aq,↓aw,↓au,↓ak,↓aj,↓aC,↓aB,↓aE,↓aD,unA,ne_eq,not_true_eq_false,not_false_eq_true,wE,qE,g1,g4,g5,g6,g36,g37,g38,hc,ixr,gA,gO,gb,ib,hput,hle,f1]
  refine ⟨ord.length-(i+1),by omega,i+1,D.set b all,rfl,by omega,rfl,by rw [EL];exact hDl,fun c=>?_,S.set b all⟩
  rw [fh D b all c (by omega),hD,aO hr]
  by_cases e:c=b
  ·subst e;simp
  ·simp [e]
 rw [show ord.take i=ord from Ec (by omega)] at hD
 have i0:=eu (b:=bo) (e:=58) (n:=D.length) (i:=0) (by omega)
 have hput:=fB (f:=ce) (l:=D) (i:=0) (by omega) 1
 have hle:=hE (f:=ce) (l:=D) (i:=0) (by omega)
 have uc:AV.int .u64 (1:Int)=ce 1:=rfl
 rw [← uc] at hput
 rw [Nat.zero_add] at hput hle
 rw [show ((0:Nat):Int)=0 from rfl] at i0
 rw [List.take_zero,List.nil_append] at hput
 simp -implicitDefEqProofs only [RA,ae,zp,↓reduceIte,reduceCtorEq,zq,zr,zs,zt,↓az,↓aA,↓ar,↓aq,↓aw,↓au,↓ak,↓aj,↓aC,↓aB,↓aE,↓aD,unA,ne_eq,not_true_eq_false,not_false_eq_true,wE,qE,g1,g4,g5,g6,g36,g37,g38,hc,gO,gb,i0,hle,hput]
 have hun:∀ b,¬ Rch (nbG g) b→(D.set 0 1).getD b 0=0:=fun b hb=>by
  rw [fh D 0 1 b (by omega),if_neg (fun e=>hb (by rw [e];exact .zero)),hD,if_neg (fun h=>hb ((o2 b).1 h))]
 have hI:DI (nbG g) fun b=>(D.set 0 1).getD b 0:=DI.first hall hallt (by rw [fh D 0 1 0 (by omega),if_pos rfl]) (fun b h1 h2=>by rw [fh D 0 1 b (by omega),if_neg h1,hD,if_pos ((o2 b).2 h2)]) hun
 refine vu G o1 o2 o3 o4 hall hallt (cG:=nx) (cO:=cO) (bo:=bo) (cA:=k1) (D1:=D.set 0 1) (by simp [ah,g1]) (by simp [ah,g4]) (by simp [ah,g5]) (by simp [ah,g6]) (by rw [EL];exact hDl) hI (S.set 0 1) ?_
 intro env' h' n' dm' e2 hdm hb hlt
 simp -implicitDefEqProofs only [RA,ae,zp,↓reduceIte,reduceCtorEq,zq,zr,zs,zt,↓az,↓aA,↓ar,↓aq,↓aw,↓au,↓ak,↓aj,↓aC,↓aB,↓aE,↓aD,unA,ne_eq,not_true_eq_false,not_false_eq_true,kT,R39,e2]
 refine ⟨hdm,_,rfl,.inr ⟨bo,?_,by rw [nS];exact hb,hlt⟩⟩
 simp [kO]
theorem xZ (D:List Nat):eB (.lst 1 (D.map iJ))=some D.length:=by simp [dt]
theorem rN {D:List Nat} {n x:Nat} (h:D[n]?=some x):idxA 1 (.lst 1 (D.map iJ)) (n:Int)=some (.fp [.int .u64 x]):=bI h
theorem jE {P:Pi} {g:Fn} (G:GdF P g):∀ x,Rch (nbG g) x→x<g.blocks.length:=fun x hx=>by
 unfold Rch at hx
 cases hx with
 | nil _=>exact G.n1
 | snoc _ hc _=>exact lU G _ _ hc
def Que (h:Heap) (nx:Nat) (v:AV) (l:List Nat):Prop:=∃ b off cs,v=.os b off 3 1 l.length∧ay h b=some (.cells cs)∧cs.length=off+l.length∧cs.drop off=l.map icN∧b<nx
theorem Que.len {h:Heap} {nx:Nat} {v:AV} {l:List Nat} (q:Que h nx v l):eB v=some l.length:=by obtain ⟨b,off,cs,rfl,_⟩:=q;rfl
theorem Que.lt {h:Heap} {nx:Nat} {v:AV} {l:List Nat} (q:Que h nx v l) {k:Nat} (hk:aS v=some k):k<nx:=by
 obtain ⟨b,off,cs,rfl,_,_,_,hlt⟩:=q
 simp only [aS] at hk;cases hk;exact hlt
theorem Que.keep {h h':Heap} {nx nx':Nat} {v:AV} {l:List Nat} (q:Que h nx v l) (hn:nx≤nx') (hk:∀ k o,aS v=some k→ay h k=some o→ay h' k=some o):Que h' nx' v l:=by
 obtain ⟨b,off,cs,rfl,h1,h2,h3,h4⟩:=q
 exact ⟨b,off,cs,rfl,hk _ _ rfl h1,h2,h3,by omega⟩
theorem Que.head {h:Heap} {nx:Nat} {v:AV} {x:Nat} {r:List Nat} (q:Que h nx v (x::r)):∃ p cs,idxA 1 v 0=some p∧bx h p=some (.int .i64 x::cs)∧p.isFp=false:=by
 obtain ⟨b,off,cs,rfl,h1,h2,h3,h4⟩:=q
 refine ⟨.op b off,r.map icN,?_,?_,rfl⟩
 ·simp [idxA]
 ·simp only [bx,h1,h3];rfl
theorem Que.tail {h:Heap} {nx:Nat} {v:AV} {x:Nat} {r:List Nat} (q:Que h nx v (x::r)):∃ v',ln 1 v 1 (r.length+1) none=some v'∧Que h nx v' r∧aS v'=aS v:=by
 obtain ⟨b,off,cs,rfl,h1,h2,h3,h4⟩:=q
 refine ⟨.os b (off+1) 3 1 r.length,?_,⟨b,off+1,cs,rfl,h1,by simp only [Ee] at h2;omega,?_,h4⟩,rfl⟩
 ·simp [ln]
 ·rw [← List.drop_drop,h3];rfl
theorem xp {own:Nat→Nat→Bool} {ro:Option Nat} {N:Nat} {F:List Fr} {Q:AX→ASt→Prop} {r:List aX} {st:ASt} {d x y:Nat} {v:AV} {l:List Nat} {c:Nat} (hx:ah st.env x=some v) (hy:ah st.env y=some (.lst 1 [[.int .i64 c]])) (hq:Que st.heap st.nx v l) (hl:l.length+1≤4000000)
  (hk:∀ v' h' n',Que h' n' v' (l++[c])→(∀ k o,k<st.nx→aS v≠some k→ay st.heap k=some o→ay h' k=some o)→st.nx≤n'→(∀ k,aS v'=some k→st.nx≤k∨aS v=some k)→rg Tryd.prog own ro N F Q r { st with env:=(d,v')::st.env,heap:=h',nx:=n' }) :
  rg Tryd.prog own ro N F Q (⟨some d,none,.op (.app 3 1 8 (.tmp x) (.tmp y))⟩::r) st:=by
 obtain ⟨b,off,cs,rfl,h1,h2,h3,h4⟩:=hq
 rw [rm]
 simp only [aZ,Ca,y8]
 have hby:(l.length+1)*8≤140737488355328:=by omega
 have hmx:l.length+1≤maxLen:=by simp only [maxLen];omega
 have sc:bU st.heap (.lst 1 [[.int .i64 (c:Int)]])=some (1,[.int .i64 (c:Int)]):=by simp [bU]
 have hmv:∀ k o,k<st.nx→aS (.os b off 3 1 l.length)≠some k→ay st.heap k=some o→ay ((st.nx,AO.cells (cs.drop off++[.int .i64 c]))::bQ st.heap b) k=some o:=fun k o k1 k2 k3=>by
  rw [af,if_neg (by omega),bq (fun e=>k2 (by rw [e];rfl))];exact k3
 have hnew:Que ((st.nx,AO.cells (cs.drop off++[.int .i64 c]))::bQ st.heap b) (st.nx+1) (.os st.nx 0 3 1 (l.length+1)) (l++[c]) :=
  ⟨st.nx,0,_,by simp,by rw [af,if_pos rfl],by simp;omega,by rw [List.drop_zero,h3];simp [icN],by omega⟩
 by_cases h0:off=0
 ·subst h0
  have hop:aR (.app 3 1 8 (.tmp x) (.tmp y)) st.env st.heap st.nx=some (.val (.os st.nx 0 3 1 (l.length+1)),(st.nx,.cells (cs++[.int .i64 c]))::bQ st.heap b,st.nx+1):=by
   simp only [aR,oev,hx,hy,iR,sc,h1]
   simp [jb,hby,hmx,show cs.length=l.length by omega]
  rw [hop,uJ]
  rw [List.drop_zero] at hnew hmv
  exact hk _ _ _ hnew hmv (by omega) fun k e=>.inl (by simp only [aS] at e;cases e;omega)
 ·have hop:aR (.app 3 1 8 (.tmp x) (.tmp y)) st.env st.heap st.nx=none:=by
   simp only [aR,oev,hx,hy,iR,sc,h1]
   simp [jb,h0]
  have ha:ap2 ⟨some d,none,.op (.app 3 1 8 (.tmp x) (.tmp y))⟩ st=some ((.os b off 3 1 (l.length+1),bA st.heap b (.cells (cs++[.int .i64 c])),st.nx),(.os st.nx 0 3 1 (l.length+1),(st.nx,.cells (cs.drop off++[.int .i64 c]))::bQ st.heap b,st.nx+1)):=by
   simp only [ap2,oev,hx,hy,h1]
   simp [hby,hmx,h2]
  rw [hop]
  simp only [oK,ha]
  refine ⟨hk _ _ _ ⟨b,off,_,by simp,by rw [bG,if_pos rfl],by simp;omega,?_,h4⟩ (fun k o k1 k2 k3=>?_) (E5 _) fun k e=>.inr e,hk _ _ _ hnew hmv (by omega) fun k e=>.inl (by simp only [aS] at e;cases e;omega)⟩
  ·rw [List.drop_append_of_le_length (by omega),h3];simp [icN]
  ·rw [dZ (fun e=>k2 (by rw [e];rfl))];exact k3
structure WI (G:Nat→List Nat) (av:Nat→Prop) (n fr:Nat) (S Q:List Nat) (ex:Nat→Prop):Prop where
 nd:S.Nodup
 lt:∀ x∈S,x<n
 wy:∀ x∈S,Wy G av fr x
 sub:∀ x∈Q,x∈S
 fr:fr∈S
 cl:∀ u∈S,¬ ex u→u∈Q∨∀ c∈G u,¬ av c→c∈S
theorem WI.add {G:Nat→List Nat} {av:Nat→Prop} {n fr c u:Nat} {S Q:List Nat} {ex:Nat→Prop} (w:WI G av n fr S Q ex) (hc:c<n) (hn:c∉S) (hv:¬ av c) (hu:u∈S) (hcu:c∈G u):WI G av n fr (c::S) (Q++[c]) ex:=by
 refine ⟨List.nodup_cons.2 ⟨hn,w.nd⟩,fun x hx=>?_,fun x hx=>?_,fun x hx=>?_,List.mem_cons_of_mem _ w.fr,fun x hx he=>?_⟩
 ·rcases En.1 hx with e|e
  ·omega
  ·exact w.lt x e
 ·rcases En.1 hx with e|e
  ·subst e;exact .snoc (w.wy u hu) hcu hv
  ·exact w.wy x e
 ·rcases Eo.1 hx with e|e
  ·exact List.mem_cons_of_mem _ (w.sub x e)
  ·simp at e;subst e;exact List.mem_cons_self
 ·rcases En.1 hx with e|e
  ·subst e;exact .inl (by simp)
  ·rcases w.cl x e he with h|h
   ·exact .inl (List.mem_append_left _ h)
   ·exact .inr fun d hd hdv=>List.mem_cons_of_mem _ (h d hd hdv)
noncomputable def wyL (G:Nat→List Nat) (n fr:Nat) (av:Nat→Prop):List Bool:=(List.range n).map fun x=>dc (Wy G av fr x)
theorem WI.done {G:Nat→List Nat} {av:Nat→Prop} {n fr:Nat} {S:List Nat} (w:WI G av n fr S [] fun _=>False):blL n S=wyL G n fr av:=by
 unfold blL wyL
 apply List.map_congr_left
 intro x _
 rw [← pW]
 refine gv ⟨fun h=>w.wy x h,fun h=>h.closed (S:=fun x=>x∈S) w.fr fun u c hu hc hv=>?_⟩
 rcases w.cl u hu (fun h=>h) with h|h
 ·simp at h
 ·exact h c hc hv
theorem w59 {P:Pi} {g:Fn} (G:GdF P g) (fr:Nat) (but:Int) (hfr:fr<g.blocks.length):Pure Tryd.prog 19 [ntA (ntF g),.int .i64 fr,.int .i64 but] (.lst 1 ((wyL (nbG g) g.blocks.length fr fun y=>(y:Int)=but).map fun b=>[.bool b])):=by
 have hall:∀ z∈(wyL (nbG g) g.blocks.length fr fun y=>(y:Int)=but).map fun b=>[AV.bool b],z.length=1:=fun z hz=>by
  obtain ⟨r,_,rfl⟩:=List.mem_map.1 hz;rfl
 refine Pure.own (e:=4) hall fun nx=>AC.go aI is59 (by simp) ?_
 have hn60:=G.n2
 have hn1:=G.n1
 have hNl:=jf g
 have lN:=kH (ntF g)
 have hG:=lU G
 obtain ⟨n,hn⟩:∃ n,n=g.blocks.length:=⟨_,rfl⟩
 rw [← hn] at hNl hfr hn60 hn1 hG ⊢
 rw [hNl] at lN
 have hmk:=ol (n:=n) (b:=1) (by omega) (by omega)
 have mkb:=uS n
 have n1:(nx+1=nx)=False:=eq_false (by omega)
 have hfl:∀ l:List Bool,(l.map fun b=>[AV.bool b]).flatten=l.map .bool:=fun l=>by
  induction l with
  | nil=>rfl
  | cons a r ih=>simp only [List.map_cons,List.flatten_cons,ih];rfl
 have hwl:(wyL (nbG g) n fr fun y=>(y:Int)=but).length=n:=by simp [wyL]
 rcases ai ((fr:Int)=but) with ⟨c1,d1⟩|⟨c1,d1⟩
 ·simp -implicitDefEqProofs only [RA,ae,zp,↓reduceIte,reduceCtorEq,zq,zr,zs,zt,↓az,↓aA,↓ar,↓aq,↓aw,↓au,↓ak,↓aj,↓aC,↓aB,↓aE,↓aD,unA,ne_eq,not_true_eq_false,not_false_eq_true,A59,Bf,lN,hmk,mkb,d1,Fg,R59]
  refine ⟨_,rfl,.inr ⟨nx,by simp [hwl],?_,by omega⟩⟩
  rw [af,if_pos rfl,hfl]
  have:blL n []=wyL (nbG g) n fr fun y=>(y:Int)=but:=by
   unfold blL wyL
   apply List.map_congr_left
   intro x _
   rw [← pW]
   exact gv ⟨fun h=>by simp at h,fun h=>absurd c1 h.start_ok⟩
  rw [this]
 have ib:=eu (b:=nx) (e:=4) (n:=n) (i:=fr) hfr
 have hput:=fB (f:=AV.bool) (l:=blL n []) (i:=fr) (by rw [fD];omega) true
 rw [rU] at hput
 have hle:=hE (f:=AV.bool) (l:=blL n []) (i:=fr) (by rw [fD];omega)
 simp -implicitDefEqProofs only [RA,ae,zp,↓reduceIte,reduceCtorEq,zq,zr,zs,zt,↓az,↓aA,↓ar,↓aq,↓aw,↓au,↓ak,↓aj,↓aC,↓aB,↓aE,↓aD,unA,ne_eq,not_true_eq_false,not_false_eq_true,A59,Bf,lN,hmk,mkb,d1,Fg,ib,hput,hle,n1]
 refine aJ (fun q st=>∃ (S Q:List Nat) (v:AV),q=2*(n-S.length)+Q.length∧q≤200∧ah st.env 0=some (ntA (ntF g))∧ah st.env 2=some (.int .i64 but)∧ah st.env 7=some (.os nx 0 4 1 n)∧ah st.env 8=some v∧ay st.heap nx=some (.cells ((blL n S).map .bool))∧Que st.heap st.nx v Q∧aS v≠some nx∧nx<st.nx∧WI (nbG g) (fun y=>(y:Int)=but) n fr S Q (fun _=>False)∧st.dm=[]) (n:=2*(n-1)+1) aI
  ⟨[fr],[fr],_,rfl,by omega,by simp [ah],by simp [ah],by simp [ah],by simp [ah];rfl,?_,?_,?_,by simp only;omega,⟨by simp,by simpa using hfr,fun x hx=>by simp at hx;subst hx;exact .nil c1,by simp,by simp,fun u hu _=>.inl hu⟩,rfl⟩ ?_
 ·simp only;rw [af,if_neg (by omega),af,if_pos rfl]
 ·exact ⟨nx+1,0,[.int .i64 fr],rfl,by simp only;rw [af,if_pos rfl];rfl,rfl,rfl,by simp only;omega⟩
 ·simp [aS]
 rintro q ⟨env,heap,nx',dm⟩ ⟨S,Q,v,rfl,hq2,g0,g2,g7,g8,gS,qu,hne,hlt,wi,hdm⟩
 simp only at g0 g2 g7 g8 gS qu hlt hdm
 subst hdm
 have lQ:=qu.len
 cases Q with
 | nil =>
  have hd:=wi.done
  rw [hd] at gS
  simp -implicitDefEqProofs only [RA,ae,zp,↓reduceIte,reduceCtorEq,zq,zr,zs,zt,↓az,↓aA,↓ar,↓aq,↓aw,↓au,↓ak,↓aj,↓aC,↓aB,↓aE,↓aD,unA,ne_eq,not_true_eq_false,not_false_eq_true,wp,qw,g0,g2,g7,g8,lQ,show ((0:Int)<((0:Nat):Int))=False from by simp,R59]
  exact ⟨_,rfl,.inr ⟨nx,by simp [hwl],by rw [hfl];exact gS,hlt⟩⟩
 | cons b Q' =>
 have hbS:=wi.sub b (by simp)
 have hbn:=wi.lt b hbS
 obtain ⟨p,cs,ip,pc,pf⟩:=qu.head
 obtain ⟨v',sl,qu',bv⟩:=qu.tail
 rw [Ee] at lQ
 simp -implicitDefEqProofs only [RR,RE,RG,ae,zp,↓reduceIte,reduceCtorEq,zq,zr,zs,zt,wp,qw,g0,g2,g7,g8,lQ,ip,pc,show ((0:Int)<((Q'.length+1:Nat):Int))=True from eq_true (by omega),bnd,sl,nn,show (0≤(1:Int))=True from by decide,show ((1:Int)).toNat=1 from rfl]
 have hblk:=D9 (l:=g.blocks) (show b<g.blocks.length by omega)
 generalize g.blocks[b]=blk at hblk
 have nbe:=e8 hblk
 have ixN:=uK (uM hblk)
 rw [nsE] at ixN
 have lr:=eQ (nxL blk.to)
 have hto:=G.to2 blk (Ea hblk)
 have hnl:=rx blk.to
 have hnbl:(nbG g b).length=(nxL blk.to).length:=by rw [nbe,List.length_map]
 have hval:∀ i,i<(nxL blk.to).length→∃ c:Nat,(nxL blk.to)[i]?=some (c:Int)∧c<n∧(nbG g b)[i]?=some c:=fun i hi=>by
  have hr:=D9 hi
  have hx:=gY G hblk (Ea hr)
  refine ⟨((nxL blk.to)[i]).toNat,?_,by omega,?_⟩
  ·rw [hr];congr 1;omega
  ·rw [nbe,List.getElem?_map,hr];rfl
 have hSn:=dk n wi.nd wi.lt
 obtain ⟨q0,hq0⟩:∃ q0,q0=2*(n-S.length)+(Q'.length+1):=⟨_,rfl⟩
 rw [← hq0]
 rw [Ee] at hq2
 have hq3:q0≤200:=by omega
 clear hq2
 refine aJ (fun q st=>∃ (i:Nat) (S:List Nat) (Q:List Nat) (v:AV),q=(nxL blk.to).length-i∧i≤(nxL blk.to).length∧ah st.env 0=some (ntA (ntF g))∧ah st.env 2=some (.int .i64 but)∧ah st.env 7=some (.os nx 0 4 1 n)∧ah st.env 8=some v∧ah st.env 9=some (.int .i64 b)∧ah st.env 10=some (.int .i64 i)∧ay st.heap nx=some (.cells ((blL n S).map .bool))∧Que st.heap st.nx v Q∧aS v≠some nx∧nx<st.nx∧WI (nbG g) (fun y=>(y:Int)=but) n fr S Q (fun u=>u=b) ∧
   b∈S∧(∀ c∈(nbG g b).take i,¬ ((c:Int)=but)→c∈S)∧2*(n-S.length)+Q.length<q0∧st.dm=[]) (n:=(nxL blk.to).length) aI
  ⟨0,S,Q',v',rfl,by omega,by simp [ah,g0],by simp [ah,g2],by simp [ah,g7],by simp [ah],by simp [ah],by simp [ah],gS,qu',by rw [bv];exact hne,hlt,⟨wi.nd,wi.lt,wi.wy,fun x hx=>wi.sub x (by simp [hx]),wi.fr,fun u hu he=>?_⟩,hbS,by simp,by omega,rfl⟩ ?_
 ·rcases wi.cl u hu (fun h=>h) with h|h
  ·rcases En.1 h with e|e
   ·exact absurd e he
   ·exact .inl e
  ·exact .inr h
 clear g0 g2 g7 g8 gS qu hne hlt wi hbS hSn lQ ip pc pf sl qu' bv hq0
 rintro q ⟨env,heap,nx2,dm⟩ ⟨i,S,Q,v,rfl,hi,g0,g2,g7,g8,g9,g10,gS,qu,hne,hlt,wi,hbS,hpart,hms,hdm⟩
 simp only at g0 g2 g7 g8 g9 g10 gS qu hlt hdm
 subst hdm
 have f1:=wS (i:=i) (by omega)
 have hSn:=dk n wi.nd wi.lt
 by_cases hc:(i:Int)<((nxL blk.to).length:Int)
 case neg =>
  rw [show (nbG g b).take i=nbG g b from Ec (by omega)] at hpart
  simp -implicitDefEqProofs only [RA,ae,zp,↓reduceIte,reduceCtorEq,zq,zr,zs,zt,↓az,↓aA,↓ar,↓aq,↓aw,↓au,↓ak,↓aj,↓aC,↓aB,↓aE,↓aD,unA,ne_eq,not_true_eq_false,not_false_eq_true,ph,lc,g0,g2,g7,g8,g9,g10,ixN,lr,hc]
  refine ⟨_,hms,S,Q,v,rfl,by omega,rfl,gS,qu,hne,hlt,⟨wi.nd,wi.lt,wi.wy,wi.sub,wi.fr,fun u hu _=>?_⟩⟩
  by_cases e:u=b
  ·subst e;exact .inr hpart
  ·exact wi.cl u hu e
 obtain ⟨c,hr,hcn,hnb⟩:=hval i (by omega)
 have ixr:=eR hr
 rw [inE] at ixr
 have htk:=aO hnb
 rcases ai ((c:Int)=but) with ⟨j1,i1⟩|⟨j1,i1⟩
 ·simp -implicitDefEqProofs only [RA,ae,zp,↓reduceIte,reduceCtorEq,zq,zr,zs,zt,↓az,↓aA,↓ar,↓aq,↓aw,↓au,↓ak,↓aj,↓aC,↓aB,↓aE,↓aD,unA,ne_eq,not_true_eq_false,not_false_eq_true,ph,lc,g0,g2,g7,g8,g9,g10,ixN,lr,hc,ixr,i1,f1]
  refine ⟨(nxL blk.to).length-(i+1),by omega,i+1,S,Q,v,rfl,by omega,rfl,rfl,gS,qu,hne,hlt,wi,hbS,fun d hd hdv=>?_,hms⟩
  rw [htk] at hd
  rcases Eo.1 hd with h|h
  ·exact hpart d h hdv
  ·simp at h;subst h;exact absurd j1 hdv
 have ic:=eu (b:=nx) (e:=4) (n:=n) (i:=c) hcn
 have hdr:=hO (f:=AV.bool) (na (n:=n) (s:=S) (x:=c) hcn)
 rcases ai (c∈S) with ⟨j2,i2⟩|⟨j2,i2⟩
 ·simp -implicitDefEqProofs only [RA,ae,zp,↓reduceIte,reduceCtorEq,zq,zr,zs,zt,↓az,↓aA,↓ar,↓aq,↓aw,↓au,↓ak,↓aj,↓aC,↓aB,↓aE,↓aD,unA,ne_eq,not_true_eq_false,not_false_eq_true,ph,lc,g0,g2,g7,g8,g9,g10,ixN,lr,hc,ixr,i1,ic,gS,hdr,i2,f1]
  refine ⟨(nxL blk.to).length-(i+1),by omega,i+1,S,Q,v,rfl,by omega,rfl,rfl,rfl,qu,hne,hlt,wi,hbS,fun d hd hdv=>?_,hms⟩
  rw [htk] at hd
  rcases Eo.1 hd with h|h
  ·exact hpart d h hdv
  ·simp at h;subst h;exact j2
 have hput2:=fB (f:=AV.bool) (l:=blL n S) (i:=c) (by rw [fD];omega) true
 rw [rU] at hput2
 have hle2:=hE (f:=AV.bool) (l:=blL n S) (i:=c) (by rw [fD];omega)
 obtain ⟨YY,hYY⟩:∃ YY:(Nat→Nat→Bool)→Option Nat→Nat→List Fr→(AX→ASt→Prop)→ASt→Prop,∀ own ro N F Q st,rg Tryd.prog own ro N F Q [⟨some 64,none,.op (.app 3 1 8 (.tmp 61) (.tmp 63))⟩,⟨some 8,none,.op (.move (.tmp 64))⟩] st=YY own ro N F Q st:=⟨_,fun _ _ _ _ _ _=>rfl⟩
 simp -implicitDefEqProofs only [RA,ae,zp,↓reduceIte,reduceCtorEq,zq,zr,zs,zt,↓az,↓aA,↓ar,↓aq,↓aw,↓au,↓ak,↓aj,↓aC,↓aB,↓aE,↓aD,unA,ne_eq,not_true_eq_false,not_false_eq_true,ph,lc,↓hYY,g0,g2,g7,g8,g9,g10,ixN,lr,hc,ixr,i1,ic,gS,hdr,i2,hput2,hle2]
 rw [← hYY]
 have qu2:Que ((nx,AO.cells (List.map AV.bool (blL n (c::S))))::heap) nx2 v Q:=qu.keep (E5 _) fun k o h1 h2=>by
  rw [af,if_neg (fun e=>hne (by rw [h1,e]))];exact h2
 refine xp (v:=v) (l:=Q) (c:=c) (by simp [ah]) (by simp [ah]) qu2 (by omega) ?_
 intro v5 h5 n5 qu5 hk5 hn5 id5
 simp only at hn5 hk5 id5
 have gS5:=hk5 nx _ hlt hne (by rw [af,if_pos rfl])
 have hcl:(c::S).length≤n:=dk n (List.nodup_cons.2 ⟨j2,wi.nd⟩) fun x hx=>by
  rcases En.1 hx with e|e
  ·omega
  ·exact wi.lt x e
 rw [Ee] at hcl
 simp -implicitDefEqProofs only [RA,ae,zp,↓reduceIte,reduceCtorEq,zq,zr,zs,zt,↓az,↓aA,↓ar,↓aq,↓aw,↓au,↓ak,↓aj,↓aC,↓aB,↓aE,↓aD,unA,ne_eq,not_true_eq_false,not_false_eq_true,g0,g2,g7,g8,g9,g10,f1]
 refine ⟨(nxL blk.to).length-(i+1),by omega,i+1,c::S,Q++[c],v5,rfl,by omega,rfl,rfl,gS5,qu5,fun e=>?_,by omega,wi.add hcn j2 j1 hbS (Ea hnb),List.mem_cons_of_mem _ hbS,fun d hd hdv=>?_,by simp;omega⟩
 ·rcases id5 _ e with h|h
  ·omega
  ·exact hne h
 ·rw [htk] at hd
  rcases Eo.1 hd with h|h
  ·exact List.mem_cons_of_mem _ (hpart d h hdv)
  ·simp at h;subst h;exact List.mem_cons_self
end Go.Proofs.YtkhjclmfbmfahaaDoor
