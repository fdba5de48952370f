/- Dominators by rounds. -/
import Derived.Test.YtkhjclmfbmfahaaGreatDoorGL
namespace Go.Proofs.YtkhjclmfbmfahaaGreatDoor
open List renaming getElem?_eq_getElem → DN, mem_of_getElem? → DO, take_of_length_le → DQ, length_cons → DV, map_append → D7, mem_cons → D8, mem_append → D9, length_set → Ew
open Bool renaming and_eq_true → EF, true_and → EG, false_and → EH
open Nat renaming le_refl → EQ
open Int renaming toNat_natCast → E0
set_option maxHeartbeats 64000000
open Go Go.Ab Go.Proofs
open Nat renaming reduceEqDiff → zp, reduceAdd → zq, reduceLeDiff → zr, reduceLT → zs, reduceBEq → zt
set_option linter.unusedVariables false
set_option linter.unusedSimpArgs false
set_option maxRecDepth 20000
theorem lH:∀ (dm:List Nat) (h:Heap) (k:Nat),k∉dm→aA (eV h dm) k=aA h k
 | [],_,_,_=>rfl
 | b::r,h,k,hk=>by
  simp only [D8,not_or] at hk
  rw [eV,lH r _ k hk.2,br hk.1]
theorem rG:∀ (dm:List Nat) (h:Heap),dm.Nodup→(∀ d∈dm,aA h d=some .dfd)→kC h dm
 | [],_,_,_=>trivial
 | b::r,h,hn,hd=>by
  obtain ⟨n1,n2⟩:=List.nodup_cons.1 hn
  exact ⟨hd b (by simp),rG r _ n2 fun d hm=>by rw [br (fun e=>n1 (by rw [← e];exact hm))];exact hd d (List.mem_cons_of_mem _ hm)⟩
theorem vm (rs:List RV) (Q:AE→Heap→Nat→Prop) (env:Env) (h:Heap) (n:Nat) (dm:List Nat):Ab.Fin rs Q .ret ⟨env,h,n,dm⟩=(kC h dm∧∃ ys,dW env (eV h dm) rs=some ys∧Q (.ret (gH ys)) (eV h dm) n):=by simp [Ab.Fin]
structure DS (g:Fn) (cG cO bo cA all:Nat) (h:Heap) (nx:Nat) (dm D:List Nat):Prop where
 gG:aA h cG=some (.cells (fnE g))
 gO:aA h cO=some (.cells [.os bo 0 78 1 D.length])
 gb:aA h bo=some (.cells (D.map dK))
 gA:aA h cA=some (.cells [.int .u64 all])
 lt:cG<nx∧cO<nx∧bo<nx∧cA<nx
 ne:cG≠cO∧cG≠bo∧cG≠cA∧cO≠bo∧cO≠cA∧bo≠cA
 d1:∀ d∈dm,d<nx∧aA h d=some .dfd
 d2:dm.Nodup
theorem DS.ext {g:Fn} {cG cO bo cA all:Nat} {h h':Heap} {nx nx':Nat} {dm D:List Nat} (S:DS g cG cO bo cA all h nx dm D) (hn:nx≤nx') (hk:∀ k o,k<nx→aA h k=some o→aA h' k=some o):DS g cG cO bo cA all h' nx' dm D :=
 ⟨hk _ _ S.lt.1 S.gG,hk _ _ S.lt.2.1 S.gO,hk _ _ S.lt.2.2.1 S.gb,hk _ _ S.lt.2.2.2 S.gA,by have:=S.lt;omega,S.ne,fun d hd=>⟨by have:=(S.d1 d hd).1;omega,hk _ _ (S.d1 d hd).1 (S.d1 d hd).2⟩,S.d2⟩
theorem DS.set {g:Fn} {cG cO bo cA all:Nat} {h:Heap} {nx:Nat} {dm D:List Nat} (S:DS g cG cO bo cA all h nx dm D) (b v:Nat):DS g cG cO bo cA all ((bo,.cells ((D.set b v).map dK))::h) nx dm (D.set b v):=by
 obtain ⟨a1,a2,a3,a4,a5,a6,a7,a8⟩:=S
 refine ⟨by rw [af,if_neg (by omega)];exact a1,by rw [af,if_neg (by omega),Ew];exact a2,by rw [af,if_pos rfl],by rw [af,if_neg (by omega)];exact a4,a5,a6,fun d hd=>⟨(a7 d hd).1,?_⟩,a8⟩
 rw [af,if_neg (fun e=>?_)]
 ·exact (a7 d hd).2
 ·have:=(a7 d hd).2
  rw [← e,a3] at this;cases this
theorem DS.all {g:Fn} {cG cO bo cA all:Nat} {h:Heap} {nx:Nat} {dm D:List Nat} (S:DS g cG cO bo cA all h nx dm D) (v:Nat):DS g cG cO bo cA v ((cA,.cells [.int .u64 v])::h) nx dm D:=by
 obtain ⟨a1,a2,a3,a4,a5,a6,a7,a8⟩:=S
 refine ⟨by rw [af,if_neg (by omega)];exact a1,by rw [af,if_neg (by omega)];exact a2,by rw [af,if_neg (by omega)];exact a3,by rw [af,if_pos rfl],a5,a6,fun d hd=>⟨(a7 d hd).1,?_⟩,a8⟩
 rw [af,if_neg (fun e=>?_)]
 ·exact (a7 d hd).2
 ·have:=(a7 d hd).2
  rw [← e,a4] at this;cases this
def kH (l:List Nat):Nat:=l.foldl (fun m b=>m ||| 2 ^ b) 0
theorem th (l:List Nat) (b:Nat):kH (l++[b])=kH l ||| 2 ^ b:=by simp [kH,List.foldl_append]
theorem rT (i:Nat):∀ (l:List Nat) (m:Nat),(l.foldl (fun m b=>m ||| 2 ^ b) m).testBit i=(m.testBit i||decide (i∈l))
 | [],m=>by simp
 | b::l,m=>by
  rw [List.foldl_cons,rT i l,Nat.testBit_or,Nat.testBit_two_pow]
  by_cases h:b=i
  ·subst h;simp
  ·have h':¬ i=b:=fun e=>h e.symm
   simp [h,h']
theorem ya (l:List Nat) (i:Nat):(kH l).testBit i=decide (i∈l):=by rw [kH,rT];simp
theorem rU:∀ (l:List Nat) (m:Nat),m<18446744073709551616→(∀ x∈l,x<64)→l.foldl (fun m b=>m ||| 2 ^ b) m<18446744073709551616
 | [],m,h,_=>h
 | b::l,m,h,hl=>rU l _ (yF h (mq (hl b (by simp)))) fun x hx=>hl x (List.mem_cons_of_mem _ hx)
theorem rS {l:List Nat} (h:∀ x∈l,x<64):kH l<18446744073709551616:=rU l 0 (by omega) h
theorem zV (n:Nat):(List.replicate n [AV.int .u64 0]).flatten=(List.replicate n 0).map dK:=by
 rw [show (List.replicate n [AV.int .u64 0]).flatten=List.replicate n (AV.int .u64 0) by simp,List.map_replicate];rfl
theorem ko (G:Nat→List Nat) (D:Nat→Nat) (b a:Nat):∀ (l:List Nat) (m:Nat),fE G D b (l++[a]) m=(G a).foldl (fun m c=>if c=b then m &&& D a else m) (fE G D b l m)
 | [],m=>rfl
 | x::l,m=>by simp only [List.cons_append,fE,ko G D b a l]
theorem kp (G:Nat→List Nat) (D:Nat→Nat) (b:Nat):∀ (l:List Nat) (m:Nat),fE G D b l m≤m
 | [],m=>EQ _
 | x::l,m=>Nat.le_trans (kp G D b l _) (mG b (D x) (G x) m)
theorem uU {P:Pi} {g:Fn} (G:GdF P g) {ord rest:List Nat} {all cG cO bo cA:Nat} (o1:ord.Nodup) (o2:∀ x,x∈ord↔Rch (nbG g) x) (o3:∀ x∈ord,x<g.blocks.length) (o4:ord=0::rest)
  (hall:∀ x,all.testBit x=true↔Rch (nbG g) x) (hallt:all<18446744073709551616) {D1:List Nat} {st:ASt} {Q:AX→ASt→Prop}
  (g1:ai st.env 1=some (.op cG 0)) (g4:ai st.env 4=some (.op cO 0)) (g5:ai st.env 5=some (e8 ord)) (g6:ai st.env 6=some (.op cA 0)) (hl1:D1.length=g.blocks.length) (hI1:DI (nbG g) fun b=>D1.getD b 0)
  (S1:DS g cG cO bo cA all st.heap st.nx st.dm D1)
  (hQ:∀ env' h' n' dm',ai env' 2=some (.os bo 0 78 1 g.blocks.length)→kC h' dm'→aA (eV h' dm') bo=some (.cells ((mJ (nbG g) g.blocks.length).map dK))→bo<n'→Q .ret ⟨env',h',n',dm'⟩) :
  AW Tryz.prog (fun _ _=>false) none 91 (.loop wj) Q st:=by
 have hn1:=G.n1
 have hn60:=G.n2
 have ff:=bG g
 have fl:=iD g
 have ft:=ik g
 have hol:=cq _ o1 o3
 have lo:=kv ord
 have lr:=kv rest
 have hor:ord.length=rest.length+1:=by rw [o4];rfl
 have hG:=iX G
 have hslc:kV 1 (e8 ord) 1 ord.length none=some (e8 rest):=by
  have e2:(rest.map fun x:Nat=>inE (x:Int)).take rest.length=rest.map fun x:Nat=>inE (x:Int):=DQ (by simp)
  rw [o4];simp [kV,e8,inN,e2]
 refine aJ (F:=[]) (Q:=Q) (fun q st=>∃ D:List Nat,q=D.sum∧ai st.env 1=some (.op cG 0)∧ai st.env 4=some (.op cO 0)∧ai st.env 5=some (e8 ord)∧ai st.env 6=some (.op cA 0)∧D.length=g.blocks.length∧DI (nbG g) (fun b=>D.getD b 0)∧DS g cG cO bo cA all st.heap st.nx st.dm D) (n:=D1.sum) aI
  ⟨D1,rfl,g1,g4,g5,g6,hl1,hI1,S1⟩ ?_
 clear g1 g4 g5 g6 hl1 hI1 S1
 rintro q ⟨env,heap,nx',dm⟩ ⟨D0,rfl,g1,g4,g5,g6,hl0,hI0,S0⟩
 simp only at g1 g4 g5 g6 S0
 have gO:=S0.gO
 have gb:=S0.gb
 have w:=w56 (nx:=nx') gb S0.lt.2.2.1 (by omega) (by omega)
 simp -implicitDefEqProofs only [RA,ae,zp,↓reduceIte,reduceCtorEq,zq,zr,zs,zt,↓ay,↓az,↓ar,↓aq,↓aw,↓au,↓ak,↓aj,↓aC,↓aB,↓aE,↓aD,unA,ne_eq,not_true_eq_false,not_false_eq_true,wj,wh,g1,g4,g5,g6,gO]
 refine w.mono ?_
 rintro y h1 n1 ⟨c,rfl,hc1,hc2,gw,hk1⟩
 have S1:=S0.ext (nx':=n1) (by omega) hk1
 simp -implicitDefEqProofs only [RA,ae,zp,↓reduceIte,reduceCtorEq,zq,zr,zs,zt,↓ay,↓az,↓ar,↓aq,↓aw,↓au,↓ak,↓aj,↓aC,↓aB,↓aE,↓aD,unA,ne_eq,not_true_eq_false,not_false_eq_true,g1,g4,g5,g6,lo,lr,bnd,hslc,E0,nn,show (0≤(1:Int))=True from by decide,show ((1:Int)).toNat=1 from rfl]
 have h0r:0∉rest:=by rw [o4] at o1;exact (List.nodup_cons.1 o1).1
 have hrm:∀ b∈rest,b∈ord:=fun b hb=>by rw [o4];exact List.mem_cons_of_mem _ hb
 have lt0:=S0.lt
 refine aJ (fun q st=>∃ (j:Nat) (D:List Nat),q=rest.length-j∧j≤rest.length∧ai st.env 1=some (.op cG 0)∧ai st.env 4=some (.op cO 0)∧ai st.env 5=some (e8 ord)∧ai st.env 6=some (.op cA 0)∧ai st.env 11=some (.os c 0 78 1 D0.length)∧ai st.env 53=some (e8 rest)∧ai st.env 54=some (.int .i64 rest.length)∧ai st.env 55=some (.int .i64 j)∧D.length=g.blocks.length∧DI (nbG g) (fun b=>D.getD b 0)∧DS g cG cO bo cA all st.heap st.nx st.dm D∧aA st.heap c=some (.cells (D0.map dK))∧c<st.nx ∧
   ((D=D0∧∀ b∈rest.take j,mB (nbG g) ord all (fun x=>D0.getD x 0) b=D0.getD b 0)∨D.sum<D0.sum)) (n:=rest.length) aI
  ⟨0,D0,rfl,by omega,by simp [ai,g1],by simp [ai,g4],by simp [ai,g5],by simp [ai,g6],by simp [ai],by simp [ai],by simp [ai],by simp [ai],hl0,hI0,S1,gw,hc2,.inl ⟨rfl,by simp⟩⟩ ?_
 clear g1 g4 g5 g6 S0 S1 gO gb gw hk1
 rintro q ⟨env,heap,nx2,dm⟩ ⟨j,D,rfl,hj,g1,g4,g5,g6,g11,g53,g54,g55,hlD,hID,S,gw,hcl,hcase⟩
 simp only at g1 g4 g5 g6 g11 g53 g54 g55 S gw hcl
 have f1:=wS (i:=j) (by omega)
 have gO:=S.gO
 have gb:=S.gb
 have gA:=S.gA
 have gG:=S.gG
 have ltS:=S.lt
 by_cases hcj:(j:Int)<(rest.length:Int)
 case neg =>
  rw [show rest.take j=rest from DQ (by omega)] at hcase
  have w58':=w58o (nx:=nx2) gw gb (by omega)
  simp -implicitDefEqProofs only [RA,ae,zp,↓reduceIte,reduceCtorEq,zq,zr,zs,zt,↓ay,↓az,↓ar,↓aq,↓aw,↓au,↓ak,↓aj,↓aC,↓aB,↓aE,↓aD,unA,ne_eq,not_true_eq_false,not_false_eq_true,wk,qr,g1,g4,g5,g6,g11,g53,g54,g55,hcj,gO]
  refine w58'.mono ?_
  rintro y h3 n3 ⟨rfl,rfl,hn3⟩
  rcases ah (D0=D) with ⟨e1,j1⟩|⟨e1,j1⟩
  ·subst e1
   rcases hcase with ⟨_,hf⟩|hlt
   ·have hend:=xO hl0 (fun x hx=>o3 x ((o2 x).2 hx)) hI0 hall o2 fun b hb hr=>hf b (by
     have:=(o2 b).2 hr
     rw [o4] at this
     rcases D8.1 this with e|e
     ·exact absurd e hb
     ·exact e)
    have hnd:bo∉dm:=fun hm=>by have:=(S.d1 bo hm).2;rw [gb] at this;cases this
    simp -implicitDefEqProofs only [RA,ae,zp,↓reduceIte,reduceCtorEq,zq,zr,zs,zt,↓ay,↓az,↓ar,↓aq,↓aw,↓au,↓ak,↓aj,↓aC,↓aB,↓aE,↓aD,unA,ne_eq,not_true_eq_false,not_false_eq_true,g1,g4,g5,g6,g11,g53,g54,g55,gO,decide_true]
    refine hQ _ _ _ _ (by simp [ai,hlD]) (rG dm h3 S.d2 fun d hd=>(S.d1 d hd).2) ?_ (by omega)
    rw [lH _ _ _ hnd,gb,hend]
   ·omega
  ·have hlt:D.sum<D0.sum:=by
    rcases hcase with ⟨e,_⟩|h
    ·exact absurd e.symm e1
    ·exact h
   simp -implicitDefEqProofs only [RA,ae,zp,↓reduceIte,reduceCtorEq,zq,zr,zs,zt,↓ay,↓az,↓ar,↓aq,↓aw,↓au,↓ak,↓aj,↓aC,↓aB,↓aE,↓aD,unA,ne_eq,not_true_eq_false,not_false_eq_true,g1,g4,g5,g6,g11,g53,g54,g55,gO,j1,decide_false]
   exact ⟨D.sum,hlt,D,rfl,hlD,hID,S.ext hn3 fun _ _ _ h=>h⟩
 have hr:=DN (show j<rest.length by omega)
 generalize rest[j]=b at hr
 have hbm:=DO hr
 have hb0:b≠0:=fun e=>h0r (by rw [← e];exact hbm)
 have hbr:=(o2 b).1 (hrm b hbm)
 have hbn:=o3 b (hrm b hbm)
 have ixr:=jd hr
 have q1:∀ k,k<nx2→(nx2=k)=False:=fun k hk=>eq_false (by omega)
 have q2:∀ k,k<nx2→(nx2+1=k)=False:=fun k hk=>eq_false (by omega)
 have e5:(nx2+1=nx2)=False:=eq_false (by omega)
 have e6:=q1 cA ltS.2.2.2
 simp -implicitDefEqProofs only [RA,ae,zp,↓reduceIte,reduceCtorEq,zq,zr,zs,zt,↓ay,↓az,↓ar,↓aq,↓aw,↓au,↓ak,↓aj,↓aC,↓aB,↓aE,↓aD,unA,ne_eq,not_true_eq_false,not_false_eq_true,wk,qr,g1,g4,g5,g6,g11,g53,g54,g55,hcj,ixr,gA,e6,e5,lo]
 obtain ⟨cB,hcB⟩:∃ k,k=nx2:=⟨_,rfl⟩
 refine aJ (fun q st=>∃ (i:Nat),q=ord.length-i∧i≤ord.length∧ai st.env 1=some (.op cG 0)∧ai st.env 4=some (.op cO 0)∧ai st.env 5=some (e8 ord)∧ai st.env 6=some (.op cA 0)∧ai st.env 11=some (.os c 0 78 1 D0.length)∧ai st.env 13=some (.op cB 0)∧ai st.env 14=some (.op (cB+1) 0)∧ai st.env 53=some (e8 rest)∧ai st.env 54=some (.int .i64 rest.length)∧ai st.env 55=some (.int .i64 j)∧ai st.env 60=some (e8 ord)∧ai st.env 61=some (.int .i64 ord.length)∧ai st.env 62=some (.int .i64 i)∧DS g cG cO bo cA all st.heap st.nx st.dm D∧aA st.heap c=some (.cells (D0.map dK))∧cB+1<st.nx ∧
   aA st.heap cB=some (.cells [.int .i64 b])∧aA st.heap (cB+1)=some (.cells [.int .u64 (fE (nbG g) (fun x=>D.getD x 0) b (ord.take i) all:Nat)])) (n:=ord.length) aI
  ⟨0,rfl,by omega,by simp [ai,g1],by simp [ai,g4],by simp [ai,g5],by simp [ai,g6],by simp [ai,g11],by simp [ai,hcB],by simp [ai,hcB],by simp [ai,g53],by simp [ai,g54],by simp [ai,g55],by simp [ai],by simp [ai],by simp [ai],S.ext (by simp only;omega) (fun k o h1 h2=>by simp only;rw [af,if_neg (by omega),af,if_neg (by omega),af,if_neg (by omega),af,if_neg (by omega)];exact h2),
   by simp only;rw [af,if_neg (by omega),af,if_neg (by omega),af,if_neg (by omega),af,if_neg (by omega)];exact gw,by simp only;omega,by simp only;rw [af,if_neg (by omega),af,if_neg (by omega),af,if_pos hcB.symm],by simp only;rw [af,if_pos (by omega)];rfl⟩ ?_
 have hcS:=ltS
 clear g1 g4 g5 g6 g11 g53 g54 g55 S gw gO gb gA gG e5 e6 q1 q2
 rintro q ⟨env,heap2,nx3,dm2⟩ ⟨i,rfl,hi,g1,g4,g5,g6,g11,g13,g14,g53,g54,g55,g60,g61,g62,S,gw,hlt3,gB,gM⟩
 simp only at g1 g4 g5 g6 g11 g13 g14 g53 g54 g55 g60 g61 g62 S gw hlt3 gB gM
 have f2:=wS (i:=i) (by omega)
 have gO:=S.gO
 have gb:=S.gb
 have gG:=S.gG
 by_cases hci:(i:Int)<(ord.length:Int)
 case neg =>
  rw [show ord.take i=ord from DQ (by omega)] at gM
  have hml:=kp (nbG g) (fun x=>D.getD x 0) b ord all
  have w:=w40 (fE (nbG g) (fun x=>D.getD x 0) b ord all) b (by omega) (by omega)
  rw [show fE (nbG g) (fun x=>D.getD x 0) b ord all ||| 2 ^ b=mB (nbG g) ord all (fun x=>D.getD x 0) b from rfl] at w
  have ib:=eP (b:=bo) (e:=78) (n:=D.length) (i:=b) (by omega)
  obtain ⟨nv,hnv⟩:∃ v,v=mB (nbG g) ord all (fun x=>D.getD x 0) b:=⟨_,rfl⟩
  rw [← hnv] at w
  have hput:=fQ (f:=dK) (l:=D) (i:=b) (by omega) nv
  have hle:=iB (f:=dK) (l:=D) (i:=b) (by omega)
  have uc:AV.int .u64 (nv:Int)=dK nv:=rfl
  rw [← uc] at hput
  simp -implicitDefEqProofs only [RA,ae,zp,↓reduceIte,reduceCtorEq,zq,zr,zs,zt,↓ay,↓az,↓ar,↓aq,↓aw,↓au,↓ak,↓aj,↓aC,↓aB,↓aE,↓aD,unA,ne_eq,not_true_eq_false,not_false_eq_true,wl,qt,g1,g4,g5,g6,g11,g13,g14,g53,g54,g55,g60,g61,g62,hci,gO,gB,gM]
  refine w.use fun n4 hn4=>?_
  simp -implicitDefEqProofs only [RA,ae,zp,↓reduceIte,reduceCtorEq,zq,zr,zs,zt,↓ay,↓az,↓ar,↓aq,↓aw,↓au,↓ak,↓aj,↓aC,↓aB,↓aE,↓aD,unA,ne_eq,not_true_eq_false,not_false_eq_true,g1,g4,g5,g6,g11,g13,g14,g53,g54,g55,g60,g61,g62,gO,gB,gM,gb,ib,hput,hle,f1]
  have hup:DI (nbG g) fun x=>(D.set b nv).getD x 0:=hID.upd hall o2 hbr hb0 (by rw [fG D b nv b (by omega),if_pos rfl,hnv]) fun c' hc'=>by rw [fG D b nv c' (by omega),if_neg hc']
  have hle2:nv≤D.getD b 0:=by rw [hnv];exact nS (hID.new_le hall o2 hbr hb0)
  have hsum:=q6 D b nv (by omega)
  refine ⟨rest.length-(j+1),by omega,j+1,D.set b nv,rfl,by omega,rfl,by rw [Ew];exact hlD,hup,(S.set b nv).ext hn4 fun _ _ _ h=>h,?_,by omega,?_⟩
  ·rw [if_neg (by omega)];exact gw
  ·rcases hcase with ⟨rfl,hf⟩|hlt
   ·by_cases e:nv=D.getD b 0
    ·left
     have hse:D.set b nv=D:=by
      apply List.ext_getElem?
      intro x
      by_cases hx:x=b
      ·subst hx
       rw [List.getElem?_set_self (by omega),e,List.getD_eq_getElem?_getD,DN (by omega)];rfl
      ·rw [List.getElem?_set_ne (by omega)]
     refine ⟨hse,fun x hx=>?_⟩
     rw [aP hr] at hx
     rcases D9.1 hx with h|h
     ·exact hf x h
     ·simp at h;subst h;rw [← hnv];exact e
    ·right;omega
   ·right;omega
 have hra:=DN (show i<ord.length by omega)
 generalize ord[i]=a at hra
 have ixa:=jd hra
 have han:=o3 a (DO hra)
 have hblk:=DN (l:=g.blocks) han
 generalize g.blocks[a]=blk at hblk
 have hDa:=DN (l:=D) (show a<D.length by omega)
 have hda:D.getD a 0=D[a]:=by rw [List.getD_eq_getElem?_getD,hDa];rfl
 have hdl:D.getD a 0<18446744073709551616:=hID.lt a
 rw [hda] at hdl
 generalize D[a]=da at hDa hda hdl
 have hml:=kp (nbG g) (fun x=>D.getD x 0) b (ord.take i) all
 have hms:=ko (nbG g) (fun x=>D.getD x 0) b a (ord.take i) all
 rw [← aP hra] at hms
 simp only [hda] at hms
 generalize fE (nbG g) (fun x=>D.getD x 0) b (ord.take i) all=m at gM hml hms
 have e7:(nx3=cG)=False:=eq_false (by have:=S.lt;omega)
 have w2:=w25 g a ((nx3,.cells [.int .i64 a])::(nx3,.cells [.int .i64 0])::heap2) (nx3+1)
 rw [ff] at w2 gG fl ft
 simp -implicitDefEqProofs only [RA,ae,zp,↓reduceIte,reduceCtorEq,zq,zr,zs,zt,↓ay,↓az,↓ar,↓aq,↓aw,↓au,↓ak,↓aj,↓aC,↓aB,↓aE,↓aD,unA,ne_eq,not_true_eq_false,not_false_eq_true,wl,qt,g1,g4,g5,g6,g11,g13,g14,g53,g54,g55,g60,g61,g62,hci,ixa,gG,fl,ft,e7]
 refine w2.mono ?_
 rintro y hh nn ⟨rfl,rfl,rfl⟩
 simp -implicitDefEqProofs only [RA,ae,zp,↓reduceIte,reduceCtorEq,zq,zr,zs,zt,↓ay,↓az,↓ar,↓aq,↓aw,↓au,↓ak,↓aj,↓aC,↓aB,↓aE,↓aD,unA,ne_eq,not_true_eq_false,not_false_eq_true,dJ]
 have lt3:=S.lt
 have get6:∀ k,k<nx3→aA ((nx3+1+1,AO.cells [.int .i64 a])::(nx3+1,.cells [.str g.name,bh g.params,.int .i64 g.result,bh g.locals,cg g.blocks])::(nx3,.cells [.int .i64 a])::(nx3,.cells [.int .i64 0])::heap2) k=aA heap2 k:=fun k hk=>by
  rw [af,if_neg (by omega),af,if_neg (by omega),af,if_neg (by omega),af,if_neg (by omega)]
 refine uT G (cO:=cO) (bo:=bo) (cB:=cB) (cM:=cB+1) (ca:=nx3) (c1:=nx3+1) (c2:=nx3+1+1) (a:=a) (b:=b) (m:=m) (da:=da) (D:=D) hblk
  (by simp [ai,g4]) (by simp [ai,g13]) (by simp [ai,g14]) (by simp [ai]) (by simp [ai]) (by simp only;rw [get6 _ lt3.2.1];exact gO) (by simp only;rw [get6 _ lt3.2.2.1];exact gb) (by simp only;rw [get6 _ (by omega)];exact gB)
  (by simp only;rw [af,if_neg (by omega),af,if_neg (by omega),af,if_pos rfl]) (by simp only;rw [get6 _ hlt3];exact gM) (by simp only;rw [af,if_neg (by omega),af,if_pos rfl,ff]) (by simp only;rw [af,if_pos rfl]) (by simp only;omega) (by omega) (by omega) hDa hdl ?_
 intro h5 n5 hn5 hk5 hd5 hM5
 simp only at hn5 hk5 hd5
 have hk6:∀ k o,k<nx3→k≠cB+1→aA heap2 k=some o→aA h5 k=some o:=fun k o h1 h2 h3=>hk5 k o (by omega) h2 (by rw [get6 k h1];exact h3)
 simp -implicitDefEqProofs only [RA,ae,zp,↓reduceIte,reduceCtorEq,zq,zr,zs,zt,↓ay,↓az,↓ar,↓aq,↓aw,↓au,↓ak,↓aj,↓aC,↓aB,↓aE,↓aD,unA,ne_eq,not_true_eq_false,not_false_eq_true,g1,g4,g5,g6,g11,g13,g14,g53,g54,g55,g60,g61,g62,f2]
 have hdc:∀ d∈dm2,d≠cB+1:=fun d hd e=>by have:=(S.d1 d hd).2;rw [e,gM] at this;cases this
 refine ⟨ord.length-(i+1),by omega,i+1,rfl,by omega,rfl,⟨hk6 _ _ lt3.1 (by omega) (by rw [ff];exact gG),hk6 _ _ lt3.2.1 (by omega) gO,hk6 _ _ lt3.2.2.1 (by omega) gb,hk6 _ _ lt3.2.2.2 (by omega) S.gA,by omega,S.ne,fun d hd=>?_,List.nodup_cons.2 ⟨fun hm=>?_,S.d2⟩⟩,hk6 _ _ (by omega) (by omega) gw,by omega,hk6 _ _ (by omega) (by omega) gB,by rw [hms];exact hM5⟩
 ·rcases D8.1 hd with e1|e1
  ·subst e1;exact ⟨by omega,hd5⟩
  ·have:=S.d1 d e1
   exact ⟨by omega,hk6 _ _ this.1 (hdc d e1) this.2⟩
 ·have:=(S.d1 _ hm).1;omega
theorem w39 {P:Pi} {g:Fn} (G:GdF P g):Pure Tryz.prog 39 [.agg (fnE g)] (.lst 1 ((mJ (nbG g) g.blocks.length).map iM)):=by
 refine Pure.own (e:=78) (nz _) fun nx=>AC.go aI is39 (by simp) ?_
 have ff:=bG g
 have fl:=iD g
 have ft:=ik g
 have lb:=dn g.blocks
 have hn1:=G.n1
 have hn60:=G.n2
 obtain ⟨o1,o2,o3,rest,o4⟩:=t0 hn1 (iX G)
 have w37':=w37 G
 obtain ⟨ord,hord⟩:∃ ord,ord=pk g:=⟨_,rfl⟩
 rw [← hord] at w37'
 rw [show pj (nbG g) g.blocks.length=ord from hord.symm] at o1 o2 o3 o4
 have hol:=cq _ o1 o3
 have hmk:=rp (n:=g.blocks.length) (b:=8) (by omega) (by omega)
 have mkb:=zV g.blocks.length
 have n1:(nx+1=nx)=False:=eq_false (by omega)
 have n2:(nx+1+1=nx)=False:=eq_false (by omega)
 have lo:=kv ord
 rw [ff] at fl ft w37' ⊢
 simp -implicitDefEqProofs only [RA,ae,zp,↓reduceIte,reduceCtorEq,zq,zr,zs,zt,↓ay,↓az,↓ar,↓aq,↓aw,↓au,↓ak,↓aj,↓aC,↓aB,↓aE,↓aD,unA,ne_eq,not_true_eq_false,not_false_eq_true,A39,C6,lb,hmk,mkb,n1,n2,fl,ft,E0]
 refine w37'.use fun k1 hk1=>?_
 simp -implicitDefEqProofs only [RA,ae,zp,↓reduceIte,reduceCtorEq,zq,zr,zs,zt,↓ay,↓az,↓ar,↓aq,↓aw,↓au,↓ak,↓aj,↓aC,↓aB,↓aE,↓aD,unA,ne_eq,not_true_eq_false,not_false_eq_true,n1,n2,lo]
 have S0:DS g nx (nx+1+1) (nx+1) k1 0 [(k1,AO.cells [AV.int .u64 0]),(nx+1+1,.cells [.os (nx+1) 0 78 1 g.blocks.length]),(nx+1+1,.cells [.nilS]),(nx+1,.cells ((List.replicate g.blocks.length 0).map dK)),(nx,.cells [.str g.name,bh g.params,.int .i64 g.result,bh g.locals,cg g.blocks])] (k1+1) [] (List.replicate g.blocks.length 0):=by
  refine ⟨?_,?_,?_,by rw [af,if_pos rfl];rfl,by omega,by omega,by simp,.nil⟩
  ·rw [af,if_neg (by omega),af,if_neg (by omega),af,if_neg (by omega),af,if_neg (by omega),af,if_pos rfl,ff]
  ·rw [af,if_neg (by omega),af,if_pos rfl,List.length_replicate]
  ·rw [af,if_neg (by omega),af,if_neg (by omega),af,if_neg (by omega),af,if_pos rfl]
 obtain ⟨cO,hcO⟩:∃ c,c=nx+1+1:=⟨_,rfl⟩
 obtain ⟨bo,hbo⟩:∃ c,c=nx+1:=⟨_,rfl⟩
 rw [← hcO,← hbo] at S0 ⊢
 refine aJ (fun q st=>∃ i:Nat,q=ord.length-i∧i≤ord.length∧ai st.env 1=some (.op nx 0)∧ai st.env 4=some (.op cO 0)∧ai st.env 5=some (e8 ord)∧ai st.env 6=some (.op k1 0)∧ai st.env 26=some (e8 ord)∧ai st.env 27=some (.int .i64 ord.length)∧ai st.env 28=some (.int .i64 i)∧DS g nx cO bo k1 (kH (ord.take i)) st.heap st.nx [] (List.replicate g.blocks.length 0)∧st.dm=[]) (n:=ord.length) aI
  ⟨0,rfl,by omega,by simp [ai],by simp [ai],by simp [ai],by simp [ai],by simp [ai],by simp [ai],by simp [ai],S0,rfl⟩ ?_
 clear S0
 rintro q ⟨env,heap,nx',dm⟩ ⟨i,rfl,hi,g1,g4,g5,g6,g26,g27,g28,S,hdm⟩
 simp only at g1 g4 g5 g6 g26 g27 g28 S hdm
 subst hdm
 have f1:=wS (i:=i) (by omega)
 by_cases hc:(i:Int)<(ord.length:Int)
 case pos =>
  have hr:=DN (show i<ord.length by omega)
  generalize ord[i]=b at hr
  have ixr:=jd hr
  have hbn:=o3 b (DO hr)
  have w:=w40 (kH (ord.take i)) b (rS fun x hx=>by have:=o3 x (List.mem_of_mem_take hx);omega) (by omega)
  rw [← th,← aP hr] at w
  have gA:=S.gA
  simp -implicitDefEqProofs only [RA,ae,zp,↓reduceIte,reduceCtorEq,zq,zr,zs,zt,↓ay,↓az,↓ar,↓aq,↓aw,↓au,↓ak,↓aj,↓aC,↓aB,↓aE,↓aD,unA,ne_eq,not_true_eq_false,not_false_eq_true,wn,qw,g1,g4,g5,g6,g26,g27,g28,hc,ixr,gA]
  refine w.use fun n3 hn3=>?_
  simp -implicitDefEqProofs only [RA,ae,zp,↓reduceIte,reduceCtorEq,zq,zr,zs,zt,↓ay,↓az,↓ar,↓aq,↓aw,↓au,↓ak,↓aj,↓aC,↓aB,↓aE,↓aD,unA,ne_eq,not_true_eq_false,not_false_eq_true,g1,g4,g5,g6,g26,g27,g28,gA,f1]
  exact ⟨ord.length-(i+1),by omega,i+1,rfl,by omega,rfl,(S.all _).ext hn3 fun _ _ _ h=>h⟩
 rw [show ord.take i=ord from DQ (by omega)] at S
 have hall:∀ x,(kH ord).testBit x=true↔Rch (nbG g) x:=fun x=>by rw [ya,decide_eq_true_eq,o2]
 have hallt:kH ord<18446744073709551616:=rS fun x hx=>by have:=o3 x hx;omega
 obtain ⟨all,hallE⟩:∃ a,a=kH ord:=⟨_,rfl⟩
 rw [← hallE] at S hall hallt
 simp -implicitDefEqProofs only [RA,ae,zp,↓reduceIte,reduceCtorEq,zq,zr,zs,zt,↓ay,↓az,↓ar,↓aq,↓aw,↓au,↓ak,↓aj,↓aC,↓aB,↓aE,↓aD,unA,ne_eq,not_true_eq_false,not_false_eq_true,wn,qw,g1,g4,g5,g6,g26,g27,g28,hc,lo]
 refine aJ (fun q st=>∃ (i:Nat) (D:List Nat),q=ord.length-i∧i≤ord.length∧ai st.env 1=some (.op nx 0)∧ai st.env 4=some (.op cO 0)∧ai st.env 5=some (e8 ord)∧ai st.env 6=some (.op k1 0)∧ai st.env 36=some (e8 ord)∧ai st.env 37=some (.int .i64 ord.length)∧ai st.env 38=some (.int .i64 i)∧D.length=g.blocks.length∧(∀ b,D.getD b 0=if b∈ord.take i then all else 0)∧DS g nx cO bo k1 all st.heap st.nx [] D∧st.dm=[]) (n:=ord.length) aI
  ⟨0,List.replicate g.blocks.length 0,rfl,by omega,by simp [ai,g1],by simp [ai,g4],by simp [ai,g5],by simp [ai,g6],by simp [ai],by simp [ai],by simp [ai],by simp,fun b=>by simp [List.getD_eq_getElem?_getD,List.getElem?_replicate];split <;> rfl,S,rfl⟩ ?_
 clear S g1 g4 g5 g6 g26 g27 g28 f1 hc hi
 rintro q ⟨env,heap,nx',dm⟩ ⟨i,D,rfl,hi,g1,g4,g5,g6,g36,g37,g38,hDl,hD,S,hdm⟩
 simp only at g1 g4 g5 g6 g36 g37 g38 S hdm
 subst hdm
 have f1:=wS (i:=i) (by omega)
 have gA:=S.gA
 have gO:=S.gO
 have gb:=S.gb
 by_cases hc:(i:Int)<(ord.length:Int)
 case pos =>
  have hr:=DN (show i<ord.length by omega)
  generalize ord[i]=b at hr
  have ixr:=jd hr
  have hbn:=o3 b (DO hr)
  have ib:=eP (b:=bo) (e:=78) (n:=D.length) (i:=b) (by omega)
  have hput:=fQ (f:=dK) (l:=D) (i:=b) (by omega) all
  have hle:=iB (f:=dK) (l:=D) (i:=b) (by omega)
  have uc:AV.int .u64 (all:Int)=dK all:=rfl
  rw [← uc] at hput
  simp -implicitDefEqProofs only [RA,ae,zp,↓reduceIte,reduceCtorEq,zq,zr,zs,zt,↓ay,↓az,↓ar,↓aq,↓aw,↓au,↓ak,↓aj,↓aC,↓aB,↓aE,↓aD,unA,ne_eq,not_true_eq_false,not_false_eq_true,wm,qv,g1,g4,g5,g6,g36,g37,g38,hc,ixr,gA,gO,gb,ib,hput,hle,f1]
  refine ⟨ord.length-(i+1),by omega,i+1,D.set b all,rfl,by omega,rfl,by rw [Ew];exact hDl,fun c=>?_,S.set b all⟩
  rw [fG D b all c (by omega),hD,aP hr]
  by_cases e:c=b
  ·subst e;simp
  ·simp [e]
 rw [show ord.take i=ord from DQ (by omega)] at hD
 have i0:=eP (b:=bo) (e:=78) (n:=D.length) (i:=0) (by omega)
 have hput:=fQ (f:=dK) (l:=D) (i:=0) (by omega) 1
 have hle:=iB (f:=dK) (l:=D) (i:=0) (by omega)
 have uc:AV.int .u64 (1:Int)=dK 1:=rfl
 rw [← uc] at hput
 rw [Nat.zero_add] at hput hle
 rw [show ((0:Nat):Int)=0 from rfl] at i0
 rw [List.take_zero,List.nil_append] at hput
 simp -implicitDefEqProofs only [RA,ae,zp,↓reduceIte,reduceCtorEq,zq,zr,zs,zt,↓ay,↓az,↓ar,↓aq,↓aw,↓au,↓ak,↓aj,↓aC,↓aB,↓aE,↓aD,unA,ne_eq,not_true_eq_false,not_false_eq_true,wm,qv,g1,g4,g5,g6,g36,g37,g38,hc,gO,gb,i0,hle,hput]
 have hun:∀ b,¬ Rch (nbG g) b→(D.set 0 1).getD b 0=0:=fun b hb=>by
  rw [fG D 0 1 b (by omega),if_neg (fun e=>hb (by rw [e];exact .zero)),hD,if_neg (fun h=>hb ((o2 b).1 h))]
 have hI:DI (nbG g) fun b=>(D.set 0 1).getD b 0:=DI.first hall hallt (by rw [fG D 0 1 0 (by omega),if_pos rfl]) (fun b h1 h2=>by rw [fG D 0 1 b (by omega),if_neg h1,hD,if_pos ((o2 b).2 h2)]) hun
 refine uU G o1 o2 o3 o4 hall hallt (cG:=nx) (cO:=cO) (bo:=bo) (cA:=k1) (D1:=D.set 0 1) (by simp [ai,g1]) (by simp [ai,g4]) (by simp [ai,g5]) (by simp [ai,g6]) (by rw [Ew];exact hDl) hI (S.set 0 1) ?_
 intro env' h' n' dm' e2 hdm hb hlt
 simp -implicitDefEqProofs only [RA,ae,zp,↓reduceIte,reduceCtorEq,zq,zr,zs,zt,↓ay,↓az,↓ar,↓aq,↓aw,↓au,↓ak,↓aj,↓aC,↓aB,↓aE,↓aD,unA,ne_eq,not_true_eq_false,not_false_eq_true,vm,R39,e2]
 refine ⟨hdm,_,rfl,.inr ⟨bo,?_,by rw [ny];exact hb,hlt⟩⟩
 simp [kB]
noncomputable def nrK (G:Nat→List Nat) (n b:Nat):Nat→Int
 | 0=>-1
 | k+1=>if dc (Nr G n k b)=true then (k:Int) else nrK G n b k
noncomputable def nrL (G:Nat→List Nat) (n:Nat):List Int:=(List.range n).map fun b=>nrK G n b n
theorem xw {G:Nat→List Nat} {n a b:Nat} (hn:n≤60) (ha:a<n) (hb:b<n) (hG:∀ x,Rch G x→x<n):dc (Nr G n a b)=(decide (a≠b)&&((mkP n fun x=>Dm G x b).testBit a&&decide (mkP n (fun x=>Dm G x a)=lsN (mkP n fun x=>Dm G x b) (0 ||| 2 ^ b)))):=by
 have hp:0 ||| 2 ^ b<18446744073709551616:=by rw [Nat.zero_or];exact mq (by omega)
 have hm:=pu (n:=n) (p:=fun x=>Dm G x b) (by omega)
 rw [jr,decide_eq_true ha,EG]
 by_cases hab:a=b
 ·rw [decide_eq_false (p:=a≠b) (fun h=>h hab),EH]
  exact xS fun h=>h.1 hab
 rw [decide_eq_true (p:=a≠b) hab,EG]
 by_cases hd:Dm G a b
 ·have key:(∀ c,c<n→(Dm G c a↔(Dm G c b∧c≠b)))↔mkP n (fun x=>Dm G x a)=lsN (mkP n fun x=>Dm G x b) (0 ||| 2 ^ b):=by
   constructor
   ·intro h
    apply kA
    intro i
    rw [jr,yD hm hp,jr,Nat.zero_or,Nat.testBit_two_pow]
    by_cases hi:i<n
    ·rw [decide_eq_true hi,EG,EG,Bool.eq_iff_iff,EF,eX,eX,h i hi,Bool.not_eq_true',decide_eq_false_iff_not]
     exact ⟨fun ⟨x,y⟩=>⟨x,fun e=>y e.symm⟩,fun ⟨x,y⟩=>⟨x,fun e=>y e.symm⟩⟩
    ·rw [decide_eq_false hi];rfl
   ·intro h c hc
    have:(mkP n fun x=>Dm G x a).testBit c=(lsN (mkP n fun x=>Dm G x b) (0 ||| 2 ^ b)).testBit c:=by rw [h]
    rw [jr,yD hm hp,jr,Nat.zero_or,Nat.testBit_two_pow,decide_eq_true hc,EG,EG,Bool.eq_iff_iff,EF,eX,eX,Bool.not_eq_true',decide_eq_false_iff_not] at this
    rw [this]
    exact ⟨fun ⟨x,y⟩=>⟨x,fun e=>y e.symm⟩,fun ⟨x,y⟩=>⟨x,fun e=>y e.symm⟩⟩
  rw [xR hd,EG,lU ((Nr.iff hab hd).trans key),pJ]
 ·rw [xS hd,EH]
  exact xS fun h=>hd h.2.1
theorem xN (D:List Nat):eD (.lst 1 (D.map iM))=some D.length:=by simp [dy]
theorem rF {D:List Nat} {n x:Nat} (h:D[n]?=some x):idxA 1 (.lst 1 (D.map iM)) (n:Int)=some (.fp [.int .u64 x]):=bM h
noncomputable def dmL (P:Pi) (f:Int):List Int:=if chE P f=0 then (match P[f.toNat]? with|some g=>nrL (nbG g) g.blocks.length|none=>[]) else []
theorem uW {P:Pi} {f:Int} {g:Fn} (h:chE P f=0) (hg:P[f.toNat]?=some g):dmL P f=nrL (nbG g) g.blocks.length:=by rw [dmL,if_pos h,hg]
theorem uX {P:Pi} {f:Int} (h:chE P f≠0):dmL P f=[]:=if_neg h
theorem zM {P:Pi} {g:Fn} (G:GdF P g):∀ x,Rch (nbG g) x→x<g.blocks.length:=fun x hx=>by
 unfold Rch at hx
 cases hx with
 | nil _=>exact G.n1
 | snoc _ hc _=>exact iX G _ _ hc
theorem w15 (P:Pi) (f:Int) (ho:im P):Pure Tryz.prog 15 [.agg (piE P),.int .i64 f] (.tup [bT (dmL P f),.int .i64 (chE P f)]):=by
 refine Pure.frz fun nx=>AC.go aI is15 (by simp) ?_
 have w23':=w23 P f ho
 have n1:(nx+1=nx)=False:=eq_false (by omega)
 unfold piE at w23' ⊢
 simp -implicitDefEqProofs only [RA,ae,zp,↓reduceIte,reduceCtorEq,zq,zr,zs,zt,↓ay,↓az,↓ar,↓aq,↓aw,↓au,↓ak,↓aj,↓aC,↓aB,↓aE,↓aD,unA,ne_eq,not_true_eq_false,not_false_eq_true,A15,Do]
 refine w23'.use fun k1 hk1=>?_
 have a1:(k1=nx)=False:=eq_false (by omega)
 rcases ah (chE P f=0) with ⟨c1,d1⟩|⟨c1,d1⟩
 case inr =>
  rw [uX c1,jw c1]
  simp -implicitDefEqProofs only [RA,ae,zp,↓reduceIte,reduceCtorEq,zq,zr,zs,zt,↓ay,↓az,↓ar,↓aq,↓aw,↓au,↓ak,↓aj,↓aC,↓aB,↓aE,↓aD,unA,ne_eq,not_true_eq_false,not_false_eq_true,d1,a1,n1,R15,zFn]
  exact ⟨_,_,rfl,(Frz.nilS _ 1).head⟩
 obtain ⟨e0,e1,e2,g,hg,hgm⟩:=iF c1
 obtain ⟨gl,_,_,gd⟩:=kE e0
 have G:=gd g hgm
 rw [uW c1 hg,mw c1 hg,c1]
 have w39':=w39 G
 have hG:=zM G
 have hn60:=G.n2
 have fl:=iD g
 have ft:=ik g
 have ff:=bG g
 rw [ff] at fl ft w39' ⊢
 obtain ⟨n,hn⟩:∃ n,n=g.blocks.length:=⟨_,rfl⟩
 rw [← hn] at w39' hG hn60 ⊢
 have ld:=xN (mJ (nbG g) n)
 rw [kB] at ld
 generalize nbG g=E at *
 simp -implicitDefEqProofs only [RA,ae,zp,↓reduceIte,reduceCtorEq,zq,zr,zs,zt,↓ay,↓az,↓ar,↓aq,↓aw,↓au,↓ak,↓aj,↓aC,↓aB,↓aE,↓aD,unA,ne_eq,not_true_eq_false,not_false_eq_true,a1,n1,fl,ft]
 refine w39'.use fun k2 hk2=>?_
 obtain ⟨DA,hDA⟩:∃ a,a=AV.lst 1 ((mJ E n).map iM):=⟨_,rfl⟩
 rw [← hDA] at ld ⊢
 simp -implicitDefEqProofs only [RA,ae,zp,↓reduceIte,reduceCtorEq,zq,zr,zs,zt,↓ay,↓az,↓ar,↓aq,↓aw,↓au,↓ak,↓aj,↓aC,↓aB,↓aE,↓aD,unA,ne_eq,not_true_eq_false,not_false_eq_true,ld]
 refine aJ (fun q st=>∃ (b:Nat) (v:AV),q=n-b∧b≤n∧ai st.env 8=some DA∧ai st.env 9=some v∧ai st.env 25=some (.int .i64 n)∧ai st.env 26=some (.int .i64 b)∧aQ 3 1 st.heap st.nx v (((List.range b).map fun b=>nrK E n b n).map inE)∧st.dm=[]) (n:=n) aI
  ⟨0,.nilS,rfl,by omega,by simp [ai],by simp [ai],by simp [ai],by simp [ai],.inl ⟨rfl,rfl⟩,rfl⟩ ?_
 rintro q ⟨env,heap,nx',dm⟩ ⟨b,v,rfl,hb,g8,g9,g25,g26,ov,hdm⟩
 simp only at g8 g9 g25 g26 ov hdm
 subst hdm
 have f1:=wS (i:=b) (by omega)
 by_cases hc:(b:Int)<(n:Int)
 case neg =>
  have e:b=n:=by omega
  subst e
  simp -implicitDefEqProofs only [RA,ae,zp,↓reduceIte,reduceCtorEq,zq,zr,zs,zt,↓ay,↓az,↓ar,↓aq,↓aw,↓au,↓ak,↓aj,↓aC,↓aB,↓aE,↓aD,unA,ne_eq,not_true_eq_false,not_false_eq_true,wG,qL,g8,g9,g25,g26,hc,R15]
  obtain ⟨h2,hf⟩:=ov.frz (eo _)
  exact ⟨_,_,rfl,hf.head⟩
 have hbn:b<n:=by omega
 have db:=mI (G:=E) hbn
 have mb:=pu (n:=n) (p:=fun x=>Dm E x b) (by omega)
 have ixb:=rF db
 rw [← hDA] at ixb
 simp -implicitDefEqProofs only [RA,ae,zp,↓reduceIte,reduceCtorEq,zq,zr,zs,zt,↓ay,↓az,↓ar,↓aq,↓aw,↓au,↓ak,↓aj,↓aC,↓aB,↓aE,↓aD,unA,ne_eq,not_true_eq_false,not_false_eq_true,wG,qL,g8,g9,g25,g26,hc,ld]
 refine aJ (fun q st=>∃ (a:Nat),q=n-a∧a≤n∧ai st.env 8=some DA∧ai st.env 9=some v∧ai st.env 25=some (.int .i64 n)∧ai st.env 26=some (.int .i64 b)∧ai st.env 10=some (.int .i64 b)∧ai st.env 11=some (.int .i64 (nrK E n b a))∧ai st.env 30=some (.int .i64 n)∧ai st.env 31=some (.int .i64 a)∧aQ 3 1 st.heap st.nx v (((List.range b).map fun b=>nrK E n b n).map inE)∧st.dm=[]) (n:=n) aI
  ⟨0,rfl,by omega,by simp [ai,g8],by simp [ai,g9],by simp [ai,g25],by simp [ai,g26],by simp [ai],by simp [ai,nrK],by simp [ai],by simp [ai],ov,rfl⟩ ?_
 clear g8 g9 g25 g26 ov
 rintro q ⟨env,heap,nx2,dm⟩ ⟨a,rfl,ha,g8,g9,g25,g26,g10,g11,g30,g31,ov,hdm⟩
 simp only at g8 g9 g25 g26 g10 g11 g30 g31 ov hdm
 subst hdm
 have f2:=wS (i:=a) (by omega)
 by_cases hca:(a:Int)<(n:Int)
 case neg =>
  have e:a=n:=by omega
  subst e
  obtain ⟨v',h4,n4,ea,og,hle,fr,id⟩:=ov.grw (bytes:=8) (ns:=[inE (nrK E a b a)]) (eo _) (by simp [inE]) (by simp;omega) (by simp [maxLen];omega)
  rw [inE] at ea
  simp -implicitDefEqProofs only [RA,ae,zp,↓reduceIte,reduceCtorEq,zq,zr,zs,zt,↓ay,↓az,↓ar,↓aq,↓aw,↓au,↓ak,↓aj,↓aC,↓aB,↓aE,↓aD,unA,ne_eq,not_true_eq_false,not_false_eq_true,sk,nh,g8,g9,g25,g26,g10,g11,g30,g31,hca,ea,f1]
  refine ⟨a-(b+1),by omega,b+1,v',rfl,by omega,rfl,rfl,?_⟩
  rw [List.range_succ,D7,D7];exact og
 have han:a<n:=by omega
 have da:=mI (G:=E) han
 have ma:=pu (n:=n) (p:=fun x=>Dm E x a) (by omega)
 have ixa:=rF da
 rw [← hDA] at ixa
 have hnf:=xw (G:=E) hn60 han hbn hG
 have hnk:nrK E n b (a+1)=if dc (Nr E n a b)=true then (a:Int) else nrK E n b a:=rfl
 rw [hnf] at hnk
 generalize mkP n (fun x=>Dm E x b)=sb at mb ixb hnk db
 generalize mkP n (fun x=>Dm E x a)=sa at ma ixa hnk da
 rcases ah ((a:Int)=(b:Int)) with ⟨j1,i1⟩|⟨j1,i1⟩
 ·rw [decide_eq_false (p:=a≠b) (by omega),EH,if_neg (by simp)] at hnk
  simp -implicitDefEqProofs only [RA,ae,zp,↓reduceIte,reduceCtorEq,zq,zr,zs,zt,↓ay,↓az,↓ar,↓aq,↓aw,↓au,↓ak,↓aj,↓aC,↓aB,↓aE,↓aD,unA,ne_eq,not_true_eq_false,not_false_eq_true,sk,nh,g8,g9,g25,g26,g10,g11,g30,g31,hca,i1,f2]
  exact ⟨n-(a+1),by omega,a+1,rfl,by omega,by rw [hnk],rfl,ov⟩
 rw [decide_eq_true (p:=a≠b) (by omega),EG] at hnk
 simp -implicitDefEqProofs only [RA,ae,zp,↓reduceIte,reduceCtorEq,zq,zr,zs,zt,↓ay,↓az,↓ar,↓aq,↓aw,↓au,↓ak,↓aj,↓aC,↓aB,↓aE,↓aD,unA,ne_eq,not_true_eq_false,not_false_eq_true,sk,nh,g8,g9,g25,g26,g10,g11,g30,g31,hca,i1,ixb,ixa]
 have w30':=w30 sb a mb (by omega)
 refine w30'.use fun k3 hk3=>?_
 cases htb:sb.testBit a
 ·rw [htb,EH,if_neg (by simp)] at hnk
  simp -implicitDefEqProofs only [RA,ae,zp,↓reduceIte,reduceCtorEq,zq,zr,zs,zt,↓ay,↓az,↓ar,↓aq,↓aw,↓au,↓ak,↓aj,↓aC,↓aB,↓aE,↓aD,unA,ne_eq,not_true_eq_false,not_false_eq_true,g8,g9,g25,g26,g10,g11,g30,g31,f2]
  exact ⟨n-(a+1),by omega,a+1,rfl,by omega,by rw [hnk],rfl,ov.mono hk3⟩
 rw [htb,EG] at hnk
 have hp:0 ||| 2 ^ b<18446744073709551616:=by rw [Nat.zero_or];exact mq (by omega)
 have w40':=w40 0 b (by omega) (by omega)
 have w28':=w28 sb (0 ||| 2 ^ b) mb hp
 rw [show ((0:Nat):Int)=0 from rfl] at w40'
 simp -implicitDefEqProofs only [RA,ae,zp,↓reduceIte,reduceCtorEq,zq,zr,zs,zt,↓ay,↓az,↓ar,↓aq,↓aw,↓au,↓ak,↓aj,↓aC,↓aB,↓aE,↓aD,unA,ne_eq,not_true_eq_false,not_false_eq_true,g8,g9,g25,g26,g10,g11,g30,g31,ixa,ixb]
 refine w40'.use fun k4 hk4=>?_
 simp -implicitDefEqProofs only [RA,ae,zp,↓reduceIte,reduceCtorEq,zq,zr,zs,zt,↓ay,↓az,↓ar,↓aq,↓aw,↓au,↓ak,↓aj,↓aC,↓aB,↓aE,↓aD,unA,ne_eq,not_true_eq_false,not_false_eq_true,g8,g9,g25,g26,g10,g11,g30,g31,ixa,ixb]
 refine w28'.use fun k5 hk5=>?_
 have hov:aQ 3 1 heap k5 v (((List.range b).map fun b=>nrK E n b n).map inE):=ov.mono (by omega)
 rcases ah (((sa:Nat):Int)=((lsN sb (0 ||| 2 ^ b):Nat):Int)) with ⟨j2,i2⟩|⟨j2,i2⟩
 ·rw [decide_eq_true (p:=sa=_) (by omega),if_pos rfl] at hnk
  simp -implicitDefEqProofs only [RA,ae,zp,↓reduceIte,reduceCtorEq,zq,zr,zs,zt,↓ay,↓az,↓ar,↓aq,↓aw,↓au,↓ak,↓aj,↓aC,↓aB,↓aE,↓aD,unA,ne_eq,not_true_eq_false,not_false_eq_true,g8,g9,g25,g26,g10,g11,g30,g31,eqL,eqC,i2,f2,Bool.and_true]
  exact ⟨n-(a+1),by omega,a+1,rfl,by omega,by rw [hnk],rfl,hov⟩
 ·rw [decide_eq_false (p:=sa=_) (by omega),if_neg (by simp)] at hnk
  simp -implicitDefEqProofs only [RA,ae,zp,↓reduceIte,reduceCtorEq,zq,zr,zs,zt,↓ay,↓az,↓ar,↓aq,↓aw,↓au,↓ak,↓aj,↓aC,↓aB,↓aE,↓aD,unA,ne_eq,not_true_eq_false,not_false_eq_true,g8,g9,g25,g26,g10,g11,g30,g31,eqL,eqC,i2,f2,Bool.and_true]
  exact ⟨n-(a+1),by omega,a+1,rfl,by omega,by rw [hnk],rfl,hov⟩
def Que (h:Heap) (nx:Nat) (v:AV) (l:List Nat):Prop:=∃ b off cs,v=.os b off 3 1 l.length∧aA h b=some (.cells cs)∧cs.length=off+l.length∧cs.drop off=l.map icN∧b<nx
theorem Que.len {h:Heap} {nx:Nat} {v:AV} {l:List Nat} (q:Que h nx v l):eD v=some l.length:=by obtain ⟨b,off,cs,rfl,_⟩:=q;rfl
theorem Que.lt {h:Heap} {nx:Nat} {v:AV} {l:List Nat} (q:Que h nx v l) {k:Nat} (hk:aM v=some k):k<nx:=by
 obtain ⟨b,off,cs,rfl,_,_,_,hlt⟩:=q
 simp only [aM] at hk;cases hk;exact hlt
theorem Que.keep {h h':Heap} {nx nx':Nat} {v:AV} {l:List Nat} (q:Que h nx v l) (hn:nx≤nx') (hk:∀ k o,aM v=some k→aA h k=some o→aA h' k=some o):Que h' nx' v l:=by
 obtain ⟨b,off,cs,rfl,h1,h2,h3,h4⟩:=q
 exact ⟨b,off,cs,rfl,hk _ _ rfl h1,h2,h3,by omega⟩
theorem Que.head {h:Heap} {nx:Nat} {v:AV} {x:Nat} {r:List Nat} (q:Que h nx v (x::r)):∃ p cs,idxA 1 v 0=some p∧bt h p=some (.int .i64 x::cs)∧p.isFp=false:=by
 obtain ⟨b,off,cs,rfl,h1,h2,h3,h4⟩:=q
 refine ⟨.op b off,r.map icN,?_,?_,rfl⟩
 ·simp [idxA]
 ·simp only [bt,h1,h3];rfl
theorem Que.tail {h:Heap} {nx:Nat} {v:AV} {x:Nat} {r:List Nat} (q:Que h nx v (x::r)):∃ v',kV 1 v 1 (r.length+1) none=some v'∧Que h nx v' r∧aM v'=aM v:=by
 obtain ⟨b,off,cs,rfl,h1,h2,h3,h4⟩:=q
 refine ⟨.os b (off+1) 3 1 r.length,?_,⟨b,off+1,cs,rfl,h1,by simp only [DV] at h2;omega,?_,h4⟩,rfl⟩
 ·simp [kV]
 ·rw [← List.drop_drop,h3];rfl
theorem xn {own:Nat→Nat→Bool} {ro:Option Nat} {N:Nat} {F:List Fr} {Q:AX→ASt→Prop} {r:List aZ} {st:ASt} {d x y:Nat} {v:AV} {l:List Nat} {c:Nat} (hx:ai st.env x=some v) (hy:ai st.env y=some (.lst 1 [[.int .i64 c]])) (hq:Que st.heap st.nx v l) (hl:l.length+1≤4000000)
  (hk:∀ v' h' n',Que h' n' v' (l++[c])→(∀ k o,k<st.nx→aM v≠some k→aA st.heap k=some o→aA h' k=some o)→st.nx≤n'→(∀ k,aM v'=some k→st.nx≤k∨aM v=some k)→rg Tryz.prog own ro N F Q r { st with env:=(d,v')::st.env,heap:=h',nx:=n' }) :
  rg Tryz.prog own ro N F Q (⟨some d,none,.op (.app 3 1 8 (.tmp x) (.tmp y))⟩::r) st:=by
 obtain ⟨b,off,cs,rfl,h1,h2,h3,h4⟩:=hq
 rw [rd]
 simp only [bc,BM,yQ]
 have hby:(l.length+1)*8≤140737488355328:=by omega
 have hmx:l.length+1≤maxLen:=by simp only [maxLen];omega
 have sc:bQ st.heap (.lst 1 [[.int .i64 (c:Int)]])=some (1,[.int .i64 (c:Int)]):=by simp [bQ]
 have hmv:∀ k o,k<st.nx→aM (.os b off 3 1 l.length)≠some k→aA st.heap k=some o→aA ((st.nx,AO.cells (cs.drop off++[.int .i64 c]))::bN st.heap b) k=some o:=fun k o k1 k2 k3=>by
  rw [af,if_neg (by omega),br (fun e=>k2 (by rw [e];rfl))];exact k3
 have hnew:Que ((st.nx,AO.cells (cs.drop off++[.int .i64 c]))::bN st.heap b) (st.nx+1) (.os st.nx 0 3 1 (l.length+1)) (l++[c]) :=
  ⟨st.nx,0,_,by simp,by rw [af,if_pos rfl],by simp;omega,by rw [List.drop_zero,h3];simp [icN],by omega⟩
 by_cases h0:off=0
 ·subst h0
  have hop:aT (.app 3 1 8 (.tmp x) (.tmp y)) st.env st.heap st.nx=some (.val (.os st.nx 0 3 1 (l.length+1)),(st.nx,.cells (cs++[.int .i64 c]))::bN st.heap b,st.nx+1):=by
   simp only [aT,oev,hx,hy,gk,sc,h1]
   simp [iR,hby,hmx,show cs.length=l.length by omega]
  rw [hop,uk]
  rw [List.drop_zero] at hnew hmv
  exact hk _ _ _ hnew hmv (by omega) fun k e=>.inl (by simp only [aM] at e;cases e;omega)
 ·have hop:aT (.app 3 1 8 (.tmp x) (.tmp y)) st.env st.heap st.nx=none:=by
   simp only [aT,oev,hx,hy,gk,sc,h1]
   simp [iR,h0]
  have ha:ap2 ⟨some d,none,.op (.app 3 1 8 (.tmp x) (.tmp y))⟩ st=some ((.os b off 3 1 (l.length+1),bz st.heap b (.cells (cs++[.int .i64 c])),st.nx),(.os st.nx 0 3 1 (l.length+1),(st.nx,.cells (cs.drop off++[.int .i64 c]))::bN st.heap b,st.nx+1)):=by
   simp only [ap2,oev,hx,hy,h1]
   simp [hby,hmx,h2]
  rw [hop]
  simp only [oK,ha]
  refine ⟨hk _ _ _ ⟨b,off,_,by simp,by rw [bF,if_pos rfl],by simp;omega,?_,h4⟩ (fun k o k1 k2 k3=>?_) (EQ _) fun k e=>.inr e,hk _ _ _ hnew hmv (by omega) fun k e=>.inl (by simp only [aM] at e;cases e;omega)⟩
  ·rw [List.drop_append_of_le_length (by omega),h3];simp [icN]
  ·rw [dQ (fun e=>k2 (by rw [e];rfl))];exact k3
structure WI (G:Nat→List Nat) (av:Nat→Prop) (n fr:Nat) (S Q:List Nat) (ex:Nat→Prop):Prop where
 nd:S.Nodup
 lt:∀ x∈S,x<n
 wy:∀ x∈S,Wy G av fr x
 sub:∀ x∈Q,x∈S
 fr:fr∈S
 cl:∀ u∈S,¬ ex u→u∈Q∨∀ c∈G u,¬ av c→c∈S
theorem WI.add {G:Nat→List Nat} {av:Nat→Prop} {n fr c u:Nat} {S Q:List Nat} {ex:Nat→Prop} (w:WI G av n fr S Q ex) (hc:c<n) (hn:c∉S) (hv:¬ av c) (hu:u∈S) (hcu:c∈G u):WI G av n fr (c::S) (Q++[c]) ex:=by
 refine ⟨List.nodup_cons.2 ⟨hn,w.nd⟩,fun x hx=>?_,fun x hx=>?_,fun x hx=>?_,List.mem_cons_of_mem _ w.fr,fun x hx he=>?_⟩
 ·rcases D8.1 hx with e|e
  ·omega
  ·exact w.lt x e
 ·rcases D8.1 hx with e|e
  ·subst e;exact .snoc (w.wy u hu) hcu hv
  ·exact w.wy x e
 ·rcases D9.1 hx with e|e
  ·exact List.mem_cons_of_mem _ (w.sub x e)
  ·simp at e;subst e;exact List.mem_cons_self
 ·rcases D8.1 hx with e|e
  ·subst e;exact .inl (by simp)
  ·rcases w.cl x e he with h|h
   ·exact .inl (List.mem_append_left _ h)
   ·exact .inr fun d hd hdv=>List.mem_cons_of_mem _ (h d hd hdv)
noncomputable def wyL (G:Nat→List Nat) (n fr:Nat) (av:Nat→Prop):List Bool:=(List.range n).map fun x=>dc (Wy G av fr x)
theorem WI.done {G:Nat→List Nat} {av:Nat→Prop} {n fr:Nat} {S:List Nat} (w:WI G av n fr S [] fun _=>False):blL n S=wyL G n fr av:=by
 unfold blL wyL
 apply List.map_congr_left
 intro x _
 rw [← pJ]
 refine lU ⟨fun h=>w.wy x h,fun h=>h.closed (S:=fun x=>x∈S) w.fr fun u c hu hc hv=>?_⟩
 rcases w.cl u hu (fun h=>h) with h|h
 ·simp at h
 ·exact h c hc hv
theorem w59 {P:Pi} {g:Fn} (G:GdF P g) (fr:Nat) (but:Int) (hfr:fr<g.blocks.length):Pure Tryz.prog 59 [ntA (ntF g),.int .i64 fr,.int .i64 but] (.lst 1 ((wyL (nbG g) g.blocks.length fr fun y=>(y:Int)=but).map fun b=>[.bool b])):=by
 have hall:∀ z∈(wyL (nbG g) g.blocks.length fr fun y=>(y:Int)=but).map fun b=>[AV.bool b],z.length=1:=fun z hz=>by
  obtain ⟨r,_,rfl⟩:=List.mem_map.1 hz;rfl
 refine Pure.own (e:=4) hall fun nx=>AC.go aI is59 (by simp) ?_
 have hn60:=G.n2
 have hn1:=G.n1
 have hNl:=iW g
 have lN:=km (ntF g)
 have hG:=iX G
 obtain ⟨n,hn⟩:∃ n,n=g.blocks.length:=⟨_,rfl⟩
 rw [← hn] at hNl hfr hn60 hn1 hG ⊢
 rw [hNl] at lN
 have hmk:=rp (n:=n) (b:=1) (by omega) (by omega)
 have mkb:=uu n
 have n1:(nx+1=nx)=False:=eq_false (by omega)
 have hfl:∀ l:List Bool,(l.map fun b=>[AV.bool b]).flatten=l.map .bool:=fun l=>by
  induction l with
  | nil=>rfl
  | cons a r ih=>simp only [List.map_cons,List.flatten_cons,ih];rfl
 have hwl:(wyL (nbG g) n fr fun y=>(y:Int)=but).length=n:=by simp [wyL]
 rcases ah ((fr:Int)=but) with ⟨c1,d1⟩|⟨c1,d1⟩
 ·simp -implicitDefEqProofs only [RA,ae,zp,↓reduceIte,reduceCtorEq,zq,zr,zs,zt,↓ay,↓az,↓ar,↓aq,↓aw,↓au,↓ak,↓aj,↓aC,↓aB,↓aE,↓aD,unA,ne_eq,not_true_eq_false,not_false_eq_true,A59,AU,lN,hmk,mkb,d1,E0,R59]
  refine ⟨_,rfl,.inr ⟨nx,by simp [hwl],?_,by omega⟩⟩
  rw [af,if_pos rfl,hfl]
  have:blL n []=wyL (nbG g) n fr fun y=>(y:Int)=but:=by
   unfold blL wyL
   apply List.map_congr_left
   intro x _
   rw [← pJ]
   exact lU ⟨fun h=>by simp at h,fun h=>absurd c1 h.start_ok⟩
  rw [this]
 have ib:=eP (b:=nx) (e:=4) (n:=n) (i:=fr) hfr
 have hput:=fQ (f:=AV.bool) (l:=blL n []) (i:=fr) (by rw [ep];omega) true
 rw [mN] at hput
 have hle:=iB (f:=AV.bool) (l:=blL n []) (i:=fr) (by rw [ep];omega)
 simp -implicitDefEqProofs only [RA,ae,zp,↓reduceIte,reduceCtorEq,zq,zr,zs,zt,↓ay,↓az,↓ar,↓aq,↓aw,↓au,↓ak,↓aj,↓aC,↓aB,↓aE,↓aD,unA,ne_eq,not_true_eq_false,not_false_eq_true,A59,AU,lN,hmk,mkb,d1,E0,ib,hput,hle,n1]
 refine aJ (fun q st=>∃ (S Q:List Nat) (v:AV),q=2*(n-S.length)+Q.length∧q≤200∧ai st.env 0=some (ntA (ntF g))∧ai st.env 2=some (.int .i64 but)∧ai st.env 7=some (.os nx 0 4 1 n)∧ai st.env 8=some v∧aA st.heap nx=some (.cells ((blL n S).map .bool))∧Que st.heap st.nx v Q∧aM v≠some nx∧nx<st.nx∧WI (nbG g) (fun y=>(y:Int)=but) n fr S Q (fun _=>False)∧st.dm=[]) (n:=2*(n-1)+1) aI
  ⟨[fr],[fr],_,rfl,by omega,by simp [ai],by simp [ai],by simp [ai],by simp [ai];rfl,?_,?_,?_,by simp only;omega,⟨by simp,by simpa using hfr,fun x hx=>by simp at hx;subst hx;exact .nil c1,by simp,by simp,fun u hu _=>.inl hu⟩,rfl⟩ ?_
 ·simp only;rw [af,if_neg (by omega),af,if_pos rfl]
 ·exact ⟨nx+1,0,[.int .i64 fr],rfl,by simp only;rw [af,if_pos rfl];rfl,rfl,rfl,by simp only;omega⟩
 ·simp [aM]
 rintro q ⟨env,heap,nx',dm⟩ ⟨S,Q,v,rfl,hq2,g0,g2,g7,g8,gS,qu,hne,hlt,wi,hdm⟩
 simp only at g0 g2 g7 g8 gS qu hlt hdm
 subst hdm
 have lQ:=qu.len
 cases Q with
 | nil =>
  have hd:=wi.done
  rw [hd] at gS
  simp -implicitDefEqProofs only [RA,ae,zp,↓reduceIte,reduceCtorEq,zq,zr,zs,zt,↓ay,↓az,↓ar,↓aq,↓aw,↓au,↓ak,↓aj,↓aC,↓aB,↓aE,↓aD,unA,ne_eq,not_true_eq_false,not_false_eq_true,vX,qi,g0,g2,g7,g8,lQ,show ((0:Int)<((0:Nat):Int))=False from by simp,R59]
  exact ⟨_,rfl,.inr ⟨nx,by simp [hwl],by rw [hfl];exact gS,hlt⟩⟩
 | cons b Q' =>
 have hbS:=wi.sub b (by simp)
 have hbn:=wi.lt b hbS
 obtain ⟨p,cs,ip,pc,pf⟩:=qu.head
 obtain ⟨v',sl,qu',bv⟩:=qu.tail
 rw [DV] at lQ
 simp -implicitDefEqProofs only [RR,RE,RG,ae,zp,↓reduceIte,reduceCtorEq,zq,zr,zs,zt,vX,qi,g0,g2,g7,g8,lQ,ip,pc,show ((0:Int)<((Q'.length+1:Nat):Int))=True from eq_true (by omega),bnd,sl,nn,show (0≤(1:Int))=True from by decide,show ((1:Int)).toNat=1 from rfl]
 have hblk:=DN (l:=g.blocks) (show b<g.blocks.length by omega)
 generalize g.blocks[b]=blk at hblk
 have nbe:=iY hblk
 have ixN:=pm (uo hblk)
 rw [nsE] at ixN
 have lr:=eh (nxL blk.to)
 have hto:=G.to2 blk (DO hblk)
 have hnl:=jU blk.to
 have hnbl:(nbG g b).length=(nxL blk.to).length:=by rw [nbe,List.length_map]
 have hval:∀ i,i<(nxL blk.to).length→∃ c:Nat,(nxL blk.to)[i]?=some (c:Int)∧c<n∧(nbG g b)[i]?=some c:=fun i hi=>by
  have hr:=DN hi
  have hx:=jy G hblk (DO hr)
  refine ⟨((nxL blk.to)[i]).toNat,?_,by omega,?_⟩
  ·rw [hr];congr 1;omega
  ·rw [nbe,List.getElem?_map,hr];rfl
 have hSn:=cq n wi.nd wi.lt
 obtain ⟨q0,hq0⟩:∃ q0,q0=2*(n-S.length)+(Q'.length+1):=⟨_,rfl⟩
 rw [← hq0]
 rw [DV] at hq2
 have hq3:q0≤200:=by omega
 clear hq2
 refine aJ (fun q st=>∃ (i:Nat) (S:List Nat) (Q:List Nat) (v:AV),q=(nxL blk.to).length-i∧i≤(nxL blk.to).length∧ai st.env 0=some (ntA (ntF g))∧ai st.env 2=some (.int .i64 but)∧ai st.env 7=some (.os nx 0 4 1 n)∧ai st.env 8=some v∧ai st.env 9=some (.int .i64 b)∧ai st.env 10=some (.int .i64 i)∧aA st.heap nx=some (.cells ((blL n S).map .bool))∧Que st.heap st.nx v Q∧aM v≠some nx∧nx<st.nx∧WI (nbG g) (fun y=>(y:Int)=but) n fr S Q (fun u=>u=b) ∧
   b∈S∧(∀ c∈(nbG g b).take i,¬ ((c:Int)=but)→c∈S)∧2*(n-S.length)+Q.length<q0∧st.dm=[]) (n:=(nxL blk.to).length) aI
  ⟨0,S,Q',v',rfl,by omega,by simp [ai,g0],by simp [ai,g2],by simp [ai,g7],by simp [ai],by simp [ai],by simp [ai],gS,qu',by rw [bv];exact hne,hlt,⟨wi.nd,wi.lt,wi.wy,fun x hx=>wi.sub x (by simp [hx]),wi.fr,fun u hu he=>?_⟩,hbS,by simp,by omega,rfl⟩ ?_
 ·rcases wi.cl u hu (fun h=>h) with h|h
  ·rcases D8.1 h with e|e
   ·exact absurd e he
   ·exact .inl e
  ·exact .inr h
 clear g0 g2 g7 g8 gS qu hne hlt wi hbS hSn lQ ip pc pf sl qu' bv hq0
 rintro q ⟨env,heap,nx2,dm⟩ ⟨i,S,Q,v,rfl,hi,g0,g2,g7,g8,g9,g10,gS,qu,hne,hlt,wi,hbS,hpart,hms,hdm⟩
 simp only at g0 g2 g7 g8 g9 g10 gS qu hlt hdm
 subst hdm
 have f1:=wS (i:=i) (by omega)
 have hSn:=cq n wi.nd wi.lt
 by_cases hc:(i:Int)<((nxL blk.to).length:Int)
 case neg =>
  rw [show (nbG g b).take i=nbG g b from DQ (by omega)] at hpart
  simp -implicitDefEqProofs only [RA,ae,zp,↓reduceIte,reduceCtorEq,zq,zr,zs,zt,↓ay,↓az,↓ar,↓aq,↓aw,↓au,↓ak,↓aj,↓aC,↓aB,↓aE,↓aD,unA,ne_eq,not_true_eq_false,not_false_eq_true,oQ,kP,g0,g2,g7,g8,g9,g10,ixN,lr,hc]
  refine ⟨_,hms,S,Q,v,rfl,by omega,rfl,gS,qu,hne,hlt,⟨wi.nd,wi.lt,wi.wy,wi.sub,wi.fr,fun u hu _=>?_⟩⟩
  by_cases e:u=b
  ·subst e;exact .inr hpart
  ·exact wi.cl u hu e
 obtain ⟨c,hr,hcn,hnb⟩:=hval i (by omega)
 have ixr:=ej hr
 rw [inE] at ixr
 have htk:=aP hnb
 rcases ah ((c:Int)=but) with ⟨j1,i1⟩|⟨j1,i1⟩
 ·simp -implicitDefEqProofs only [RA,ae,zp,↓reduceIte,reduceCtorEq,zq,zr,zs,zt,↓ay,↓az,↓ar,↓aq,↓aw,↓au,↓ak,↓aj,↓aC,↓aB,↓aE,↓aD,unA,ne_eq,not_true_eq_false,not_false_eq_true,oQ,kP,g0,g2,g7,g8,g9,g10,ixN,lr,hc,ixr,i1,f1]
  refine ⟨(nxL blk.to).length-(i+1),by omega,i+1,S,Q,v,rfl,by omega,rfl,rfl,gS,qu,hne,hlt,wi,hbS,fun d hd hdv=>?_,hms⟩
  rw [htk] at hd
  rcases D9.1 hd with h|h
  ·exact hpart d h hdv
  ·simp at h;subst h;exact absurd j1 hdv
 have ic:=eP (b:=nx) (e:=4) (n:=n) (i:=c) hcn
 have hdr:=kr (f:=AV.bool) (kF (n:=n) (s:=S) (x:=c) hcn)
 rcases ah (c∈S) with ⟨j2,i2⟩|⟨j2,i2⟩
 ·simp -implicitDefEqProofs only [RA,ae,zp,↓reduceIte,reduceCtorEq,zq,zr,zs,zt,↓ay,↓az,↓ar,↓aq,↓aw,↓au,↓ak,↓aj,↓aC,↓aB,↓aE,↓aD,unA,ne_eq,not_true_eq_false,not_false_eq_true,oQ,kP,g0,g2,g7,g8,g9,g10,ixN,lr,hc,ixr,i1,ic,gS,hdr,i2,f1]
  refine ⟨(nxL blk.to).length-(i+1),by omega,i+1,S,Q,v,rfl,by omega,rfl,rfl,rfl,qu,hne,hlt,wi,hbS,fun d hd hdv=>?_,hms⟩
  rw [htk] at hd
  rcases D9.1 hd with h|h
  ·exact hpart d h hdv
  ·simp at h;subst h;exact j2
 have hput2:=fQ (f:=AV.bool) (l:=blL n S) (i:=c) (by rw [ep];omega) true
 rw [mN] at hput2
 have hle2:=iB (f:=AV.bool) (l:=blL n S) (i:=c) (by rw [ep];omega)
 obtain ⟨YY,hYY⟩:∃ YY:(Nat→Nat→Bool)→Option Nat→Nat→List Fr→(AX→ASt→Prop)→ASt→Prop,∀ own ro N F Q st,rg Tryz.prog own ro N F Q [⟨some 64,none,.op (.app 3 1 8 (.tmp 61) (.tmp 63))⟩,⟨some 8,none,.op (.move (.tmp 64))⟩] st=YY own ro N F Q st:=⟨_,fun _ _ _ _ _ _=>rfl⟩
 simp -implicitDefEqProofs only [RA,ae,zp,↓reduceIte,reduceCtorEq,zq,zr,zs,zt,↓ay,↓az,↓ar,↓aq,↓aw,↓au,↓ak,↓aj,↓aC,↓aB,↓aE,↓aD,unA,ne_eq,not_true_eq_false,not_false_eq_true,oQ,kP,↓hYY,g0,g2,g7,g8,g9,g10,ixN,lr,hc,ixr,i1,ic,gS,hdr,i2,hput2,hle2]
 rw [← hYY]
 have qu2:Que ((nx,AO.cells (List.map AV.bool (blL n (c::S))))::heap) nx2 v Q:=qu.keep (EQ _) fun k o h1 h2=>by
  rw [af,if_neg (fun e=>hne (by rw [h1,e]))];exact h2
 refine xn (v:=v) (l:=Q) (c:=c) (by simp [ai]) (by simp [ai]) qu2 (by omega) ?_
 intro v5 h5 n5 qu5 hk5 hn5 id5
 simp only at hn5 hk5 id5
 have gS5:=hk5 nx _ hlt hne (by rw [af,if_pos rfl])
 have hcl:(c::S).length≤n:=cq n (List.nodup_cons.2 ⟨j2,wi.nd⟩) fun x hx=>by
  rcases D8.1 hx with e|e
  ·omega
  ·exact wi.lt x e
 rw [DV] at hcl
 simp -implicitDefEqProofs only [RA,ae,zp,↓reduceIte,reduceCtorEq,zq,zr,zs,zt,↓ay,↓az,↓ar,↓aq,↓aw,↓au,↓ak,↓aj,↓aC,↓aB,↓aE,↓aD,unA,ne_eq,not_true_eq_false,not_false_eq_true,g0,g2,g7,g8,g9,g10,f1]
 refine ⟨(nxL blk.to).length-(i+1),by omega,i+1,c::S,Q++[c],v5,rfl,by omega,rfl,rfl,gS5,qu5,fun e=>?_,by omega,wi.add hcn j2 j1 hbS (DO hnb),List.mem_cons_of_mem _ hbS,fun d hd hdv=>?_,by simp;omega⟩
 ·rcases id5 _ e with h|h
  ·omega
  ·exact hne h
 ·rw [htk] at hd
  rcases D9.1 hd with h|h
  ·exact List.mem_cons_of_mem _ (hpart d h hdv)
  ·simp at h;subst h;exact List.mem_cons_self
end Go.Proofs.YtkhjclmfbmfahaaGreatDoor
