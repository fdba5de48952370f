/- Loops of the package. -/
import Derived.Test.YtkhjclmfbmfahaaDoorGP
namespace Go.Proofs.YtkhjclmfbmfahaaDoor
open List renaming getElem?_eq_getElem → D9, mem_of_getElem? → Ea, map_append → Em, mem_append → Eo, append_nil → Eu
open Bool renaming and_eq_true → EU, true_and → EV
open Nat renaming le_refl → E5
open Int renaming toNat_natCast → Fg
set_option maxHeartbeats 64000000
open Go Go.Ab Go.Proofs
open Nat renaming reduceEqDiff → zp, reduceAdd → zq, reduceLeDiff → zr, reduceLT → zs, reduceBEq → zt
set_option linter.unusedVariables false
set_option linter.unusedSimpArgs false
set_option maxRecDepth 20000
noncomputable def lpL (P:Pi) (f:Int):List (Nat × List Nat):=if chE P f=0 then (match P[f.toNat]? with|some g=>lpF (nbG g) g.blocks.length g.blocks.length|none=>[]) else []
theorem uV {P:Pi} {f:Int} {g:Fn} (h:chE P f=0) (hg:P[f.toNat]?=some g):lpL P f=lpF (nbG g) g.blocks.length g.blocks.length:=by rw [lpL,if_pos h,hg]
theorem uW {P:Pi} {f:Int} (h:chE P f≠0):lpL P f=[]:=if_neg h
noncomputable def rcK (G:Nat→List Nat) (n j:Nat):Nat:=mkP n fun x=>x<j∧Rch G x
theorem ul (G:Nat→List Nat) (n:Nat):rcK G n 0=0:=by
 apply eb
 intro i
 rw [rcK,cu,tD (fun h=>by omega)];simp
theorem zX {G:Nat→List Nat} {n j:Nat} (h:¬ Rch G j):rcK G n (j+1)=rcK G n j:=by
 apply eb
 intro i
 rw [rcK,rcK,cu,cu,gv (q:=i<j∧Rch G i) ⟨fun ⟨a,b⟩=>⟨by
  by_cases e:i=j
  ·subst e;exact absurd b h
  ·omega,b⟩,fun ⟨a,b⟩=>⟨by omega,b⟩⟩]
theorem xq {G:Nat→List Nat} {n j:Nat} (hj:j<n) (h:Rch G j):rcK G n (j+1)=rcK G n j ||| 2 ^ j:=by
 apply eb
 intro i
 rw [rcK,rcK,cu,Nat.testBit_or,cu,Nat.testBit_two_pow,Bool.eq_iff_iff]
 simp only [EU,Bool.or_eq_true,decide_eq_true_eq,cT]
 constructor
 ·rintro ⟨a,b,c⟩
  by_cases e:i=j
  ·exact .inr e.symm
  ·exact .inl ⟨a,by omega,c⟩
 ·rintro (⟨a,b,c⟩|e)
  ·exact ⟨a,by omega,c⟩
  ·subst e;exact ⟨hj,by omega,h⟩
theorem xr (G:Nat→List Nat) (n:Nat):rcK G n n=mkP n fun x=>Rch G x:=by
 apply eb
 intro i
 rw [rcK,cu,cu]
 by_cases h:i<n
 ·rw [decide_eq_true h,EV,EV,gv (q:=Rch G i) ⟨fun h=>h.2,fun hh=>⟨h,hh⟩⟩]
 ·rw [decide_eq_false h];rfl
theorem zY {G:Nat→List Nat} {n j:Nat} (hn:n≤60):rcK G n j<18446744073709551616:=gZ (by omega)
theorem rO (G:Nat→List Nat) (b:Nat):dc (Dm G 0 b)=dc (Rch G b):=gv ⟨fun h=>h.2.1,Dm.zero⟩
structure LS (g:Fn) (DA:AV) (n R c6 c8 c9 c10 bo:Nat) (B:List Nat) (H:Heap) (nx:Nat) (dm:List Nat):Prop where
 g6:ay H c6=some (.cells (fnE g))
 g8:ay H c8=some (.cells [DA])
 g9:ay H c9=some (.cells [.int .u64 R])
 g10:ay H c10=some (.cells [.os bo 0 58 1 n])
 gb:ay H bo=some (.cells (B.map ce))
 lt:c6<nx∧c8<nx∧c9<nx∧c10<nx∧bo<nx
 ne:c9≠c6∧c9≠c8∧c9≠c10∧c9≠bo∧bo≠c6∧bo≠c8∧bo≠c10
 ms:MS H nx dm
theorem LS.ext {g:Fn} {DA:AV} {n R c6 c8 c9 c10 bo:Nat} {B:List Nat} {H H':Heap} {nx nx':Nat} {dm:List Nat} (S:LS g DA n R c6 c8 c9 c10 bo B H nx dm) (hn:nx≤nx') (hk:∀ k o,k<nx→ay H k=some o→ay H' k=some o):LS g DA n R c6 c8 c9 c10 bo B H' nx' dm :=
 ⟨hk _ _ S.lt.1 S.g6,hk _ _ S.lt.2.1 S.g8,hk _ _ S.lt.2.2.1 S.g9,hk _ _ S.lt.2.2.2.1 S.g10,hk _ _ S.lt.2.2.2.2 S.gb,by have:=S.lt;omega,S.ne,S.ms.ext hn fun k o h1 h2 _=>hk k o h1 h2⟩
theorem LS.reach {g:Fn} {DA:AV} {n R c6 c8 c9 c10 bo:Nat} {B:List Nat} {H:Heap} {nx:Nat} {dm:List Nat} (S:LS g DA n R c6 c8 c9 c10 bo B H nx dm) (v:Nat):LS g DA n v c6 c8 c9 c10 bo B ((c9,.cells [.int .u64 v])::H) nx dm:=by
 obtain ⟨a1,a2,a3,a4,a5,a6,a7,a8⟩:=S
 refine ⟨by rw [af,if_neg (by omega)];exact a1,by rw [af,if_neg (by omega)];exact a2,by rw [af,if_pos rfl],by rw [af,if_neg (by omega)];exact a4,by rw [af,if_neg (by omega)];exact a5,a6,a7,a8.ext (E5 _) fun k o h1 h2 h3=>?_⟩
 rw [af,if_neg (fun e=>by rw [← e,a3] at h2;injection h2 with h2;rw [← h2] at h3;cases h3)];exact h2
theorem w205 (P:Pi) (f:Int) (ho:ka P):Pure Tryd.prog 5 [.agg (piE P),.int .i64 f] (.tup [lpA (lpL P f),.int .i64 (chE P f)]):=by
 refine Pure.frz fun nx=>AC.go aI BJ (by simp) ?_
 have w23':=w23 P f ho
 have n1:(nx+1=nx)=False:=eq_false (by omega)
 unfold piE at w23' ⊢
 simp -implicitDefEqProofs only [RA,ae,zp,↓reduceIte,reduceCtorEq,zq,zr,zs,zt,↓az,↓aA,↓ar,↓aq,↓aw,↓au,↓ak,↓aj,↓aC,↓aB,↓aE,↓aD,unA,ne_eq,not_true_eq_false,not_false_eq_true,DF,zj]
 refine w23'.use fun k1 hk1=>?_
 have a1:(k1=nx)=False:=eq_false (by omega)
 rcases ai (chE P f=0) with ⟨c1,d1⟩|⟨c1,d1⟩
 case inr =>
  rw [uW c1,mI c1]
  simp -implicitDefEqProofs only [RA,ae,zp,↓reduceIte,reduceCtorEq,zq,zr,zs,zt,↓az,↓aA,↓ar,↓aq,↓aw,↓au,↓ak,↓aj,↓aC,↓aB,↓aE,↓aD,unA,ne_eq,not_true_eq_false,not_false_eq_true,d1,a1,n1,AM,zFn]
  exact ⟨_,_,rfl,(Frz.nilS _ 2).head⟩
 obtain ⟨e0,e1,e2,g,hg,hgm⟩:=mW c1
 obtain ⟨gl,_,_,gd⟩:=rS e0
 have G:=gd g hgm
 rw [uV c1 hg,uA c1 hg,c1]
 have w39':=w39 G
 have hG:=jE G
 have hn60:=G.n2
 have hn1:=G.n1
 have fl:=jL g
 have ft:=iD g
 have ff:=bK g
 rw [ff] at fl ft w39' ⊢
 obtain ⟨n,hn⟩:∃ n,n=g.blocks.length:=⟨_,rfl⟩
 have hmk:=ol (n:=n) (b:=8) (by omega) (by omega)
 have mkb:=uR n
 rw [← hn] at w39' hG hn60 hn1 ⊢
 have ld:=xZ (ke (nbG g) n)
 rw [kO] at ld
 simp -implicitDefEqProofs only [RA,ae,zp,↓reduceIte,reduceCtorEq,zq,zr,zs,zt,↓az,↓aA,↓ar,↓aq,↓aw,↓au,↓ak,↓aj,↓aC,↓aB,↓aE,↓aD,unA,ne_eq,not_true_eq_false,not_false_eq_true,a1,n1,fl,ft]
 refine w39'.use fun k2 hk2=>?_
 obtain ⟨DA,hDA⟩:∃ a,a=AV.lst 1 ((ke (nbG g) n).map iJ):=⟨_,rfl⟩
 rw [← hDA] at ld ⊢
 have dp:DA.plain=true:=by rw [hDA];rfl
 have dc1:cellsOf DA=[DA]:=by rw [hDA];rfl
 have a2:(k2=k1)=False:=eq_false (by omega)
 have a3:(k2+1=k2)=False:=eq_false (by omega)
 have a4:(k2+1+1=k2)=False:=eq_false (by omega)
 have a5:(k2+2=k2)=False:=eq_false (by omega)
 have a6:(k2+3=k2)=False:=eq_false (by omega)
 simp -implicitDefEqProofs only [RA,ae,zp,↓reduceIte,reduceCtorEq,zq,zr,zs,zt,↓az,↓aA,↓ar,↓aq,↓aw,↓au,↓ak,↓aj,↓aC,↓aB,↓aE,↓aD,unA,ne_eq,not_true_eq_false,not_false_eq_true,ld,hmk,mkb,Fg,a2,a3,a4,a5,a6,dp,dc1]
 have S0:LS g DA n 0 k1 k2 (k2+1) (k2+1+1+1) (k2+1+1) (List.replicate n 0) [(k2+1+1+1,AO.cells [.os (k2+1+1) 0 58 1 n]),(k2+1+1+1,.cells [.nilS]),(k2+1+1,.cells ((List.replicate n 0).map ce)),(k2+1,.cells [.int .u64 0]),(k2,.cells [DA]),(k2,.cells [.nilS]),(k1,.cells [.str g.name,bj g.params,.int .i64 g.result,bj g.locals,cg g.blocks]),(k1,.cells [.str [],.nilS,.int .i64 0,.nilS,.nilS]),(nx,.cells [cr P])] (k2+1+1+1+1) []:=by
  refine ⟨?_,?_,?_,?_,?_,by omega,by omega,⟨fun d hd=>by simp at hd,.nil⟩⟩
  ·repeat (first|rw [af,if_pos rfl]|rw [af,if_neg (by omega)])
   rw [ff]
  all_goals repeat (first|rw [af,if_pos rfl]|rw [af,if_neg (by omega)])
  rfl
 obtain ⟨c10,hc10⟩:∃ c,c=k2+1+1+1:=⟨_,rfl⟩
 obtain ⟨bo,hbo⟩:∃ c,c=k2+1+1:=⟨_,rfl⟩
 obtain ⟨c9,hc9⟩:∃ c,c=k2+1:=⟨_,rfl⟩
 rw [← hc10] at S0 ⊢
 rw [← hbo] at S0 ⊢
 rw [← hc9] at S0 ⊢
 refine aJ (fun q st=>∃ (j:Nat) (B:List Nat),q=n-j∧j≤n∧ah st.env 6=some (.op k1 0)∧ah st.env 8=some (.op k2 0)∧ah st.env 9=some (.op c9 0)∧ah st.env 10=some (.op c10 0)∧ah st.env 33=some (.int .i64 n)∧ah st.env 34=some (.int .i64 j) ∧
   BI (nbG g) n j [] B∧LS g DA n (rcK (nbG g) n j) k1 k2 c9 c10 bo B st.heap st.nx st.dm) (n:=n) aI
  ⟨0,_,rfl,by omega,by simp [ah],by simp [ah],by simp [ah],by simp [ah],by simp [ah],by simp [ah],BI.first,by rw [ul];exact S0⟩ ?_
 clear S0
 rintro q ⟨env,heap,nx',dm⟩ ⟨j,B,rfl,hj,g6,g8,g9,g10,g33,g34,hB,S⟩
 simp only at g6 g8 g9 g10 g33 g34 S
 have f1:=wS (i:=j) (by omega)
 have s6:=S.g6
 have s8:=S.g8
 have s9:=S.g9
 have s10:=S.g10
 have sl:=S.lt
 by_cases hc:(j:Int)<(n:Int)
 case neg =>
  have e:j=n:=by omega
  subst e
  rw [xr] at S
  simp -implicitDefEqProofs only [RA,ae,zp,↓reduceIte,reduceCtorEq,zq,zr,zs,zt,↓az,↓aA,↓ar,↓aq,↓aw,↓au,↓ak,↓aj,↓aC,↓aB,↓aE,↓aD,unA,ne_eq,not_true_eq_false,not_false_eq_true,qS,nG,g6,g8,g9,g10,g33,g34,hc,s8,ld]
  refine xI G (c6:=k1) (c8:=k2) (c9:=c9) (c10:=c10) (bo:=bo) (B:=B) hn hB ld (by simp [ah,g6]) (by simp [ah,g8]) (by simp [ah,g9]) (by simp [ah,g10]) (by simp [ah]) (by simp [ah]) (by simp [ah]) S.g6 S.g8 S.g9 S.g10 S.gb S.lt ?_
  intro env' h' n' v ev ov hv hfr hle
  simp -implicitDefEqProofs only [RA,ae,zp,↓reduceIte,reduceCtorEq,zq,zr,zs,zt,↓az,↓aA,↓ar,↓aq,↓aw,↓au,↓ak,↓aj,↓aC,↓aB,↓aE,↓aD,unA,ne_eq,not_true_eq_false,not_false_eq_true,ev,kT,AM]
  have hms:=S.ms.ext hle fun k o h1 h2 _=>hfr k o h1 h2
  refine ⟨hms.ok,?_⟩
  have ov2:aU 65 2 (eK h' dm) n' v ((lpF (nbG g) j j).map lpE):=ov.keep (E5 _) fun k o h1 h2=>by
   rw [iC _ _ _ fun hm=>by have:=(S.ms.d1 k hm).1;have:=hv k h1;simp only at this;omega];exact h2
  obtain ⟨h2,hf⟩:=ov2.frz (km _)
  exact ⟨_,_,rfl,hf.head⟩
 have hjn:j<n:=by omega
 have hdb:(ke (nbG g) n)[j]?=some (mkP n fun a=>Dm (nbG g) a j):=mT hjn
 have hdl:=gZ (n:=n) (p:=fun a=>Dm (nbG g) a j) (by omega)
 have ixd:=rN hdb
 rw [← hDA] at ixd
 have w0:=w30 (mkP n fun a=>Dm (nbG g) a j) 0 hdl (by omega)
 rw [cu,decide_eq_true (show 0<n by omega),EV,rO,show ((0:Nat):Int)=0 from rfl] at w0
 generalize mkP n (fun a=>Dm (nbG g) a j)=DB at w0 ixd
 have w1:=w40 (rcK (nbG g) n j) j (zY hn60) (by omega)
 have b1:(nx'=k1)=False:=eq_false (by omega)
 have b2:(nx'=k2)=False:=eq_false (by omega)
 have b3:(nx'=c9)=False:=eq_false (by omega)
 have b4:(nx'=c10)=False:=eq_false (by omega)
 rw [ff] at s6
 simp -implicitDefEqProofs only [RA,ae,zp,↓reduceIte,reduceCtorEq,zq,zr,zs,zt,↓az,↓aA,↓ar,↓aq,↓aw,↓au,↓ak,↓aj,↓aC,↓aB,↓aE,↓aD,unA,ne_eq,not_true_eq_false,not_false_eq_true,qS,nG,g6,g8,g9,g10,g33,g34,hc,s6,s8,s9,s10,ixd,b1,b2,b3,b4]
 refine w0.use fun k3 hk3=>?_
 have hbl:=D9 (l:=g.blocks) (i:=j) (by omega)
 generalize g.blocks[j]=blk at hbl
 have b5:(c9=nx')=False:=eq_false (by omega)
 have sne:=S.ne
 have b6:(c9=k1)=False:=eq_false (by omega)
 have b7:(k1=c9)=False:=eq_false (by omega)
 have b8:(nx'=k1)=False:=eq_false (by omega)
 cases hd:dc (Rch (nbG g) j)
 ·have hr:¬ Rch (nbG g) j:=fun h=>by rw [pV h] at hd;cases hd
  simp -implicitDefEqProofs only [RA,ae,zp,↓reduceIte,reduceCtorEq,zq,zr,zs,zt,↓az,↓aA,↓ar,↓aq,↓aw,↓au,↓ak,↓aj,↓aC,↓aB,↓aE,↓aD,unA,ne_eq,not_true_eq_false,not_false_eq_true,g6,g8,g9,g10,g33,g34,s6,s8,s9,s10,b1,b2,b3,b4,b5,b6,b7,fl,ft]
  have w2:=w25 g j ((nx',AO.cells [.int .i64 j])::(nx',.cells [.int .i64 0])::heap) k3
  rw [ff] at w2
  have S1':LS g DA n (rcK (nbG g) n (j+1)) k1 k2 c9 c10 bo B ((nx',AO.cells [.int .i64 j])::(nx',.cells [.int .i64 0])::heap) k3 dm:=by rw [zX hr];exact (S.ext (nx':=k3) (by omega) fun k o h1 h2=>by rw [af,if_neg (by omega),af,if_neg (by omega)];exact h2)
  have S2:LS g DA n (rcK (nbG g) n (j+1)) k1 k2 c9 c10 bo B ((k3+1,.cells [.int .i64 j])::(k3,.cells [.str g.name,bj g.params,.int .i64 g.result,bj g.locals,cg g.blocks])::(nx',AO.cells [.int .i64 j])::(nx',.cells [.int .i64 0])::heap) (k3+1+1) dm:=S1'.ext (by omega) fun k o h1 h2=>by
   rw [af,if_neg (by omega),af,if_neg (by omega)];exact h2
  refine w2.mono ?_
  rintro y hh2 nn ⟨rfl,rfl,rfl⟩
  simp -implicitDefEqProofs only [RA,ae,zp,↓reduceIte,reduceCtorEq,zq,zr,zs,zt,↓az,↓aA,↓ar,↓aq,↓aw,↓au,↓ak,↓aj,↓aC,↓aB,↓aE,↓aD,unA,ne_eq,not_true_eq_false,not_false_eq_true,cN]
  have t8:=S2.g8
  rw [hDA] at t8
  have tl:=S2.lt
  have tn:=S2.ne
  refine ot G (cD:=k2) (cB:=c10) (bo:=bo) (c1:=k3) (c2:=k3+1) (cb:=nx') (b:=j) (B:=B) hbl hn hjn hB (by simp [ah,g8]) (by simp [ah,g10]) (by simp [ah]) (by simp [ah]) t8 S2.g10 S2.gb
   (by simp only;repeat (first|rw [af,if_pos rfl]|rw [af,if_neg (by omega)])) (by simp only;rw [af,if_neg (by omega),af,if_pos rfl,ff]) (by simp only;rw [af,if_pos rfl]) (by simp only;omega) (by omega) ?_
  intro h5 n5 B' hn5 hk5 hd5 hB5 hb5
  simp only at hn5 hk5 hd5
  simp -implicitDefEqProofs only [RA,ae,zp,↓reduceIte,reduceCtorEq,zq,zr,zs,zt,↓az,↓aA,↓ar,↓aq,↓aw,↓au,↓ak,↓aj,↓aC,↓aB,↓aE,↓aD,unA,ne_eq,not_true_eq_false,not_false_eq_true,g6,g8,g9,g10,g33,g34,f1]
  refine ⟨n-(j+1),by omega,j+1,B',rfl,by omega,rfl,hB5,⟨hk5 _ _ (by omega) (by omega) S2.g6,hk5 _ _ (by omega) (by omega) S2.g8,hk5 _ _ (by omega) (by omega) S2.g9,hk5 _ _ (by omega) (by omega) S2.g10,hb5,by omega,S2.ne,S2.ms.mark (d:=k3+1+1) (by omega) (by omega) (fun k o h1 h2 h3=>hk5 k o (by omega) (fun e=>by
   have tb:=S2.gb
   rw [← e,h2] at tb;injection tb with tb;rw [tb] at h3;cases h3) h2) hd5⟩⟩
 ·have hr:=cT.1 hd
  simp -implicitDefEqProofs only [RA,ae,zp,↓reduceIte,reduceCtorEq,zq,zr,zs,zt,↓az,↓aA,↓ar,↓aq,↓aw,↓au,↓ak,↓aj,↓aC,↓aB,↓aE,↓aD,unA,ne_eq,not_true_eq_false,not_false_eq_true,g6,g8,g9,g10,g33,g34,s6,s8,s9,s10,b1,b2,b3,b4,b5,b6,b7,fl,ft]
  refine w1.use fun k4 hk4=>?_
  simp -implicitDefEqProofs only [RA,ae,zp,↓reduceIte,reduceCtorEq,zq,zr,zs,zt,↓az,↓aA,↓ar,↓aq,↓aw,↓au,↓ak,↓aj,↓aC,↓aB,↓aE,↓aD,unA,ne_eq,not_true_eq_false,not_false_eq_true,g6,g8,g9,g10,g33,g34,s6,s8,s9,s10,b1,b2,b3,b4,b5,b6,b7,fl,ft]
  have w2:=w25 g j ((c9,AO.cells [.int .u64 ((rcK (nbG g) n j ||| 2 ^ j:Nat):Int)])::(nx',.cells [.int .i64 j])::(nx',.cells [.int .i64 0])::heap) k4
  rw [ff] at w2
  have S1':LS g DA n (rcK (nbG g) n (j+1)) k1 k2 c9 c10 bo B ((c9,AO.cells [.int .u64 ((rcK (nbG g) n j ||| 2 ^ j:Nat):Int)])::(nx',.cells [.int .i64 j])::(nx',.cells [.int .i64 0])::heap) k4 dm:=by rw [xq hjn hr];exact (S.ext (nx':=k4) (by omega) fun k o h1 h2=>by rw [af,if_neg (by omega),af,if_neg (by omega)];exact h2).reach _
  have S2:LS g DA n (rcK (nbG g) n (j+1)) k1 k2 c9 c10 bo B ((k4+1,.cells [.int .i64 j])::(k4,.cells [.str g.name,bj g.params,.int .i64 g.result,bj g.locals,cg g.blocks])::(c9,AO.cells [.int .u64 ((rcK (nbG g) n j ||| 2 ^ j:Nat):Int)])::(nx',.cells [.int .i64 j])::(nx',.cells [.int .i64 0])::heap) (k4+1+1) dm:=S1'.ext (by omega) fun k o h1 h2=>by
   rw [af,if_neg (by omega),af,if_neg (by omega)];exact h2
  refine w2.mono ?_
  rintro y hh2 nn ⟨rfl,rfl,rfl⟩
  simp -implicitDefEqProofs only [RA,ae,zp,↓reduceIte,reduceCtorEq,zq,zr,zs,zt,↓az,↓aA,↓ar,↓aq,↓aw,↓au,↓ak,↓aj,↓aC,↓aB,↓aE,↓aD,unA,ne_eq,not_true_eq_false,not_false_eq_true,cN]
  have t8:=S2.g8
  rw [hDA] at t8
  have tl:=S2.lt
  have tn:=S2.ne
  refine ot G (cD:=k2) (cB:=c10) (bo:=bo) (c1:=k4) (c2:=k4+1) (cb:=nx') (b:=j) (B:=B) hbl hn hjn hB (by simp [ah,g8]) (by simp [ah,g10]) (by simp [ah]) (by simp [ah]) t8 S2.g10 S2.gb
   (by simp only;repeat (first|rw [af,if_pos rfl]|rw [af,if_neg (by omega)])) (by simp only;rw [af,if_neg (by omega),af,if_pos rfl,ff]) (by simp only;rw [af,if_pos rfl]) (by simp only;omega) (by omega) ?_
  intro h5 n5 B' hn5 hk5 hd5 hB5 hb5
  simp only at hn5 hk5 hd5
  simp -implicitDefEqProofs only [RA,ae,zp,↓reduceIte,reduceCtorEq,zq,zr,zs,zt,↓az,↓aA,↓ar,↓aq,↓aw,↓au,↓ak,↓aj,↓aC,↓aB,↓aE,↓aD,unA,ne_eq,not_true_eq_false,not_false_eq_true,g6,g8,g9,g10,g33,g34,f1]
  refine ⟨n-(j+1),by omega,j+1,B',rfl,by omega,rfl,hB5,⟨hk5 _ _ (by omega) (by omega) S2.g6,hk5 _ _ (by omega) (by omega) S2.g8,hk5 _ _ (by omega) (by omega) S2.g9,hk5 _ _ (by omega) (by omega) S2.g10,hb5,by omega,S2.ne,S2.ms.mark (d:=k4+1+1) (by omega) (by omega) (fun k o h1 h2 h3=>hk5 k o (by omega) (fun e=>by
   have tb:=S2.gb
   rw [← e,h2] at tb;injection tb with tb;rw [tb] at h3;cases h3) h2) hd5⟩⟩
noncomputable def bkL (G:Nat→List Nat) (n h j:Nat) (p:Bool):List Bool:=(List.range n).map fun x=>(decide (x<j)&&dc (Bw G h x))||(decide (x=j)&&p)
noncomputable def bkF (G:Nat→List Nat) (n h:Nat):List Bool:=(List.range n).map fun x=>dc (Bw G h x)
theorem jw (G:Nat→List Nat) (n h j:Nat) (p:Bool):(bkL G n h j p).length=n:=by simp [bkL]
theorem AF {G:Nat→List Nat} {n h x:Nat} (hx:x<n):(bkF G n h)[x]?=some (dc (Bw G h x)):=by simp [bkF,hx]
theorem vH (G:Nat→List Nat) (n h:Nat):bkL G n h 0 false=blL n []:=by simp [bkL,blL]
theorem vI (G:Nat→List Nat) (n h j:Nat):bkL G n h j (dc (Bw G h j))=bkL G n h (j+1) false:=by
 unfold bkL
 apply List.map_congr_left
 intro x _
 by_cases e:x=j
 ·subst e;simp
 ·rw [show decide (x<j+1)=decide (x<j) from decide_eq_decide.2 (by omega),decide_eq_false e];simp
theorem yo (G:Nat→List Nat) (n h:Nat):bkL G n h n false=bkF G n h:=by
 unfold bkL bkF
 apply List.map_congr_left
 intro x hx
 rw [decide_eq_true (List.mem_range.1 hx)];simp
theorem vJ {G:Nat→List Nat} {n h j x:Nat} {p:Bool} (hx:x<n):(bkL G n h j p)[x]?=some ((decide (x<j)&&dc (Bw G h x))||(decide (x=j)&&p)):=by simp [bkL,hx]
theorem yn {G:Nat→List Nat} {n h j:Nat} {p:Bool} (hj:j<n):(bkL G n h j p).set j true=bkL G n h j true:=by
 apply List.ext_getElem?
 intro x
 by_cases hx:x<n
 ·rw [vJ hx]
  by_cases e:x=j
  ·subst e;rw [List.getElem?_set_self (by rw [jw];exact hx)];simp
  ·rw [List.getElem?_set_ne (by omega),vJ hx,decide_eq_false e];simp
 ·rw [List.getElem?_eq_none (by rw [List.length_set,jw];omega),List.getElem?_eq_none (by rw [jw];omega)]
noncomputable def isK (G:Nat→List Nat) (h j:Nat):Bool:=dc (∃ x,x<j∧Bw G h x)
theorem uZ (G:Nat→List Nat) (h:Nat):isK G h 0=false:=tD fun ⟨x,hx,_⟩=>by omega
theorem u0 (G:Nat→List Nat) (h j:Nat):isK G h (j+1)=(isK G h j||dc (Bw G h j)):=by
 unfold isK
 rw [Bool.eq_iff_iff,Bool.or_eq_true,cT,cT,cT]
 constructor
 ·rintro ⟨x,hx,hb⟩
  by_cases e:x=j
  ·subst e;exact .inr hb
  ·exact .inl ⟨x,by omega,hb⟩
 ·rintro (⟨x,hx,hb⟩|hb)
  ·exact ⟨x,by omega,hb⟩
  ·exact ⟨j,by omega,hb⟩
theorem xN {G:Nat→List Nat} {n h:Nat} (hG:∀ x,Rch G x→x<n):isK G h n=dc (∃ u,Bw G h u):=gv ⟨fun ⟨x,_,hb⟩=>⟨x,hb⟩,fun ⟨x,hb⟩=>⟨x,hG _ hb.rch,hb⟩⟩
noncomputable def pI (G:Nat→List Nat) (h u:Nat) (l:List Int):Bool:=dc (h∈l.map Int.toNat∧Dm G h u)
theorem uu (G:Nat→List Nat) (h u:Nat):pI G h u []=false:=tD fun h=>by simp at h
theorem xu (G:Nat→List Nat) (h u:Nat) (l:List Int) (c:Int) (hc:0≤c):pI G h u (l++[c])=(pI G h u l||(decide (c=(h:Int))&&dc (Dm G h u))):=by
 unfold pI
 rw [Bool.eq_iff_iff,Bool.or_eq_true,EU,decide_eq_true_eq,cT,cT,cT,Em,Eo]
 constructor
 ·rintro ⟨h1|h1,h2⟩
  ·exact .inl ⟨h1,h2⟩
  ·simp at h1;exact .inr ⟨by omega,h2⟩
 ·rintro (⟨h1,h2⟩|⟨h1,h2⟩)
  ·exact ⟨.inl h1,h2⟩
  ·exact ⟨.inr (by simp;omega),h2⟩
theorem AH {P:Pi} {g:Fn} (G:GdF P g) {h rb n:Nat} {v:AV} {st:ASt} {Q:AX→ASt→Prop} (hn:n=g.blocks.length) (hh:h<n)
  (g6:ah st.env 6=some (ntA (ntF g))) (g8:ah st.env 8=some (bbA (dtL (nbG g) n))) (g9:ah st.env 9=some v) (g10:ah st.env 10=some (.int .i64 h)) (g11:ah st.env 11=some (.os rb 0 4 1 n)) (g12:ah st.env 12=some (.bool false)) (g13:ah st.env 13=some (.int .i64 0))
  (hb:ay st.heap rb=some (.cells ((blL n []).map .bool)))
  (hQ:∀ env' h',ah env' 6=some (ntA (ntF g))→ah env' 8=some (bbA (dtL (nbG g) n))→ah env' 9=some v→ah env' 10=some (.int .i64 h)→ah env' 11=some (.os rb 0 4 1 n)→ah env' 12=some (.bool (dc (∃ u,Bw (nbG g) h u)))→ay h' rb=some (.cells ((bkF (nbG g) n h).map .bool)) →
   (∀ k o,k≠rb→ay st.heap k=some o→ay h' k=some o)→Q (.exit 2) ⟨env',h',st.nx,st.dm⟩) :
  AW Tryd.prog (fun _ _=>false) none 132 (.loop nE) Q st:=by
 have hn60:=G.n2
 have hG:=jE G
 have lN:=kH (ntF g)
 rw [jf] at lN
 rw [← hn] at hn60 hG lN
 have ixr:=fun a (h:a<n)=>rX (vq (G:=nbG g) h)
 have ixc:=fun a x (h:x<n)=>rV (ug (G:=nbG g) (a:=a) h)
 generalize bbA (dtL (nbG g) n)=DT at *
 obtain ⟨H1,hH1⟩:∃ k,k=st.heap:=⟨_,rfl⟩
 obtain ⟨n1,hn1⟩:∃ k,k=st.nx:=⟨_,rfl⟩
 obtain ⟨dm1,hdm1⟩:∃ k,k=st.dm:=⟨_,rfl⟩
 rw [← hH1] at hb hQ
 rw [← hn1,← hdm1] at hQ
 refine aJ (F:=[]) (Q:=Q) (fun q st=>∃ (u:Nat),q=n-u∧u≤n∧ah st.env 6=some (ntA (ntF g))∧ah st.env 8=some DT∧ah st.env 9=some v∧ah st.env 10=some (.int .i64 h)∧ah st.env 11=some (.os rb 0 4 1 n)∧ah st.env 12=some (.bool (isK (nbG g) h u))∧ah st.env 13=some (.int .i64 u) ∧
   ay st.heap rb=some (.cells ((bkL (nbG g) n h u false).map .bool))∧(∀ k o,k≠rb→ay H1 k=some o→ay st.heap k=some o)∧st.nx=n1∧st.dm=dm1) (n:=n) aI
  ⟨0,rfl,by omega,g6,g8,g9,g10,g11,by rw [uZ];exact g12,g13,by rw [vH,← hH1];exact hb,fun k o _ h=>by rw [← hH1];exact h,hn1.symm,hdm1.symm⟩ ?_
 clear g6 g8 g9 g10 g11 g12 g13 hb
 rintro q ⟨env,heap,nx',dm⟩ ⟨u,rfl,hu,g6,g8,g9,g10,g11,g12,g13,gr,hfr,hnx,hdm⟩
 simp only at g6 g8 g9 g10 g11 g12 g13 gr hfr hnx hdm
 subst hnx hdm
 have f1:=wS (i:=u) (by omega)
 by_cases hc:(u:Int)<(n:Int)
 case neg =>
  have e:u=n:=by omega
  subst e
  rw [yo] at gr
  rw [xN hG] at g12
  simp -implicitDefEqProofs only [RA,ae,zp,↓reduceIte,reduceCtorEq,zq,zr,zs,zt,↓az,↓aA,↓ar,↓aq,↓aw,↓au,↓ak,↓aj,↓aC,↓aB,↓aE,↓aD,unA,ne_eq,not_true_eq_false,not_false_eq_true,nE,nD,g6,g8,g9,g10,g11,g12,g13,lN,hc]
  exact hQ _ _ (by simp [ah,g6]) (by simp [ah,g8]) (by simp [ah,g9]) (by simp [ah,g10]) (by simp [ah,g11]) (by simp [ah,g12]) gr hfr
 have hun:u<n:=by omega
 have hblk:=D9 (l:=g.blocks) (show u<g.blocks.length by omega)
 generalize g.blocks[u]=blk at hblk
 have nbe:=e8 hblk
 have ixN:=uK (uM hblk)
 rw [nsE] at ixN
 have lr:=eQ (nxL blk.to)
 have hto:=G.to2 blk (Ea hblk)
 have hnl:=rx blk.to
 simp -implicitDefEqProofs only [RA,ae,zp,↓reduceIte,reduceCtorEq,zq,zr,zs,zt,↓az,↓aA,↓ar,↓aq,↓aw,↓au,↓ak,↓aj,↓aC,↓aB,↓aE,↓aD,unA,ne_eq,not_true_eq_false,not_false_eq_true,nE,nD,g6,g8,g9,g10,g11,g12,g13,lN,hc]
 refine aJ (fun q st=>∃ (i:Nat),q=(nxL blk.to).length-i∧i≤(nxL blk.to).length∧ah st.env 6=some (ntA (ntF g))∧ah st.env 8=some DT∧ah st.env 9=some v∧ah st.env 10=some (.int .i64 h)∧ah st.env 11=some (.os rb 0 4 1 n)∧ah st.env 12=some (.bool (isK (nbG g) h u||pI (nbG g) h u ((nxL blk.to).take i)))∧ah st.env 13=some (.int .i64 u)∧ah st.env 14=some (.int .i64 i) ∧
   ay st.heap rb=some (.cells ((bkL (nbG g) n h u (pI (nbG g) h u ((nxL blk.to).take i))).map .bool))∧(∀ k o,k≠rb→ay H1 k=some o→ay st.heap k=some o)∧st.nx=nx'∧st.dm=dm) (n:=(nxL blk.to).length) aI
  ⟨0,rfl,by omega,by simp [ah,g6],by simp [ah,g8],by simp [ah,g9],by simp [ah,g10],by simp [ah,g11],by simp [ah,g12,uu],by simp [ah,g13],by simp [ah],by rw [List.take_zero,uu];exact gr,hfr,rfl,rfl⟩ ?_
 clear g6 g8 g9 g10 g11 g12 g13 gr hfr
 rintro q ⟨env,heap2,nx2,dm2⟩ ⟨i,rfl,hi,g6,g8,g9,g10,g11,g12,g13,g14,gr,hfr,hnx,hdm⟩
 simp only at g6 g8 g9 g10 g11 g12 g13 g14 gr hfr hnx hdm
 subst hnx hdm
 have f2:=wS (i:=i) (by omega)
 by_cases hci:(i:Int)<((nxL blk.to).length:Int)
 case neg =>
  rw [show (nxL blk.to).take i=nxL blk.to from List.take_of_length_le (by omega)] at g12 gr
  have hp:pI (nbG g) h u (nxL blk.to)=dc (Bw (nbG g) h u):=gv (by rw [← nbe];exact Iff.rfl)
  rw [hp] at g12 gr
  rw [vI] at gr
  rw [← u0] at g12
  simp -implicitDefEqProofs only [RA,ae,zp,↓reduceIte,reduceCtorEq,zq,zr,zs,zt,↓az,↓aA,↓ar,↓aq,↓aw,↓au,↓ak,↓aj,↓aC,↓aB,↓aE,↓aD,unA,ne_eq,not_true_eq_false,not_false_eq_true,lh,jA,g6,g8,g9,g10,g11,g12,g13,g14,lN,ixN,lr,hci,f1]
  exact ⟨n-(u+1),by omega,u+1,rfl,by omega,rfl,rfl,gr,hfr⟩
 have hr:=D9 (show i<(nxL blk.to).length by omega)
 generalize (nxL blk.to)[i]=c at hr
 have hc0:=gY G hblk (c:=c) (Ea hr)
 have ixr2:=eR hr
 have hps:=xu (nbG g) h u ((nxL blk.to).take i) c hc0.1
 rw [← aO hr] at hps
 have ixh:=ixr h hh
 have ixu:=ixc h u hun
 generalize pI (nbG g) h u ((nxL blk.to).take i)=p at *
 rcases ai (c=(h:Int)) with ⟨k1,j1⟩|⟨k1,j1⟩
 ·rw [decide_eq_true k1,EV] at hps
  cases hd:dc (Dm (nbG g) h u)
  ·rw [hd] at hps ixu
   rw [Bool.or_false] at hps
   rw [← hps] at g12 gr
   simp -implicitDefEqProofs only [RA,ae,zp,↓reduceIte,reduceCtorEq,zq,zr,zs,zt,↓az,↓aA,↓ar,↓aq,↓aw,↓au,↓ak,↓aj,↓aC,↓aB,↓aE,↓aD,unA,ne_eq,not_true_eq_false,not_false_eq_true,lh,jA,g6,g8,g9,g10,g11,g12,g13,g14,lN,ixN,lr,hci,ixr2,inE,j1,ixh,ixu,f2]
   exact ⟨(nxL blk.to).length-(i+1),by omega,i+1,rfl,by omega,rfl,rfl,gr,hfr⟩
  ·rw [hd] at hps ixu
   rw [Bool.or_true] at hps
   have ir:=eu (b:=rb) (e:=4) (n:=n) (i:=u) hun
   have hput:=fB (f:=AV.bool) (l:=bkL (nbG g) n h u p) (i:=u) (by rw [jw];omega) true
   have hle:=hE (f:=AV.bool) (l:=bkL (nbG g) n h u p) (i:=u) (by rw [jw];omega)
   rw [yn hun] at hput
   simp -implicitDefEqProofs only [RA,ae,zp,↓reduceIte,reduceCtorEq,zq,zr,zs,zt,↓az,↓aA,↓ar,↓aq,↓aw,↓au,↓ak,↓aj,↓aC,↓aB,↓aE,↓aD,unA,ne_eq,not_true_eq_false,not_false_eq_true,lh,jA,g6,g8,g9,g10,g11,g12,g13,g14,lN,ixN,lr,hci,ixr2,inE,j1,ixh,ixu,f2,ir,gr,hput,hle]
   refine ⟨(nxL blk.to).length-(i+1),by omega,i+1,rfl,by omega,by rw [hps,Bool.or_true],rfl,by rw [hps],fun k o h1 h2=>?_⟩
   rw [if_neg (fun e=>h1 e.symm)];exact hfr k o h1 h2
 ·rw [decide_eq_false k1,Bool.false_and,Bool.or_false] at hps
  rw [← hps] at g12 gr
  simp -implicitDefEqProofs only [RA,ae,zp,↓reduceIte,reduceCtorEq,zq,zr,zs,zt,↓az,↓aA,↓ar,↓aq,↓aw,↓au,↓ak,↓aj,↓aC,↓aB,↓aE,↓aD,unA,ne_eq,not_true_eq_false,not_false_eq_true,lh,jA,g6,g8,g9,g10,g11,g12,g13,g14,lN,ixN,lr,hci,ixr2,inE,j1,f2]
  exact ⟨(nxL blk.to).length-(i+1),by omega,i+1,rfl,by omega,rfl,rfl,gr,hfr⟩
noncomputable def inK (G:Nat→List Nat) (h b j:Nat):Bool:=dc (b=h∨∃ x,x<j∧Bw G h x∧Wy G (fun y=>(y:Int)=(h:Int)) b x∧Rch G b)
theorem vb (G:Nat→List Nat) (h b:Nat):inK G h b 0=decide ((b:Int)=(h:Int)):=by
 rw [← pW]
 exact gv ⟨fun h=>h.elim (fun e=>by omega) fun ⟨x,hx,_⟩=>by omega,fun e=>.inl (by omega)⟩
theorem vd (G:Nat→List Nat) (h b j:Nat):inK G h b (j+1)=(inK G h b j||(dc (Bw G h j)&&(dc (Wy G (fun y=>(y:Int)=(h:Int)) b j)&&dc (Rch G b)))):=by
 unfold inK
 rw [Bool.eq_iff_iff]
 simp only [Bool.or_eq_true,EU,cT]
 constructor
 ·rintro (e|⟨x,hx,h1,h2,h3⟩)
  ·exact .inl (.inl e)
  ·by_cases e:x=j
   ·subst e;exact .inr ⟨h1,h2,h3⟩
   ·exact .inl (.inr ⟨x,by omega,h1,h2,h3⟩)
 ·rintro ((e|⟨x,hx,h1,h2,h3⟩)|⟨h1,h2,h3⟩)
  ·exact .inl e
  ·exact .inr ⟨x,by omega,h1,h2,h3⟩
  ·exact .inr ⟨j,by omega,h1,h2,h3⟩
theorem xR {G:Nat→List Nat} {n h b:Nat} (hG:∀ x,Rch G x→x<n):inK G h b n=dc (LI G h b):=by
 refine gv ⟨fun k=>?_,fun k=>?_⟩
 ·rcases k with e|⟨x,hx,h1,h2,h3⟩
  ·exact .inl e
  ·exact .inr ⟨h3,x,h1,mw.1 h2⟩
 ·rcases k with e|⟨h3,x,h1,h2⟩
  ·exact .inl e
  ·exact .inr ⟨x,hG _ h1.rch,h1,mw.2 h2,h3⟩
theorem in_l {P:Pi} {g:Fn} (G:GdF P g) {h rb n b cE:Nat} {v:AV} {st:ASt} {Q:AX→ASt→Prop} (hn:n=g.blocks.length) (hbn:b<n)
  (g6:ah st.env 6=some (ntA (ntF g))) (g8:ah st.env 8=some (bbA (dtL (nbG g) n))) (g9:ah st.env 9=some v) (g10:ah st.env 10=some (.int .i64 h)) (g11:ah st.env 11=some (.os rb 0 4 1 n)) (g15:ah st.env 15=some (.op cE 0)) (g16:ah st.env 16=some (.int .i64 b)) (g17:ah st.env 17=some (.bool (decide ((b:Int)=(h:Int)))))
  (g18:ah st.env 18=some (.lst 1 ((wyL (nbG g) n b fun y=>(y:Int)=(h:Int)).map fun b=>[.bool b]))) (g19:ah st.env 19=some (.int .i64 0))
  (hb:ay st.heap rb=some (.cells ((bkF (nbG g) n h).map .bool)))
  (hQ:∀ env',ah env' 6=some (ntA (ntF g))→ah env' 8=some (bbA (dtL (nbG g) n))→ah env' 9=some v→ah env' 10=some (.int .i64 h)→ah env' 11=some (.os rb 0 4 1 n)→ah env' 15=some (.op cE 0)→ah env' 16=some (.int .i64 b)→ah env' 17=some (.bool (dc (LI (nbG g) h b))) →
   Q (.exit 8) ⟨env',st.heap,st.nx,st.dm⟩) :
  AW Tryd.prog (fun _ _=>false) none 132 (.loop iW) Q st:=by
 have hn60:=G.n2
 have hG:=jE G
 have lN:=kH (ntF g)
 rw [jf] at lN
 rw [← hn] at hn60 hG lN
 have ix0:=rX (vq (G:=nbG g) (show 0<n by omega))
 have ixb:=rV (ug (G:=nbG g) (a:=0) hbn)
 rw [rO] at ixb
 rw [show ((0:Nat):Int)=0 from rfl] at ix0
 have ixw:=fun x (h':x<n)=>(show idxA 1 (.lst 1 ((wyL (nbG g) n b fun y=>(y:Int)=(h:Int)).map fun b=>[.bool b])) (x:Int)=some (.fp [.bool (dc (Wy (nbG g) (fun y=>(y:Int)=(h:Int)) b x))]) from bI (f:=fun b=>[AV.bool b]) (my h'))
 generalize bbA (dtL (nbG g) n)=DT at *
 generalize AV.lst 1 ((wyL (nbG g) n b fun y=>(y:Int)=(h:Int)).map fun b=>[AV.bool b])=TO at *
 obtain ⟨H1,hH1⟩:∃ k,k=st.heap:=⟨_,rfl⟩
 obtain ⟨n1,hn1⟩:∃ k,k=st.nx:=⟨_,rfl⟩
 obtain ⟨dm1,hdm1⟩:∃ k,k=st.dm:=⟨_,rfl⟩
 rw [← hH1] at hb hQ
 rw [← hn1,← hdm1] at hQ
 refine aJ (F:=[]) (Q:=Q) (fun q st=>∃ (u:Nat),q=n-u∧u≤n∧ah st.env 6=some (ntA (ntF g))∧ah st.env 8=some DT∧ah st.env 9=some v∧ah st.env 10=some (.int .i64 h)∧ah st.env 11=some (.os rb 0 4 1 n)∧ah st.env 15=some (.op cE 0)∧ah st.env 16=some (.int .i64 b)∧ah st.env 17=some (.bool (inK (nbG g) h b u))∧ah st.env 18=some TO∧ah st.env 19=some (.int .i64 u) ∧
   st.heap=H1∧st.nx=n1∧st.dm=dm1) (n:=n) aI
  ⟨0,rfl,by omega,g6,g8,g9,g10,g11,g15,g16,by rw [vb];exact g17,g18,g19,hH1.symm,hn1.symm,hdm1.symm⟩ ?_
 clear g6 g8 g9 g10 g11 g15 g16 g17 g18 g19
 rintro q ⟨env,heap,nx',dm⟩ ⟨u,rfl,hu,g6,g8,g9,g10,g11,g15,g16,g17,g18,g19,hhp,hnx,hdm⟩
 simp only at g6 g8 g9 g10 g11 g15 g16 g17 g18 g19 hhp hnx hdm
 subst hnx hdm hhp
 have f1:=wS (i:=u) (by omega)
 by_cases hc:(u:Int)<(n:Int)
 case neg =>
  have e:u=n:=by omega
  subst e
  rw [xR hG] at g17
  simp -implicitDefEqProofs only [RA,ae,zp,↓reduceIte,reduceCtorEq,zq,zr,zs,zt,↓az,↓aA,↓ar,↓aq,↓aw,↓au,↓ak,↓aj,↓aC,↓aB,↓aE,↓aD,unA,ne_eq,not_true_eq_false,not_false_eq_true,iW,iF,g6,g8,g9,g10,g11,g15,g16,g17,g18,g19,lN,hc]
  exact hQ _ (by simp [ah,g6]) (by simp [ah,g8]) (by simp [ah,g9]) (by simp [ah,g10]) (by simp [ah,g11]) (by simp [ah,g15]) (by simp [ah,g16]) (by simp [ah,g17])
 have hun:u<n:=by omega
 have hs:=vd (nbG g) h b u
 have ir:=eu (b:=rb) (e:=4) (n:=n) (i:=u) hun
 have hdr:=hO (f:=AV.bool) (AF (G:=nbG g) (h:=h) hun)
 have ixt:=ixw u hun
 cases h0:inK (nbG g) h b u
 case true =>
  rw [h0] at g17 hs
  simp -implicitDefEqProofs only [RA,ae,zp,↓reduceIte,reduceCtorEq,zq,zr,zs,zt,↓az,↓aA,↓ar,↓aq,↓aw,↓au,↓ak,↓aj,↓aC,↓aB,↓aE,↓aD,unA,ne_eq,not_true_eq_false,not_false_eq_true,iW,iF,g6,g8,g9,g10,g11,g15,g16,g17,g18,g19,lN,hc,f1]
  exact ⟨n-(u+1),by omega,u+1,rfl,by omega,by rw [hs];rfl,rfl⟩
 rw [h0] at g17 hs
 rw [Bool.false_or] at hs
 cases h1:dc (Bw (nbG g) h u)
 case false =>
  rw [h1] at hdr hs
  simp -implicitDefEqProofs only [RA,ae,zp,↓reduceIte,reduceCtorEq,zq,zr,zs,zt,↓az,↓aA,↓ar,↓aq,↓aw,↓au,↓ak,↓aj,↓aC,↓aB,↓aE,↓aD,unA,ne_eq,not_true_eq_false,not_false_eq_true,iW,iF,g6,g8,g9,g10,g11,g15,g16,g17,g18,g19,lN,hc,f1,ir,hb,hdr,dX]
  exact ⟨n-(u+1),by omega,u+1,rfl,by omega,by rw [hs];rfl,rfl⟩
 rw [h1] at hdr hs
 rw [EV] at hs
 cases h2:dc (Wy (nbG g) (fun y=>(y:Int)=(h:Int)) b u)
 case false =>
  rw [h2] at ixt hs
  simp -implicitDefEqProofs only [RA,ae,zp,↓reduceIte,reduceCtorEq,zq,zr,zs,zt,↓az,↓aA,↓ar,↓aq,↓aw,↓au,↓ak,↓aj,↓aC,↓aB,↓aE,↓aD,unA,ne_eq,not_true_eq_false,not_false_eq_true,iW,iF,g6,g8,g9,g10,g11,g15,g16,g17,g18,g19,lN,hc,f1,ir,hb,hdr,dX,ixt]
  exact ⟨n-(u+1),by omega,u+1,rfl,by omega,by rw [hs];rfl,rfl⟩
 rw [h2] at ixt hs
 rw [EV] at hs
 simp -implicitDefEqProofs only [RA,ae,zp,↓reduceIte,reduceCtorEq,zq,zr,zs,zt,↓az,↓aA,↓ar,↓aq,↓aw,↓au,↓ak,↓aj,↓aC,↓aB,↓aE,↓aD,unA,ne_eq,not_true_eq_false,not_false_eq_true,iW,iF,g6,g8,g9,g10,g11,g15,g16,g17,g18,g19,lN,hc,f1,ir,hb,hdr,dX,ixt,ix0,ixb]
 exact ⟨n-(u+1),by omega,u+1,rfl,by omega,by rw [hs],rfl⟩
theorem w206 (P:Pi) (f:Int) (ho:ka P):Pure Tryd.prog 6 [.agg (piE P),.int .i64 f] (.tup [lpA (lpL P f),.int .i64 (chE P f)]):=by
 refine Pure.frz fun nx=>AC.go aI BH (by simp) ?_
 have w12':=w12 P f ho
 unfold piE at w12' ⊢
 simp -implicitDefEqProofs only [RA,ae,zp,↓reduceIte,reduceCtorEq,zq,zr,zs,zt,↓az,↓aA,↓ar,↓aq,↓aw,↓au,↓ak,↓aj,↓aC,↓aB,↓aE,↓aD,unA,ne_eq,not_true_eq_false,not_false_eq_true,DE,zi]
 refine w12'.use fun k1 hk1=>?_
 rcases ai (chE P f=0) with ⟨c1,d1⟩|⟨c1,d1⟩
 case inr =>
  rw [uW c1]
  simp -implicitDefEqProofs only [RA,ae,zp,↓reduceIte,reduceCtorEq,zq,zr,zs,zt,↓az,↓aA,↓ar,↓aq,↓aw,↓au,↓ak,↓aj,↓aC,↓aB,↓aE,↓aD,unA,ne_eq,not_true_eq_false,not_false_eq_true,d1,AL]
  exact ⟨_,_,rfl,(Frz.nilS _ 2).head⟩
 obtain ⟨e0,e1,e2,g,hg,hgm⟩:=mW c1
 obtain ⟨gl,_,_,gd⟩:=rS e0
 have G:=gd g hgm
 rw [uV c1 hg,c1,uL c1 hg]
 rw [show (g.blocks.map fun b=>nxL b.to)=ntF g from rfl]
 have w41':=w41 G
 have hn60:=G.n2
 have hG:=jE G
 have lN:=kH (ntF g)
 rw [jf] at lN
 have w59':=fun fr but h=>w59 G fr but h
 obtain ⟨n,hn⟩:∃ n,n=g.blocks.length:=⟨_,rfl⟩
 rw [← hn] at w41' hn60 hG lN w59' ⊢
 have hmk:=ol (n:=n) (b:=1) (by omega) (by omega)
 have mkb:=uS n
 simp -implicitDefEqProofs only [RA,ae,zp,↓reduceIte,reduceCtorEq,zq,zr,zs,zt,↓az,↓aA,↓ar,↓aq,↓aw,↓au,↓ak,↓aj,↓aC,↓aB,↓aE,↓aD,unA,ne_eq,not_true_eq_false,not_false_eq_true]
 refine w41'.use fun k2 hk2=>?_
 simp -implicitDefEqProofs only [RA,ae,zp,↓reduceIte,reduceCtorEq,zq,zr,zs,zt,↓az,↓aA,↓ar,↓aq,↓aw,↓au,↓ak,↓aj,↓aC,↓aB,↓aE,↓aD,unA,ne_eq,not_true_eq_false,not_false_eq_true,lN]
 refine aJ (fun q st=>∃ (h:Nat) (v:AV),q=n-h∧h≤n∧ah st.env 6=some (ntA (ntF g))∧ah st.env 8=some (bbA (dtL (nbG g) n))∧ah st.env 9=some v∧ah st.env 10=some (.int .i64 h)∧aU 65 2 st.heap st.nx v ((lpF (nbG g) n h).map lpE)∧st.dm=[]) (n:=n) aI
  ⟨0,.nilS,rfl,by omega,by simp [ah],by simp [ah],by simp [ah],by simp [ah],.inl ⟨rfl,rfl⟩,rfl⟩ ?_
 rintro q ⟨env,heap,nx',dm⟩ ⟨h,v,rfl,hh,g6,g8,g9,g10,ov,hdm⟩
 simp only at g6 g8 g9 g10 ov hdm
 subst hdm
 have f1:=wS (i:=h) (by omega)
 by_cases hc:(h:Int)<(n:Int)
 case neg =>
  have e:h=n:=by omega
  subst e
  simp -implicitDefEqProofs only [RA,ae,zp,↓reduceIte,reduceCtorEq,zq,zr,zs,zt,↓az,↓aA,↓ar,↓aq,↓aw,↓au,↓ak,↓aj,↓aC,↓aB,↓aE,↓aD,unA,ne_eq,not_true_eq_false,not_false_eq_true,qP,nB,g6,g8,g9,g10,lN,hc,AL]
  obtain ⟨h2,hf⟩:=ov.frz (km _)
  exact ⟨_,_,rfl,hf.head⟩
 have hhn:h<n:=by omega
 have hlp:lpF (nbG g) n (h+1)=lpF (nbG g) n h++(if dc (∃ u,Bw (nbG g) h u)=true then [(h,lbF (nbG g) n h)] else []):=rfl
 simp -implicitDefEqProofs only [RA,ae,zp,↓reduceIte,reduceCtorEq,zq,zr,zs,zt,↓az,↓aA,↓ar,↓aq,↓aw,↓au,↓ak,↓aj,↓aC,↓aB,↓aE,↓aD,unA,ne_eq,not_true_eq_false,not_false_eq_true,qP,nB,g6,g8,g9,g10,lN,hc,hmk,mkb,Fg]
 refine AH G (h:=h) (rb:=nx') (n:=n) (v:=v) hn hhn (by simp [ah,g6]) (by simp [ah,g8]) (by simp [ah,g9]) (by simp [ah,g10]) (by simp [ah]) (by simp [ah]) (by simp [ah]) (by simp only;rw [af,if_pos rfl]) ?_
 clear g6 g8 g9 g10
 intro env h1 g6 g8 g9 g10 g11 g12 gr hfr
 simp only at hfr
 have hfr1:∀ k o,k<nx'→ay heap k=some o→ay h1 k=some o:=fun k o h1 h2=>hfr k o (by omega) (by rw [af,if_neg (by omega)];exact h2)
 cases hd:dc (∃ u,Bw (nbG g) h u)
 ·rw [hd] at g12 hlp
  rw [if_neg (by simp),Eu] at hlp
  simp -implicitDefEqProofs only [RA,ae,zp,↓reduceIte,reduceCtorEq,zq,zr,zs,zt,↓az,↓aA,↓ar,↓aq,↓aw,↓au,↓ak,↓aj,↓aC,↓aB,↓aE,↓aD,unA,ne_eq,not_true_eq_false,not_false_eq_true,g6,g8,g9,g10,g11,g12,lN,f1]
  refine ⟨n-(h+1),by omega,h+1,v,rfl,by omega,rfl,rfl,?_⟩
  rw [hlp]
  exact ov.keep (by omega) fun k o e1 e2=>hfr1 k o (ov.blk e1).2.2 e2
 rw [hd] at g12 hlp
 rw [if_pos rfl] at hlp
 have b1:(nx'+1=nx')=False:=eq_false (by omega)
 simp -implicitDefEqProofs only [RA,ae,zp,↓reduceIte,reduceCtorEq,zq,zr,zs,zt,↓az,↓aA,↓ar,↓aq,↓aw,↓au,↓ak,↓aj,↓aC,↓aB,↓aE,↓aD,unA,ne_eq,not_true_eq_false,not_false_eq_true,g6,g8,g9,g10,g11,g12,lN]
 obtain ⟨cE,hcE⟩:∃ c,c=nx'+1:=⟨_,rfl⟩
 rw [← hcE]
 refine iO (fun q st=>∃ (b:Nat) (v2:AV),q=n-b∧b≤n∧ah st.env 6=some (ntA (ntF g))∧ah st.env 8=some (bbA (dtL (nbG g) n))∧ah st.env 9=some v∧ah st.env 10=some (.int .i64 h)∧ah st.env 11=some (.os nx' 0 4 1 n)∧ah st.env 15=some (.op cE 0)∧ah st.env 16=some (.int .i64 b) ∧
   ay st.heap nx'=some (.cells ((bkF (nbG g) n h).map .bool))∧ay st.heap cE=some (.cells [.int .i64 h,v2])∧aU 3 1 st.heap st.nx v2 (inN (lbK (nbG g) h b))∧(∀ c,aS v2=some c→cE<c)∧(∀ k o,k<nx'→ay heap k=some o→ay st.heap k=some o)∧cE<st.nx∧st.dm=[]) 6
  (fun st=>∃ v2:AV,ah st.env 6=some (ntA (ntF g))∧ah st.env 8=some (bbA (dtL (nbG g) n))∧ah st.env 9=some v∧ah st.env 10=some (.int .i64 h)∧ah st.env 15=some (.op cE 0)∧ay st.heap cE=some (.cells [.int .i64 h,v2]) ∧
   aU 3 1 st.heap st.nx v2 (inN (lbF (nbG g) n h))∧(∀ c,aS v2=some c→cE<c)∧(∀ k o,k<nx'→ay heap k=some o→ay st.heap k=some o)∧cE<st.nx∧st.dm=[]) (n:=n) aI
  ⟨0,.nilS,rfl,by omega,by simp [ah,g6],by simp [ah,g8],by simp [ah,g9],by simp [ah,g10],by simp [ah,g11],by simp [ah],by simp [ah],
   by simp only;rw [af,if_neg (by omega),af,if_neg (by omega)];exact gr,by simp only;rw [af,if_pos rfl],.inl ⟨rfl,rfl⟩,fun c hc=>by simp [aS] at hc,
   fun k o e1 e2=>by simp only;rw [af,if_neg (by omega),af,if_neg (by omega)];exact hfr1 k o e1 e2,by simp only;omega,rfl⟩ ?_ ?_
 ·clear g6 g8 g9 g10 g11 g12 gr
  rintro q ⟨env,heap2,nx2,dm2⟩ ⟨b,v2,rfl,hb,g6,g8,g9,g10,g11,g15,g16,gr,e1,ov2,hv2,hfr2,hlt2,hdm2⟩
  simp only at g6 g8 g9 g10 g11 g15 g16 gr e1 ov2 hfr2 hlt2 hdm2
  subst hdm2
  have f2:=wS (i:=b) (by omega)
  by_cases hcb:(b:Int)<(n:Int)
  case neg =>
   have e:b=n:=by omega
   subst e
   simp -implicitDefEqProofs only [RA,ae,zp,↓reduceIte,reduceCtorEq,zq,zr,zs,zt,↓az,↓aA,↓ar,↓aq,↓aw,↓au,↓ak,↓aj,↓aC,↓aB,↓aE,↓aD,unA,ne_eq,not_true_eq_false,not_false_eq_true,cU,dv,dw,dx,qQ,nC,g6,g8,g9,g10,g11,g15,g16,lN,hcb]
   exact ⟨v2,e1,ov2,hv2,hfr2,by omega⟩
  have hbn:b<n:=by omega
  have w2:=w59' b h hbn
  simp -implicitDefEqProofs only [RA,ae,zp,↓reduceIte,reduceCtorEq,zq,zr,zs,zt,↓az,↓aA,↓ar,↓aq,↓aw,↓au,↓ak,↓aj,↓aC,↓aB,↓aE,↓aD,unA,ne_eq,not_true_eq_false,not_false_eq_true,cU,dv,dw,dx,qQ,nC,g6,g8,g9,g10,g11,g15,g16,lN,hcb]
  refine w2.use fun n3 hn3=>?_
  simp -implicitDefEqProofs only [RA,ae,zp,↓reduceIte,reduceCtorEq,zq,zr,zs,zt,↓az,↓aA,↓ar,↓aq,↓aw,↓au,↓ak,↓aj,↓aC,↓aB,↓aE,↓aD,unA,ne_eq,not_true_eq_false,not_false_eq_true,cU,dv,dw,dx,g6,g8,g9,g10,g11,g15,g16,lN,hcb]
  refine in_l G (h:=h) (rb:=nx') (n:=n) (b:=b) (cE:=cE) (v:=v) hn hbn (by simp [ah,g6]) (by simp [ah,g8]) (by simp [ah,g9]) (by simp [ah,g10]) (by simp [ah,g11]) (by simp [ah,g15]) (by simp [ah,g16]) (by simp [ah]) (by simp [ah]) (by simp [ah]) (by simp only;exact gr) ?_
  clear g6 g8 g9 g10 g11 g15 g16
  intro env g6 g8 g9 g10 g11 g15 g16 g17
  have hlk:=oC (nbG g) h b
  cases hd2:dc (LI (nbG g) h b)
  ·rw [hd2] at g17 hlk
   rw [if_neg (by simp),Eu] at hlk
   simp -implicitDefEqProofs only [RA,ae,zp,↓reduceIte,reduceCtorEq,zq,zr,zs,zt,↓az,↓aA,↓ar,↓aq,↓aw,↓au,↓ak,↓aj,↓aC,↓aB,↓aE,↓aD,unA,ne_eq,not_true_eq_false,not_false_eq_true,cU,dv,dw,dx,g6,g8,g9,g10,g11,g15,g16,g17,f2]
   exact ⟨n-(b+1),by omega,b+1,v2,rfl,by omega,rfl,gr,e1,by rw [hlk];exact ov2.mono hn3,hv2,hfr2,by omega⟩
  ·rw [hd2] at g17 hlk
   rw [if_pos rfl] at hlk
   have hll:=rD (nbG g) h b
   obtain ⟨v',h4,n4,ea,og,hle,fr,id⟩:=(ov2.mono (nx':=n3) hn3).grw (bytes:=8) (ns:=[inE (b:Int)]) (iB _) (by simp [inE]) (by simp [inN];omega) (by simp [maxLen,inN];omega)
   rw [inE] at ea
   have hcE2:aS v2≠some cE:=fun e=>by have:=hv2 _ e;omega
   have hrb2:aS v2≠some nx':=fun e=>by have:=hv2 _ e;omega
   have hpl:v'.plain=true∧cellsOf v'=[v']:=by
    rcases og with ⟨rfl,_⟩|⟨c,rfl,_⟩ <;> exact ⟨rfl,rfl⟩
   obtain ⟨hp1,hp2⟩:=hpl
   have e3:=fr _ _ (by omega) e1 hcE2
   have e4:=fr _ _ (by omega) gr hrb2
   simp -implicitDefEqProofs only [RA,ae,zp,↓reduceIte,reduceCtorEq,zq,zr,zs,zt,↓az,↓aA,↓ar,↓aq,↓aw,↓au,↓ak,↓aj,↓aC,↓aB,↓aE,↓aD,unA,ne_eq,not_true_eq_false,not_false_eq_true,cU,dv,dw,dx,g6,g8,g9,g10,g11,g15,g16,g17,f2,e1,ea,e3,hp1,hp2]
   have hv4:∀ c,aS v'=some c→cE<c:=fun c h=>by
    rcases id _ h with h1|h1
    ·omega
    ·exact hv2 _ h1
   refine ⟨n-(b+1),by omega,b+1,v',rfl,by omega,rfl,by rw [if_neg (by omega)];exact e4,rfl,?_,hv4,fun c o h1 h2=>?_,by omega⟩
   ·rw [hlk,inN,Em]
    refine og.keep (E5 _) fun c o h1 h2=>?_
    rw [af,if_neg (by have:=hv4 _ h1;omega)];exact h2
   ·rw [if_neg (by omega)]
    exact fr _ _ (by omega) (hfr2 _ _ h1 h2) fun e=>by have:=hv2 _ e;omega
 ·clear g6 g8 g9 g10 g11 g12 gr
  rintro ⟨env,heap2,nx2,dm2⟩ ⟨v2,g6,g8,g9,g10,g15,e1,ov2,hv2,hfr2,hlt2,hdm2⟩
  simp only at g6 g8 g9 g10 g15 e1 ov2 hfr2 hlt2 hdm2
  subst hdm2
  have ov3:aU 3 1 (bQ heap2 cE) nx2 v2 (inN (lbF (nbG g) n h)):=ov2.keep (E5 _) fun c o h1 h2=>by
   rw [bq (by have:=hv2 _ h1;omega)];exact h2
  obtain ⟨h3,hf3,hk3⟩:=ov3.frz2 (iB _)
  have hfz:=Frz.pt e1 (.cons (.refl _ _) rfl (.cons hf3 rfl (.nil _)))
  refine ⟨15,_,_,_,g15,hfz,?_⟩
  have hfr3:∀ k o,k<nx'→ay heap k=some o→ay h3 k=some o:=fun c o h1 h2 =>
   hk3 c o (by rw [bq (by omega)];exact hfr2 c o h1 h2) fun y e=>by have:=hv2 c (by rw [e];rfl);omega
  have ov4:aU 65 2 h3 nx2 v ((lpF (nbG g) n h).map lpE):=ov.keep (by omega) fun c o h1 h2=>hfr3 c o (ov.blk h1).2.2 h2
  have hpl:=kj (nbG g) n h
  obtain ⟨v',h4,n4,ea,og,hle,fr,id⟩:=ov4.grw (bytes:=32) (ns:=[lpE (h,lbF (nbG g) n h)]) (km _) (by simp [lpE]) (by simp;omega) (by simp [maxLen];omega)
  rw [lpE] at ea
  simp only [fg] at ea
  simp -implicitDefEqProofs only [RA,ae,zp,↓reduceIte,reduceCtorEq,zq,zr,zs,zt,↓az,↓aA,↓ar,↓aq,↓aw,↓au,↓ak,↓aj,↓aC,↓aB,↓aE,↓aD,unA,ne_eq,not_true_eq_false,not_false_eq_true,g6,g8,g9,g10,g15,ea,f1]
  refine ⟨n-(h+1),by omega,h+1,v',rfl,by omega,rfl,rfl,?_⟩
  rw [hlp,Em];exact og
theorem xH {l:List (Nat × List Nat)} {n:Nat} {r:Nat × List Nat} (h:l[n]?=some r):idxA 2 (lpA l) (n:Int)=some (.fp (lpE r)):=bI h
theorem xQ (l:List Nat):fg l=cL (l.map fun x:Nat=>(x:Int)):=by simp [fg,inN,cL]
theorem w207 (l:List (Nat × List Nat)) (hl:l.length≤4000000) (hi:∀ x∈l,x.2.length≤4000000):Pure Tryd.prog 7 [lpA l,lpA l] (.bool true):=by
 refine Pure.of fun nx=>AC.go aI BG (by simp) ?_
 have lo:=xG l
 simp -implicitDefEqProofs only [RA,ae,zp,↓reduceIte,reduceCtorEq,zq,zr,zs,zt,↓az,↓aA,↓ar,↓aq,↓aw,↓au,↓ak,↓aj,↓aC,↓aB,↓aE,↓aD,unA,ne_eq,not_true_eq_false,not_false_eq_true,DD,zh,lo]
 refine aJ (fun q st=>∃ i:Nat,q=l.length-i∧i≤l.length∧ah st.env 0=some (lpA l)∧ah st.env 1=some (lpA l)∧ah st.env 5=some (.int .i64 i)∧st.dm=[]) (n:=l.length) aI
  ⟨0,rfl,by omega,by simp [ah],by simp [ah],by simp [ah],rfl⟩ ?_
 rintro q ⟨env,heap,nx',dm⟩ ⟨i,rfl,hi',g0,g1,g5,hdm⟩
 simp only at g0 g1 g5 hdm
 subst hdm
 have f1:=wS (i:=i) (by omega)
 by_cases hc:(i:Int)<(l.length:Int)
 case neg =>
  simp -implicitDefEqProofs only [RA,ae,zp,↓reduceIte,reduceCtorEq,zq,zr,zs,zt,↓az,↓aA,↓ar,↓aq,↓aw,↓au,↓ak,↓aj,↓aC,↓aB,↓aE,↓aD,unA,ne_eq,not_true_eq_false,not_false_eq_true,qO,nA,g0,g1,g5,lo,hc,CG]
 have hr:=D9 (show i<l.length by omega)
 generalize l[i]=r at hr
 have ixr:=xH hr
 rw [lpE] at ixr
 have hw:=hi r (Ea hr)
 have w1:=w18 (r.2.map fun x:Nat=>(x:Int)) (by rw [List.length_map];exact hw)
 rw [← xQ] at w1
 simp -implicitDefEqProofs only [RA,ae,zp,↓reduceIte,reduceCtorEq,zq,zr,zs,zt,↓az,↓aA,↓ar,↓aq,↓aw,↓au,↓ak,↓aj,↓aC,↓aB,↓aE,↓aD,unA,ne_eq,not_true_eq_false,not_false_eq_true,qO,nA,g0,g1,g5,lo,hc,ixr]
 refine w1.use fun k hk=>?_
 simp -implicitDefEqProofs only [RA,ae,zp,↓reduceIte,reduceCtorEq,zq,zr,zs,zt,↓az,↓aA,↓ar,↓aq,↓aw,↓au,↓ak,↓aj,↓aC,↓aB,↓aE,↓aD,unA,ne_eq,not_true_eq_false,not_false_eq_true,g0,g1,g5,f1]
 exact ⟨l.length-(i+1),by omega,i+1,rfl,by omega,rfl⟩
theorem oq (P:Pi) (f:Int):(lpL P f).length≤4000000∧∀ x∈lpL P f,x.2.length≤4000000:=by
 unfold lpL
 split
 ·rename_i h
  split
  ·rename_i g hg
   have G:=Ay h hg
   have h60:=G.n2
   refine ⟨by have:=kj (nbG g) g.blocks.length g.blocks.length;omega,?_⟩
   have key:∀ k,∀ x∈lpF (nbG g) g.blocks.length k,x.2.length≤4000000:=by
    intro k
    induction k with
    | zero=>intro x hx;simp [lpF] at hx
    | succ k ih =>
     intro x hx
     rw [lpF] at hx
     rcases Eo.1 hx with hx|hx
     ·exact ih x hx
     ·split at hx
      ·simp at hx;subst hx
       have:=xK (nbG g) g.blocks.length k
       simp only;omega
      ·simp at hx
   exact key _
  ·exact ⟨by simp,fun x hx=>by simp at hx⟩
 ·exact ⟨by simp,fun x hx=>by simp at hx⟩
theorem w203 (P:Pi) (f:Int) (hz:szI P≤4000000) (hk:kdI P):Pure Tryd.prog 3 [.agg (piE P),.int .i64 f] (.bool true):=by
 refine Pure.of fun nx=>AC.go aI BK (by simp) ?_
 have w5':=w5 P hz
 unfold piE at w5' ⊢
 simp -implicitDefEqProofs only [RA,ae,zp,↓reduceIte,reduceCtorEq,zq,zr,zs,zt,↓az,↓aA,↓ar,↓aq,↓aw,↓au,↓ak,↓aj,↓aC,↓aB,↓aE,↓aD,unA,ne_eq,not_true_eq_false,not_false_eq_true,DG,zk]
 refine w5'.use fun k1 hk1=>?_
 cases hg:grI P
 case true =>
  simp -implicitDefEqProofs only [RA,ae,zp,↓reduceIte,reduceCtorEq,zq,zr,zs,zt,↓az,↓aA,↓ar,↓aq,↓aw,↓au,↓ak,↓aj,↓aC,↓aB,↓aE,↓aD,unA,ne_eq,not_true_eq_false,not_false_eq_true,AN]
 have ho:=B9 hg hk
 have w1:=w205 P f ho
 have w2:=w206 P f ho
 have w3:=w207 (lpL P f) (oq P f).1 (oq P f).2
 unfold piE at w1 w2
 simp -implicitDefEqProofs only [RA,ae,zp,↓reduceIte,reduceCtorEq,zq,zr,zs,zt,↓az,↓aA,↓ar,↓aq,↓aw,↓au,↓ak,↓aj,↓aC,↓aB,↓aE,↓aD,unA,ne_eq,not_true_eq_false,not_false_eq_true]
 refine w1.use fun k2 hk2=>?_
 simp -implicitDefEqProofs only [RA,ae,zp,↓reduceIte,reduceCtorEq,zq,zr,zs,zt,↓az,↓aA,↓ar,↓aq,↓aw,↓au,↓ak,↓aj,↓aC,↓aB,↓aE,↓aD,unA,ne_eq,not_true_eq_false,not_false_eq_true]
 refine w2.use fun k3 hk3=>?_
 simp -implicitDefEqProofs only [RA,ae,zp,↓reduceIte,reduceCtorEq,zq,zr,zs,zt,↓az,↓aA,↓ar,↓aq,↓aw,↓au,↓ak,↓aj,↓aC,↓aB,↓aE,↓aD,unA,ne_eq,not_true_eq_false,not_false_eq_true]
 refine w3.use fun k4 hk4=>?_
 simp -implicitDefEqProofs only [RA,ae,zp,↓reduceIte,reduceCtorEq,zq,zr,zs,zt,↓az,↓aA,↓ar,↓aq,↓aw,↓au,↓ak,↓aj,↓aC,↓aB,↓aE,↓aD,unA,ne_eq,not_true_eq_false,not_false_eq_true,AN]
end Go.Proofs.YtkhjclmfbmfahaaDoor
