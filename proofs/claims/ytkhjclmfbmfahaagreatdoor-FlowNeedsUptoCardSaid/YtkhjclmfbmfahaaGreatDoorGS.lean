/- Live variables: the rounds. -/
import Derived.Test.YtkhjclmfbmfahaaGreatDoorGR
namespace Go.Proofs.YtkhjclmfbmfahaaGreatDoor
open List renaming getElem?_eq_getElem → Fo, map_append → FC
open Nat renaming le_refl → Gp
set_option maxHeartbeats 64000000
open Go Go.Ab Go.Proofs
open Nat renaming reduceEqDiff → zp, reduceAdd → zq, reduceLeDiff → zr, reduceLT → zs, reduceBEq → zt
set_option linter.unusedVariables false
set_option linter.unusedSimpArgs false
set_option maxRecDepth 20000
structure FS (g:Fn) (c6 c8 cI cO bI bO:Nat) (I O:List Nat) (h:Heap) (nx:Nat) (dm:List Nat):Prop where
 h6:aq h c6=some (.cells (fnE g))
 h8:aq h c8=some (.cells [nmA (nmV g)])
 hI:aq h cI=some (.cells [.os bI 0 78 1 g.blocks.length])
 hO:aq h cO=some (.cells [.os bO 0 78 1 g.blocks.length])
 hbI:aq h bI=some (.cells (I.map cY))
 hbO:aq h bO=some (.cells (O.map cY))
 lt:c6<nx∧c8<nx∧cI<nx∧cO<nx∧bI<nx∧bO<nx
 ne:bI≠c6∧bI≠c8∧bI≠cI∧bI≠cO∧bI≠bO∧bO≠c6∧bO≠c8∧bO≠cI∧bO≠cO
 ms:MS2 h nx dm
theorem FS.ext {g:Fn} {c6 c8 cI cO bI bO:Nat} {I O:List Nat} {h h':Heap} {nx nx':Nat} {dm:List Nat} (S:FS g c6 c8 cI cO bI bO I O h nx dm) (hn:nx≤nx') (hk:∀ k o,k<nx→aq h k=some o→aq h' k=some o):FS g c6 c8 cI cO bI bO I O h' nx' dm :=
 ⟨hk _ _ S.lt.1 S.h6,hk _ _ S.lt.2.1 S.h8,hk _ _ S.lt.2.2.1 S.hI,hk _ _ S.lt.2.2.2.1 S.hO,hk _ _ S.lt.2.2.2.2.1 S.hbI,hk _ _ S.lt.2.2.2.2.2 S.hbO,by have:=S.lt;omega,S.ne,S.ms.ext hn fun k o h1 h2 _=>hk k o h1 h2⟩
theorem FS.setI {g:Fn} {c6 c8 cI cO bI bO:Nat} {I I' O:List Nat} {h h':Heap} {nx nx':Nat} {dm:List Nat} (S:FS g c6 c8 cI cO bI bO I O h nx dm) (hn:nx≤nx') (hk:∀ k o,k<nx→k≠bI→aq h k=some o→aq h' k=some o) (hb:aq h' bI=some (.cells (I'.map cY))):FS g c6 c8 cI cO bI bO I' O h' nx' dm:=by
 have l:=S.lt
 have n:=S.ne
 refine ⟨hk _ _ l.1 (by omega) S.h6,hk _ _ l.2.1 (by omega) S.h8,hk _ _ l.2.2.1 (by omega) S.hI,hk _ _ l.2.2.2.1 (by omega) S.hO,hb,hk _ _ l.2.2.2.2.2 (by omega) S.hbO,by omega,n,S.ms.ext hn fun k o h1 h2 h3=>hk k o h1 (fun e=>?_) h2⟩
 have:=S.hbI
 rw [← e,h2] at this;injection this with this;rw [this] at h3;cases h3
theorem FS.setO {g:Fn} {c6 c8 cI cO bI bO:Nat} {I O O':List Nat} {h h':Heap} {nx nx' d:Nat} {dm:List Nat} (S:FS g c6 c8 cI cO bI bO I O h nx dm) (hd1:nx≤d) (hd2:d<nx') (hk:∀ k o,k<nx→k≠bO→aq h k=some o→aq h' k=some o) (hb:aq h' bO=some (.cells (O'.map cY))) (hd:aq h' d=some .dfd):FS g c6 c8 cI cO bI bO I O' h' nx' (d::dm):=by
 have l:=S.lt
 have n:=S.ne
 refine ⟨hk _ _ l.1 (by omega) S.h6,hk _ _ l.2.1 (by omega) S.h8,hk _ _ l.2.2.1 (by omega) S.hI,hk _ _ l.2.2.2.1 (by omega) S.hO,hk _ _ l.2.2.2.2.1 (by omega) S.hbI,hb,by omega,n,S.ms.mark hd1 hd2 (fun k o h1 h2 h3=>hk k o h1 (fun e=>?_) h2) hd⟩
 have:=S.hbO
 rw [← e,h2] at this;injection this with this;rw [this] at h3;cases h3
theorem rp (K:Nat):∀ (l:List Nat),(∀ b,l.getD b 0<K)→l.sum≤l.length*K
 | [],_=>by simp
 | a::r,h=>by
  have h1:=rp K r fun b=>by have:=h (b+1);simpa using this
  have h2:=h 0
  simp at h2
  simp only [List.sum_cons,List.length_cons,Nat.succ_mul];omega
theorem A1 (n:Nat):∃ M,∀ I:List Nat,I.length=n→(∀ b,gD I b<18446744073709551616)→I.sum≤M :=
 ⟨n*18446744073709551616,fun I hl h=>by rw [← hl];exact rp _ I h⟩
def Cl (g:Fn) (I O:List Nat) (b:Nat):Prop:=(∀ c∈nbG g b,∀ v,(gD I c).testBit v=true→(gD O b).testBit v=true)∧iB (co g) (bF g) (gD O) b=gD I b
theorem s9 {P:Pi} {g:Fn} (G:GdF P g) (hok:okF g) {c6 c8 cI cO bI bO:Nat} {I1 O1:List Nat} {st:ASt} {Q:AX→ASt→Prop} (hl1:I1.length=g.blocks.length) (hl2:O1.length=g.blocks.length)
  (hL1:LVI (nbG g) (co g) (bF g) (gD I1) (gD O1))
  (g6:ah st.env 6=some (.op c6 0)) (g8:ah st.env 8=some (.op c8 0)) (g9:ah st.env 9=some (.int .i64 g.blocks.length)) (g10:ah st.env 10=some (.op cI 0)) (g11:ah st.env 11=some (.op cO 0)) (g12:ah st.env 12=some (.bool true))
  (S1:FS g c6 c8 cI cO bI bO I1 O1 st.heap st.nx st.dm)
  (hQ:∀ env' h' n' dm' I O,ah env' 8=some (.op c8 0)→ah env' 9=some (.int .i64 g.blocks.length)→ah env' 10=some (.op cI 0)→ah env' 11=some (.op cO 0)→I.length=g.blocks.length→O.length=g.blocks.length→FS g c6 c8 cI cO bI bO I O h' n' dm' →
   (∀ b,b<g.blocks.length→∀ v,((gD I b).testBit v=true↔LvG g v b)∧((gD O b).testBit v=true↔LoG g v b))→(∀ b,gD I b<18446744073709551616∧gD O b<18446744073709551616)→Q (.exit 0) ⟨env',h',n',dm'⟩) :
  AW Tryz.prog (fun _ _=>false) none 119 (.loop zL) Q st:=by
 have hn60:=G.n2
 have hn1:=G.n1
 have hG:=uX G
 have hgl:=fun b=>(vA G b).1
 have hkl:=fun b=>(vA G b).2
 have ff:=bN g
 have fl:=mY g
 have ft:=mX g
 have hvl:=iq G
 obtain ⟨M,hM⟩:=A1 g.blocks.length
 refine aJ (F:=[]) (Q:=Q) (fun q st=>∃ (I O:List Nat) (mo:Bool),q=2*(M-I.sum)+(if mo=true then 1 else 0)∧ah st.env 6=some (.op c6 0)∧ah st.env 8=some (.op c8 0)∧ah st.env 9=some (.int .i64 g.blocks.length)∧ah st.env 10=some (.op cI 0)∧ah st.env 11=some (.op cO 0)∧ah st.env 12=some (.bool mo) ∧
   I.length=g.blocks.length∧O.length=g.blocks.length∧LVI (nbG g) (co g) (bF g) (gD I) (gD O)∧FS g c6 c8 cI cO bI bO I O st.heap st.nx st.dm∧(mo=false→∀ b,b<g.blocks.length→Cl g I O b)) (n:=2*(M-I1.sum)+1) aI
  ⟨I1,O1,true,rfl,g6,g8,g9,g10,g11,g12,hl1,hl2,hL1,S1,fun h=>by cases h⟩ ?_
 clear g6 g8 g9 g10 g11 g12 S1 hL1 hl1 hl2
 rintro q ⟨env,heap,nx,dm⟩ ⟨I0,O0,mo0,rfl,g6,g8,g9,g10,g11,g12,hlI0,hlO0,hL0,S0,hcl⟩
 simp only at g6 g8 g9 g10 g11 g12 S0
 cases mo0
 case false =>
  simp -implicitDefEqProofs only [RA,ae,zp,↓reduceIte,reduceCtorEq,zq,zr,zs,zt,↓aA,↓az,↓au,↓ar,↓ay,↓aw,↓ak,↓aj,↓aC,↓aB,↓aE,↓aD,unA,ne_eq,not_true_eq_false,not_false_eq_true,zL,wK,g6,g8,g9,g10,g11,g12]
  refine hQ _ _ _ _ I0 O0 (by simp [ah,g8]) (by simp [ah,g9]) (by simp [ah,g10]) (by simp [ah,g11]) hlI0 hlO0 S0 ?_ fun b=>⟨hL0.ilt b,hL0.olt b⟩
  exact hL0.done hkl hG (fun b hb=>(hcl rfl b hb).1) fun b hb=>(hcl rfl b hb).2
 have hM0:=hM I0 hlI0 hL0.ilt
 have fs:IntKind.i64.wrap ((g.blocks.length:Int)-1)=(g.blocks.length:Int)-1:=w64 (by omega) (by omega)
 have lt0:=S0.lt
 simp -implicitDefEqProofs only [RA,ae,zp,↓reduceIte,reduceCtorEq,zq,zr,zs,zt,↓aA,↓az,↓au,↓ar,↓ay,↓aw,↓ak,↓aj,↓aC,↓aB,↓aE,↓aD,unA,ne_eq,not_true_eq_false,not_false_eq_true,zL,wK,g6,g8,g9,g10,g11,g12,fs]
 refine aJ (fun q st=>∃ (j:Nat) (I O:List Nat) (mo:Bool) (cb:Nat),q=g.blocks.length-j∧j≤g.blocks.length∧ah st.env 6=some (.op c6 0)∧ah st.env 8=some (.op c8 0)∧ah st.env 9=some (.int .i64 g.blocks.length)∧ah st.env 10=some (.op cI 0)∧ah st.env 11=some (.op cO 0)∧ah st.env 12=some (.bool mo)∧ah st.env 13=some (.op cb 0) ∧
   aq st.heap cb=some (.cells [.int .i64 ((g.blocks.length:Int)-1-j)])∧cb<st.nx∧(cb≠bI∧cb≠bO)∧I.length=g.blocks.length∧O.length=g.blocks.length∧LVI (nbG g) (co g) (bF g) (gD I) (gD O)∧FS g c6 c8 cI cO bI bO I O st.heap st.nx st.dm ∧
   ((mo=false∧I=I0∧∀ b,b<g.blocks.length→g.blocks.length≤b+j→Cl g I0 O b)∨(mo=true∧I0.sum<I.sum))) (n:=g.blocks.length) aI
  ⟨0,I0,O0,false,nx,rfl,by omega,by simp [ah,g6],by simp [ah,g8],by simp [ah,g9],by simp [ah,g10],by simp [ah,g11],by simp [ah],by simp [ah],by simp only;rw [af,if_pos rfl];simp,by simp only;omega,by omega,hlI0,hlO0,hL0,
   S0.ext (by simp only;omega) fun k o h1 h2=>by simp only;rw [af,if_neg (by omega),af,if_neg (by omega)];exact h2,.inl ⟨rfl,rfl,fun b hb h=>by omega⟩⟩ ?_
 clear g6 g8 g9 g10 g11 g12 S0 lt0 hL0 hcl
 rintro q ⟨env,heap,nx',dm⟩ ⟨j,I,O,mo,cb,rfl,hj,g6,g8,g9,g10,g11,g12,g13,hcb,hcbl,hcbn,hlI,hlO,hL,S,hcase⟩
 simp only at g6 g8 g9 g10 g11 g12 g13 hcb hcbl S
 by_cases hc:j<g.blocks.length
 case neg =>
  have e:j=g.blocks.length:=by omega
  subst e
  have hg:(((g.blocks.length:Int)-1-(g.blocks.length:Int))≥0)=False:=eq_false (by omega)
  have hg2:((0:Int)≤((g.blocks.length:Int)-1-(g.blocks.length:Int)))=False:=eq_false (by omega)
  have hMI:=hM I hlI hL.ilt
  simp -implicitDefEqProofs only [RA,ae,zp,↓reduceIte,reduceCtorEq,zq,zr,zs,zt,↓aA,↓az,↓au,↓ar,↓ay,↓aw,↓ak,↓aj,↓aC,↓aB,↓aE,↓aD,unA,ne_eq,not_true_eq_false,not_false_eq_true,Cj,wL,g6,g8,g9,g10,g11,g12,g13,hcb,hg,hg2]
  rcases hcase with ⟨k1,k2,k3⟩|⟨k1,k2⟩
  ·subst k1 k2
   exact ⟨2*(M-I.sum)+0,by simp,I,O,false,by simp,rfl,hlI,hlO,hL,S,fun _ b hb=>k3 b hb (by omega)⟩
  ·subst k1
   exact ⟨2*(M-I.sum)+1,by simp;omega,I,O,true,by simp,rfl,hlI,hlO,hL,S,fun h=>by cases h⟩
 obtain ⟨b,hb⟩:∃ b,b=g.blocks.length-1-j:=⟨_,rfl⟩
 have hbi:(g.blocks.length:Int)-1-j=(b:Int):=by omega
 have hbn:b<g.blocks.length:=by omega
 rw [hbi] at hcb
 have hg:((b:Int)≥0)=True:=eq_true (by omega)
 have hg2:((0:Int)≤(b:Int))=True:=eq_true (by omega)
 have hblk:=Fo (l:=g.blocks) hbn
 generalize g.blocks[b]=blk at hblk
 have hbm:=List.mem_of_getElem? hblk
 obtain ⟨o1,o2,o3,o4⟩:=hok.b hbm
 have lt:=S.lt
 have nn0:=S.ne
 have h6:=S.h6
 have w2:=w25 g b heap nx'
 rw [ff] at w2 fl ft h6
 simp -implicitDefEqProofs only [RA,ae,zp,↓reduceIte,reduceCtorEq,zq,zr,zs,zt,↓aA,↓az,↓au,↓ar,↓ay,↓aw,↓ak,↓aj,↓aC,↓aB,↓aE,↓aD,unA,ne_eq,not_true_eq_false,not_false_eq_true,Cj,wL,g6,g8,g9,g10,g11,g12,g13,hcb,hg,hg2,h6,fl,ft]
 refine w2.mono ?_
 rintro y hh nn ⟨rfl,rfl,rfl⟩
 simp -implicitDefEqProofs only [RA,ae,zp,↓reduceIte,reduceCtorEq,zq,zr,zs,zt,↓aA,↓az,↓au,↓ar,↓ay,↓aw,↓ak,↓aj,↓aC,↓aB,↓aE,↓aD,unA,ne_eq,not_true_eq_false,not_false_eq_true,eQ]
 have get2:∀ k,k<nx'→aq ((nx'+1,AO.cells [.int .i64 b])::(nx',.cells [.str g.name,bp g.params,.int .i64 g.result,bp g.locals,cp g.blocks])::heap) k=aq heap k:=fun k hk=>by
  rw [af,if_neg (by omega),af,if_neg (by omega)]
 refine yI G (cI:=cI) (cO:=cO) (bI:=bI) (bO:=bO) (cb:=cb) (c1:=nx') (c2:=nx'+1) (b:=b) (n0:=g.blocks.length) (I:=I) (O:=O) hblk rfl hbn hlI hlO hL
  (by simp [ah,g10]) (by simp [ah,g11]) (by simp [ah,g13]) (by simp [ah]) (by simp only;rw [get2 _ lt.2.2.1];exact S.hI) (by simp only;rw [get2 _ lt.2.2.2.1];exact S.hO) (by simp only;rw [get2 _ lt.2.2.2.2.1];exact S.hbI) (by simp only;rw [get2 _ lt.2.2.2.2.2];exact S.hbO) (by simp only;rw [get2 _ hcbl];exact hcb)
  (by simp only;rw [af,if_neg (by omega),af,if_pos rfl,ff]) (by simp only;rw [af,if_pos rfl]) (by simp only;omega) (by omega) ?_
 intro h5 n5 O' hn5 hk5 hd5 hlO' hL' hbits hoth hbO5
 simp only at hn5 hk5 hd5
 have S5:FS g c6 c8 cI cO bI bO I O' h5 n5 ((nx'+1+1)::dm):=(S.ext (nx':=nx'+1+1) (h':=(nx'+1,AO.cells [.int .i64 b])::(nx',.cells [.str g.name,bp g.params,.int .i64 g.result,bp g.locals,cp g.blocks])::heap) (by omega) fun k o h1 h2=>by rw [get2 k h1];exact h2).setO (d:=nx'+1+1) (Gp _) (by omega) hk5 hbO5 hd5
 have hcb5:=hk5 cb _ (by omega) hcbn.2 (by rw [get2 _ hcbl];exact hcb)
 clear hk5 hd5 hbO5 get2
 have h65:=S5.h6
 have h85:=S5.h8
 have lt5:=S5.lt
 have ixk:=dH hblk
 have bl:=iL blk
 have bt:=jp blk
 have wb:=w27 (nmV g) blk (by omega) o1 (fun s hs=>⟨kP G hbm s hs,o2 s hs⟩) (pV G hbm) o3
 rw [← lZ hblk,← kN hblk] at wb
 rw [eD] at ixk bl bt wb
 rw [ff] at h65
 have x10:(n5=c6)=False:=eq_false (by omega)
 have x11:(n5=c8)=False:=eq_false (by omega)
 have x12:(n5=cb)=False:=eq_false (by omega)
 have x20:(n5+1=c6)=False:=eq_false (by omega)
 have x21:(n5+1=c8)=False:=eq_false (by omega)
 have x22:(n5+1=cb)=False:=eq_false (by omega)
 have x30:(n5+1+1=c6)=False:=eq_false (by omega)
 have x31:(n5+1+1=c8)=False:=eq_false (by omega)
 have x32:(n5+1+1=cb)=False:=eq_false (by omega)
 have x40:(n5+1=n5)=False:=eq_false (by omega)
 have x41:(n5=n5+1)=False:=eq_false (by omega)
 simp -implicitDefEqProofs only [RA,ae,zp,↓reduceIte,reduceCtorEq,zq,zr,zs,zt,↓aA,↓az,↓au,↓ar,↓ay,↓aw,↓ak,↓aj,↓aC,↓aB,↓aE,↓aD,unA,ne_eq,not_true_eq_false,not_false_eq_true,RT,g6,g8,g9,g10,g11,g12,g13,h65,h85,hcb5,ixk,bl,bt,x10,x11,x12,x20,x21,x22,x30,x31,x32,x40,x41]
 have hnow:co g b ||| lsN (gD O' b) (bF g b)=iB (co g) (bF g) (gD O') b:=rfl
 have hsetI:gD (I.set b (iB (co g) (bF g) (gD O') b)) b=iB (co g) (bF g) (gD O') b∧∀ x,x≠b→gD (I.set b (iB (co g) (bF g) (gD O') b)) x=gD I x:=⟨eP (List.getElem?_set_self (by omega)),fun x hx=>by simp only [gD,List.getD_eq_getElem?_getD,List.getElem?_set_ne (fun h=>hx h.symm)]⟩
 have hL2:=hL'.in_ (I':=gD (I.set b (iB (co g) (bF g) (gD O') b))) hgl hkl hsetI.1 hsetI.2
 have hle:=hL'.le b
 have hsum:=rn I b (iB (co g) (bF g) (gD O') b) (by omega)
 have post:∀ (h':Heap) (n':Nat),nx'≤n'→FS g c6 c8 cI cO bI bO (I.set b (co g b ||| lsN (gD O' b) (bF g b))) O' h' n' ((nx'+1+1)::dm)→∃ m,m<g.blocks.length-j∧∃ (j:Nat) (I_1 O:List Nat) (mo_1:Bool) (cb:Nat),m=g.blocks.length-j∧j≤g.blocks.length ∧
   some (AV.bool (mo||decide (¬ co g b ||| lsN (gD O' b) (bF g b)=gD I b)))=some (AV.bool mo_1)∧some (AV.op n' 0)=some (AV.op cb 0) ∧
   (if n'=cb then some (AO.cells [AV.int IntKind.i64 ((b:Int)-1)]) else if n'=cb then some (AO.cells [AV.int IntKind.i64 (b:Int)]) else if n'=cb then some (AO.cells [AV.int IntKind.i64 0]) else aq h' cb)=some (AO.cells [AV.int IntKind.i64 ((g.blocks.length:Int)-1-j)])∧cb<n'+1∧(¬ cb=bI∧¬ cb=bO) ∧
   I_1.length=g.blocks.length∧O.length=g.blocks.length∧LVI (nbG g) (co g) (bF g) (gD I_1) (gD O) ∧
   FS g c6 c8 cI cO bI bO I_1 O ((n',AO.cells [AV.int IntKind.i64 ((b:Int)-1)])::(n',AO.cells [AV.int IntKind.i64 (b:Int)])::(n',AO.cells [AV.int IntKind.i64 0])::h') (n'+1) ((nx'+1+1)::dm) ∧
   ((mo_1=false∧I_1=I0∧∀ (b:Nat),b<g.blocks.length→g.blocks.length≤b+j→Cl g I0 O b)∨mo_1=true∧I0.sum<I_1.sum):=by
  intro h' n' hn S6
  have l6:=S6.lt
  have hId:I.getD b 0=gD I b:=rfl
  rw [hId] at hsum
  rw [hnow] at S6 ⊢
  generalize hNW:iB (co g) (bF g) (gD O') b=NW at *
  refine ⟨g.blocks.length-(j+1),by omega,j+1,I.set b NW,O',_,n',rfl,by omega,rfl,rfl,?_,by omega,by omega,by rw [List.length_set];exact hlI,hlO',hL2,S6.ext (by omega) fun k o h1 h2=>by rw [af,if_neg (by omega),af,if_neg (by omega),af,if_neg (by omega)];exact h2,?_⟩
  ·rw [if_pos rfl,show (b:Int)-1=(g.blocks.length:Int)-1-((j+1:Nat):Int) by omega]
  rcases hcase with ⟨k1,k2,k3⟩|⟨k1,k2⟩
  ·by_cases e:NW=gD I b
   ·refine .inl ⟨by simp [k1,e],?_,fun x hx hxj=>?_⟩
    ·rw [← k2]
     apply List.ext_getElem?
     intro x
     by_cases hx:x=b
     ·subst hx
      rw [List.getElem?_set_self (by omega),e,Fo (by omega)]
      congr 1
      exact eP (Fo (by omega))
     ·rw [List.getElem?_set_ne (fun h=>hx h.symm)]
    ·by_cases hxb:x=b
     ·subst hxb
      exact ⟨fun c hc v h=>hbits c hc v (by rw [k2];exact h),by rw [hNW,e,k2]⟩
     ·obtain ⟨q1,q2⟩:=k3 x hx (by omega)
      refine ⟨fun c hc v h=>by rw [hoth x hxb];exact q1 c hc v h,?_⟩
      have q3:=q2
      unfold iB at q3 ⊢
      rw [hoth x hxb];exact q3
   ·refine .inr ⟨by rw [decide_eq_true e,Bool.or_true],?_⟩
    rw [← k2];omega
  ·exact .inr ⟨by simp [k1],by omega⟩
 refine ⟨?_,?_⟩
 rotate_left
 ·refine ⟨⟨?_,?_⟩,?_,?_⟩
  all_goals
   refine wb.use fun k3 hk3=>?_
   have z11:(k3=c6)=False:=eq_false (by omega)
   have z12:(k3=c8)=False:=eq_false (by omega)
   have z13:(k3=cb)=False:=eq_false (by omega)
   have z14:(k3=n5)=False:=eq_false (by omega)
   have z15:(n5=k3)=False:=eq_false (by omega)
   simp -implicitDefEqProofs only [RA,ae,zp,↓reduceIte,reduceCtorEq,zq,zr,zs,zt,↓aA,↓az,↓au,↓ar,↓ay,↓aw,↓ak,↓aj,↓aC,↓aB,↓aE,↓aD,unA,ne_eq,not_true_eq_false,not_false_eq_true,RT,g6,g8,g9,g10,g11,g12,g13,h65,h85,hcb5,ixk,bl,bt,x10,x11,x12,x20,x21,x22,x30,x31,x32,x40,x41,z11,z12,z13,z14,z15]
  all_goals
   refine lX (cI:=cI) (cO:=cO) (bI:=bI) (bO:=bO) (cb:=cb) (b:=b) (n0:=g.blocks.length) (I:=I) (O:=O') (mo:=mo) hbn hn60 hlI hlO' (hgl b) (hkl b) (hL'.olt b) (by simp [ah,g10]) (by simp [ah,g11]) (by simp [ah,g12]) (by simp [ah,g13]) (by rfl) (by rfl)
    (by (repeat rw [af,if_neg (by omega)]);exact S5.hI) (by (repeat rw [af,if_neg (by omega)]);exact S5.hO) (by (repeat rw [af,if_neg (by omega)]);exact S5.hbI) (by (repeat rw [af,if_neg (by omega)]);exact S5.hbO) (by (repeat rw [af,if_neg (by omega)]);exact hcb5)
    (by repeat (first|rw [af,if_pos rfl]|rw [af,if_neg (by omega)])) (by repeat (first|rw [af,if_pos rfl]|rw [af,if_neg (by omega)])) (by omega) ?_
   intro env' h' n' e6 e8 e9 e10 e11 e13 e12 hn hfr hbI'
   have k6:ah env' 6=some (.op c6 0):=by rw [e6];simp [ah,g6]
   have k8:ah env' 8=some (.op c8 0):=by rw [e8];simp [ah,g8]
   have k9:ah env' 9=some (.int .i64 g.blocks.length):=by rw [e9];simp [ah,g9]
   have k10:ah env' 10=some (.op cI 0):=by rw [e10];simp [ah,g10]
   have k11:ah env' 11=some (.op cO 0):=by rw [e11];simp [ah,g11]
   have k13:ah env' 13=some (.op cb 0):=by rw [e13];simp [ah,g13]
   have S6:FS g c6 c8 cI cO bI bO (I.set b (co g b ||| lsN (gD O' b) (bF g b))) O' h' n' ((nx'+1+1)::dm):=(S5.ext (nx':=n5) (Gp _) fun k o h1 h2=>h2).setI (by omega) (fun k o h1 h2 h3=>hfr k o (by omega) h2 (by (repeat rw [af,if_neg (by omega)]);exact h3)) hbI'
   have hcb6:=hfr cb (.cells [.int .i64 b]) (by omega) hcbn.1 (by (repeat rw [af,if_neg (by omega)]);exact hcb5)
   have v1:(n'=cb)=False:=eq_false (by omega)
   have v2:IntKind.i64.wrap ((b:Int)-1)=(b:Int)-1:=w64 (by omega) (by omega)
   simp -implicitDefEqProofs only [RA,ae,zp,↓reduceIte,reduceCtorEq,zq,zr,zs,zt,↓aA,↓az,↓au,↓ar,↓ay,↓aw,↓ak,↓aj,↓aC,↓aB,↓aE,↓aD,unA,ne_eq,not_true_eq_false,not_false_eq_true,k6,k8,k9,k10,k11,k13,e12,hcb6,v1,v2]
   exact post h' n' (by omega) S6
 ·refine wb.use fun k3 hk3=>?_
  have z11:(k3=c6)=False:=eq_false (by omega)
  have z12:(k3=c8)=False:=eq_false (by omega)
  have z13:(k3=cb)=False:=eq_false (by omega)
  have z21:(k3+1=c6)=False:=eq_false (by omega)
  have z22:(k3+1=c8)=False:=eq_false (by omega)
  have z23:(k3+1=cb)=False:=eq_false (by omega)
  have z24:(k3+1=k3)=False:=eq_false (by omega)
  have z25:(k3=k3+1)=False:=eq_false (by omega)
  simp -implicitDefEqProofs only [RA,ae,zp,↓reduceIte,reduceCtorEq,zq,zr,zs,zt,↓aA,↓az,↓au,↓ar,↓ay,↓aw,↓ak,↓aj,↓aC,↓aB,↓aE,↓aD,unA,ne_eq,not_true_eq_false,not_false_eq_true,RT,g6,g8,g9,g10,g11,g12,g13,h65,h85,hcb5,ixk,bl,bt,z11,z12,z13,z21,z22,z23,z24,z25]
  refine ⟨?_,?_⟩
  all_goals
   refine lX (cI:=cI) (cO:=cO) (bI:=bI) (bO:=bO) (cb:=cb) (b:=b) (n0:=g.blocks.length) (I:=I) (O:=O') (mo:=mo) hbn hn60 hlI hlO' (hgl b) (hkl b) (hL'.olt b) (by simp [ah,g10]) (by simp [ah,g11]) (by simp [ah,g12]) (by simp [ah,g13]) (by rfl) (by rfl)
    (by (repeat rw [af,if_neg (by omega)]);exact S5.hI) (by (repeat rw [af,if_neg (by omega)]);exact S5.hO) (by (repeat rw [af,if_neg (by omega)]);exact S5.hbI) (by (repeat rw [af,if_neg (by omega)]);exact S5.hbO) (by (repeat rw [af,if_neg (by omega)]);exact hcb5)
    (by repeat (first|rw [af,if_pos rfl]|rw [af,if_neg (by omega)])) (by repeat (first|rw [af,if_pos rfl]|rw [af,if_neg (by omega)])) (by omega) ?_
   intro env' h' n' e6 e8 e9 e10 e11 e13 e12 hn hfr hbI'
   have k6:ah env' 6=some (.op c6 0):=by rw [e6];simp [ah,g6]
   have k8:ah env' 8=some (.op c8 0):=by rw [e8];simp [ah,g8]
   have k9:ah env' 9=some (.int .i64 g.blocks.length):=by rw [e9];simp [ah,g9]
   have k10:ah env' 10=some (.op cI 0):=by rw [e10];simp [ah,g10]
   have k11:ah env' 11=some (.op cO 0):=by rw [e11];simp [ah,g11]
   have k13:ah env' 13=some (.op cb 0):=by rw [e13];simp [ah,g13]
   have S6:FS g c6 c8 cI cO bI bO (I.set b (co g b ||| lsN (gD O' b) (bF g b))) O' h' n' ((nx'+1+1)::dm):=(S5.ext (nx':=n5) (Gp _) fun k o h1 h2=>h2).setI (by omega) (fun k o h1 h2 h3=>hfr k o (by omega) h2 (by (repeat rw [af,if_neg (by omega)]);exact h3)) hbI'
   have hcb6:=hfr cb (.cells [.int .i64 b]) (by omega) hcbn.1 (by (repeat rw [af,if_neg (by omega)]);exact hcb5)
   have v1:(n'=cb)=False:=eq_false (by omega)
   have v2:IntKind.i64.wrap ((b:Int)-1)=(b:Int)-1:=w64 (by omega) (by omega)
   simp -implicitDefEqProofs only [RA,ae,zp,↓reduceIte,reduceCtorEq,zq,zr,zs,zt,↓aA,↓az,↓au,↓ar,↓ay,↓aw,↓ak,↓aj,↓aC,↓aB,↓aE,↓aD,unA,ne_eq,not_true_eq_false,not_false_eq_true,k6,k8,k9,k10,k11,k13,e12,hcb6,v1,v2]
   exact post h' n' (by omega) S6
theorem CS.snoc {h h':Heap} {nx nx' n1:Nat} {vs:List (AV × AV)} {ls:List (List Nm × List Nm)} {x1 x2:AV} {d1 d2:List Nm} (c:CS h nx vs ls) (hn:nx≤nx') (hk:∀ b s x k o,cB vs b s=some x→aP x=some k→aq h k=some o→aq h' k=some o)
  (o1:aR 9 1 h' nx' x1 (d1.map nmE)) (o2:aR 9 1 h' nx' x2 (d2.map nmE)) (b1:∀ k,aP x1=some k→nx≤k∧k<n1) (b2:∀ k,aP x2=some k→n1≤k) (hn1:nx≤n1):CS h' nx' (vs++[(x1,x2)]) (ls++[(d1,d2)]):=by
 have old:∀ {b s x k},cB vs b s=some x→aP x=some k→k<nx:=fun {b s x k} h1 h2=>by
  obtain ⟨d,hd⟩:=fw c.len h1
  exact ((c.own b s x d h1 hd).blk h2).2.2
 have cas:∀ b s x,cB (vs++[(x1,x2)]) b s=some x→cB vs b s=some x∨(b=vs.length∧x=if s=true then x2 else x1):=by
  intro b s x h
  unfold cB at h ⊢
  by_cases hb:b<vs.length
  ·rw [List.getElem?_append_left hb] at h;exact .inl h
  ·rw [List.getElem?_append_right (by omega)] at h
   by_cases e:b=vs.length
   ·subst e
    simp at h;exact .inr ⟨rfl,h.symm⟩
   ·have:[(x1,x2)][b-vs.length]?=none:=List.getElem?_eq_none (by simp;omega)
    rw [this] at h;cases h
 refine ⟨by simp [c.len],fun b s x d h1 h2=>?_,fun b s b' s' x x' k h1 h2 k1 k2=>?_⟩
 ·rcases cas b s x h1 with h3|⟨e,h3⟩
  ·have hb:b<ls.length:=by
    have:=h3;unfold cB at this
    obtain ⟨p,hp,_⟩:=Option.map_eq_some_iff.1 this
    have:=(List.getElem?_eq_some_iff.1 hp).1
    rw [← c.len];exact this
   unfold fj at h2
   rw [List.getElem?_append_left hb] at h2
   exact (c.own b s x d h3 h2).keep hn fun k o q1 q2=>hk b s x k o h3 q1 q2
  ·unfold fj at h2
   rw [e,c.len,List.getElem?_append_right (Gp _)] at h2
   simp at h2
   subst h3 h2
   cases s
   ·exact o1
   ·exact o2
 ·rcases cas b s x h1 with h3|⟨e,h3⟩ <;> rcases cas b' s' x' h2 with h4|⟨e',h4⟩
  ·exact c.ne b s b' s' x x' k h3 h4 k1 k2
  ·exfalso
   have hl:=old h3 k1
   rw [h4] at k2
   cases s'
   ·have:=b1 k (by simpa using k2);omega
   ·have:=b2 k (by simpa using k2);omega
  ·exfalso
   have hl:=old h4 k2
   rw [h3] at k1
   cases s
   ·have:=b1 k (by simpa using k1);omega
   ·have:=b2 k (by simpa using k1);omega
  ·rw [h3] at k1
   rw [h4] at k2
   refine ⟨by rw [e,e'],?_⟩
   cases s <;> cases s'
   ·rfl
   ·have q1:=b1 k (by simpa using k1);have q2:=b2 k (by simpa using k2);omega
   ·have q1:=b2 k (by simpa using k1);have q2:=b1 k (by simpa using k2);omega
   ·rfl
def lsP (g:Fn) (I O:List Nat) (k:Nat):List (List Nm × List Nm):=(List.range k).map fun b=>(pkS (nmV g) (gD I b) (nmV g).length,pkS (nmV g) (gD O b) (nmV g).length)
theorem vd (g:Fn) (I O:List Nat) (k:Nat):lsP g I O (k+1)=lsP g I O k++[(pkS (nmV g) (gD I k) (nmV g).length,pkS (nmV g) (gD O k) (nmV g).length)]:=by
 unfold lsP;rw [List.range_succ,FC];rfl
theorem s7 {P:Pi} {g:Fn} (G:GdF P g) {c6 c8 cI cO bI bO:Nat} {I O:List Nat} {st:ASt} {Q:AX→ASt→Prop} (hlI:I.length=g.blocks.length) (hlO:O.length=g.blocks.length) (hlt:∀ b,gD I b<18446744073709551616∧gD O b<18446744073709551616)
  (g10:ah st.env 10=some (.op cI 0)) (g11:ah st.env 11=some (.op cO 0)) (g18:ah st.env 18=some (.fn (.func 29) [.op c8 0])) (g19:ah st.env 19=some .nilS) (g97:ah st.env 97=some (.int .i64 g.blocks.length)) (g98:ah st.env 98=some (.int .i64 0))
  (S:FS g c6 c8 cI cO bI bO I O st.heap st.nx st.dm)
  (hQ:∀ env' h' n' v vs,ah env' 19=some v→aR 36 2 h' n' v (vs.map vpE)→CS h' n' vs (lsP g I O g.blocks.length)→(∀ b s x c,cB vs b s=some x→aP x=some c→aP v≠some c∧st.nx≤c)→(∀ c,aP v=some c→st.nx≤c)→(∀ k o,k<st.nx→aq st.heap k=some o→aq h' k=some o)→st.nx≤n' →
   Q (.exit 6) ⟨env',h',n',st.dm⟩) :
  AW Tryz.prog (fun _ _=>false) none 119 (.loop zK) Q st:=by
 have hn60:=G.n2
 have hvl:=iq G
 obtain ⟨n0,hn0⟩:∃ k,k=st.nx:=⟨_,rfl⟩
 obtain ⟨H1,hH1⟩:∃ k,k=st.heap:=⟨_,rfl⟩
 obtain ⟨dm1,hdm1⟩:∃ k,k=st.dm:=⟨_,rfl⟩
 rw [← hn0,← hH1,← hdm1] at S hQ
 have lt:=S.lt
 refine aJ (F:=[]) (Q:=Q) (fun q st=>∃ (b:Nat) (v:AV) (vs:List (AV × AV)),q=g.blocks.length-b∧b≤g.blocks.length∧ah st.env 10=some (.op cI 0)∧ah st.env 11=some (.op cO 0)∧ah st.env 18=some (.fn (.func 29) [.op c8 0])∧ah st.env 19=some v∧ah st.env 97=some (.int .i64 g.blocks.length)∧ah st.env 98=some (.int .i64 b) ∧
   aR 36 2 st.heap st.nx v (vs.map vpE)∧CS st.heap st.nx vs (lsP g I O b)∧(∀ b s x c,cB vs b s=some x→aP x=some c→aP v≠some c∧n0≤c)∧(∀ c,aP v=some c→n0≤c)∧(∀ k o,k<n0→aq H1 k=some o→aq st.heap k=some o)∧n0≤st.nx∧vs.length=b∧st.dm=dm1) (n:=g.blocks.length) aI
  ⟨0,.nilS,[],rfl,by omega,g10,g11,g18,g19,g97,g98,.inl ⟨rfl,rfl⟩,⟨rfl,fun b s x d h1 h2=>by simp [cB] at h1,fun b s b' s' x x' c h1=>by simp [cB] at h1⟩,fun b s x c h1=>by simp [cB] at h1,fun c h=>by simp [aP] at h,fun k o _ h=>by rw [← hH1];exact h,by omega,rfl,hdm1.symm⟩ ?_
 clear g10 g11 g18 g19 g97 g98
 rintro q ⟨env,heap,nx,dm⟩ ⟨b,v,vs,rfl,hb,g10,g11,g18,g19,g97,g98,ov,cs,hvs,hv,hfr,hnx,hvsl,hdm⟩
 simp only at g10 g11 g18 g19 g97 g98 ov cs hfr hnx hdm
 subst hdm
 have f1:=wS (i:=b) (by omega)
 by_cases hc:(b:Int)<(g.blocks.length:Int)
 case neg =>
  have e:b=g.blocks.length:=by omega
  rw [e] at cs
  simp -implicitDefEqProofs only [RA,ae,zp,↓reduceIte,reduceCtorEq,zq,zr,zs,zt,↓aA,↓az,↓au,↓ar,↓ay,↓aw,↓ak,↓aj,↓aC,↓aB,↓aE,↓aD,unA,ne_eq,not_true_eq_false,not_false_eq_true,zK,wJ,g10,g11,g18,g19,g97,g98,hc]
  exact hQ _ _ _ v vs (by simp [ah,g19]) ov cs hvs hv hfr hnx
 have hbn:b<g.blocks.length:=by omega
 have hIb:=Fo (l:=I) (i:=b) (by omega)
 have hOb:=Fo (l:=O) (i:=b) (by omega)
 have hId:=eP hIb
 have hOd:=eP hOb
 have hlb:=hlt b
 have hsn:=vd g I O b
 rw [hId,hOd] at hlb hsn
 generalize I[b]'(by omega)=iv at *
 generalize O[b]'(by omega)=ou at *
 have ibI:=fV (b:=bI) (e:=78) (n:=g.blocks.length) (i:=b) hbn
 have ibO:=fV (b:=bO) (e:=78) (n:=g.blocks.length) (i:=b) hbn
 have hdI:=eB (f:=cY) hIb
 have hdO:=eB (f:=cY) hOb
 have s8:=hfr _ _ lt.2.1 S.h8
 have sI:=hfr _ _ lt.2.2.1 S.hI
 have sO:=hfr _ _ lt.2.2.2.1 S.hO
 have sbI:=hfr _ _ lt.2.2.2.2.1 S.hbI
 have sbO:=hfr _ _ lt.2.2.2.2.2 S.hbO
 have wa:=w29 (nmV g) iv c8 heap nx (by omega) hlb.1 s8 (by omega)
 simp -implicitDefEqProofs only [RA,ae,zp,↓reduceIte,reduceCtorEq,zq,zr,zs,zt,↓aA,↓az,↓au,↓ar,↓ay,↓aw,↓ak,↓aj,↓aC,↓aB,↓aE,↓aD,unA,ne_eq,not_true_eq_false,not_false_eq_true,zK,wJ,g10,g11,g18,g19,g97,g98,hc,sI,sO,sbI,sbO,ibI,ibO,hdI,hdO,cY,bE]
 refine wa.mono ?_
 rintro y h1 n1 ⟨v1,rfl,ov1,hn1,hk1,hb1⟩
 have s81:=hk1 _ _ (by omega) s8
 have sO1:=hk1 _ _ (by omega) sO
 have sbO1:=hk1 _ _ (by omega) sbO
 have sI1:=hk1 _ _ (by omega) sI
 have sbI1:=hk1 _ _ (by omega) sbI
 have wb:=w29 (nmV g) ou c8 h1 n1 (by omega) hlb.2 s81 (by omega)
 simp -implicitDefEqProofs only [RA,ae,zp,↓reduceIte,reduceCtorEq,zq,zr,zs,zt,↓aA,↓az,↓au,↓ar,↓ay,↓aw,↓ak,↓aj,↓aC,↓aB,↓aE,↓aD,unA,ne_eq,not_true_eq_false,not_false_eq_true,g10,g11,g18,g19,g97,g98,sI1,sO1,sbI1,sbO1,ibI,ibO,hdI,hdO,cY,bE]
 refine wb.mono ?_
 rintro y h2 n2 ⟨v2,rfl,ov2,hn2,hk2,hb2⟩
 have hk12:∀ k o,k<nx→aq heap k=some o→aq h2 k=some o:=fun k o q1 q2=>hk2 k o (by omega) (hk1 k o q1 q2)
 have ov3:=ov.keep (nx':=n2) (h':=h2) (by omega) fun k o q1 q2=>hk12 k o (ov.blk q1).2.2 q2
 have ov1':aR 9 1 h2 n2 v1 _:=ov1.keep (by omega) fun k o q1 q2=>hk2 k o (ov1.blk q1).2.2 q2
 obtain ⟨v',h4,n4,ea,og,hle,fr,id⟩:=ov3.grw (bytes:=48) (ns:=[vpE (v1,v2)]) (rk _) (by simp [vpE]) (by simp;omega) (by simp [maxLen];omega)
 rw [vpE] at ea
 have p1:v1.plain=true∧cellsOf v1=[v1]:=by
  rcases ov1 with ⟨rfl,_⟩|⟨c,rfl,_⟩ <;> exact ⟨rfl,rfl⟩
 have p2:v2.plain=true∧cellsOf v2=[v2]:=by
  rcases ov2 with ⟨rfl,_⟩|⟨c,rfl,_⟩ <;> exact ⟨rfl,rfl⟩
 obtain ⟨p11,p12⟩:=p1
 obtain ⟨p21,p22⟩:=p2
 simp -implicitDefEqProofs only [RA,ae,zp,↓reduceIte,reduceCtorEq,zq,zr,zs,zt,↓aA,↓az,↓au,↓ar,↓ay,↓aw,↓ak,↓aj,↓aC,↓aB,↓aE,↓aD,unA,ne_eq,not_true_eq_false,not_false_eq_true,g10,g11,g18,g19,g97,g98,p11,p12,p21,p22,ea,f1]
 have hv2:∀ k,nx≤k→aP v≠some k:=fun k hk e=>by have:=(ov.blk e).2.2;omega
 have hcs:CS h4 n4 (vs++[(v1,v2)]) (lsP g I O (b+1)):=by
  rw [hsn]
  refine cs.snoc (n1:=n1) (by omega) (fun b s x k o q1 q2 q3=>?_) (ov1'.keep hle fun k o q1 q2=>fr k o (by have:=(ov1'.blk q1).2.2;omega) q2 (hv2 k (hb1 k q1))) (ov2.keep hle fun k o q1 q2=>fr k o (by have:=(ov2.blk q1).2.2;omega) q2 (hv2 k (by have:=hb2 k q1;omega))) (fun k hk=>⟨hb1 k hk,(ov1.blk hk).2.2⟩) hb2 hn1
  obtain ⟨d,hd⟩:=fw cs.len q1
  have hkn:=((cs.own b s x d q1 hd).blk q2).2.2
  exact fr k o (by omega) (hk12 k o hkn q3) ((hvs b s x k q1 q2).1)
 have hvn:∀ c,aP v'=some c→n2≤c∨aP v=some c:=id
 refine ⟨g.blocks.length-(b+1),by omega,b+1,v',vs++[(v1,v2)],rfl,by omega,rfl,rfl,by rw [FC];exact og,hcs,fun b1 s x c q1 q2=>?_,fun c q1=>?_,fun k o q1 q2=>fr k o (by omega) (hk12 k o (by omega) (hfr k o q1 q2)) fun e=>by have:=hv k e;omega,by omega,by simp [hvsl]⟩
 ·obtain ⟨d,hd⟩:=fw hcs.len q1
  by_cases hb1':b1<vs.length
  ·have q3:cB vs b1 s=some x:=by
    unfold cB at q1 ⊢;rw [List.getElem?_append_left hb1'] at q1;exact q1
   obtain ⟨d3,hd3⟩:=fw cs.len q3
   have hkn:=((cs.own b1 s x d3 q3 hd3).blk q2).2.2
   refine ⟨fun e=>?_,(hvs b1 s x c q3 q2).2⟩
   rcases hvn c e with q4|q4
   ·omega
   ·exact (hvs b1 s x c q3 q2).1 q4
  ·have q3:x=if s=true then v2 else v1:=by
    unfold cB at q1
    rw [List.getElem?_append_right (by omega)] at q1
    by_cases e:b1=vs.length
    ·subst e;simp at q1;exact q1.symm
    ·have:[(v1,v2)][b1-vs.length]?=none:=List.getElem?_eq_none (by simp;omega)
     rw [this] at q1;cases q1
   have hcn:nx≤c∧c<n2:=by
    rw [q3] at q2
    cases s
    ·have q2':aP v1=some c:=by simpa using q2
     exact ⟨hb1 c q2',by have:=(ov1.blk q2').2.2;omega⟩
    ·have q2':aP v2=some c:=by simpa using q2
     exact ⟨by have:=hb2 c q2';omega,(ov2.blk q2').2.2⟩
   refine ⟨fun e=>?_,by omega⟩
   rcases hvn c e with q4|q4
   ·omega
   ·exact hv2 c hcn.1 q4
 ·rcases hvn c q1 with q4|q4
  ·omega
  ·exact hv c q4
end Go.Proofs.YtkhjclmfbmfahaaGreatDoor
