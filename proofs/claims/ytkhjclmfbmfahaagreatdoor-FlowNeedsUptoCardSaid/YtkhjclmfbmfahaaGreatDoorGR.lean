/- The reference's live variables: the walk. -/
import Derived.Test.YtkhjclmfbmfahaaGreatDoorGQ
namespace Go.Proofs.YtkhjclmfbmfahaaGreatDoor
open List renaming getElem?_eq_getElem → Fo, mem_of_getElem? → Fp, take_of_length_le → Fs, length_map → Fw, map_append → FC, nil_append → FN
open Option renaming map_eq_some_iff → Ga
set_option maxHeartbeats 64000000
open Go Go.Ab Go.Proofs
open Nat renaming reduceEqDiff → zp, reduceAdd → zq, reduceLeDiff → zr, reduceLT → zs, reduceBEq → zt
set_option linter.unusedVariables false
set_option linter.unusedSimpArgs false
set_option maxRecDepth 20000
theorem xW {vs:List (AV × AV)} {b:Nat} (h:b<vs.length):(2*b+1≤(vsC vs).length)=True:=eq_true (by rw [mu];omega)
theorem rh {vs:List (AV × AV)} {b:Nat} (h:b<vs.length):(2*b+1+1≤(vsC vs).length)=True:=eq_true (by rw [mu];omega)
theorem Br {n:Nat} (h:n≤60):(0≤(n:Int)∧(n:Int)≤(n:Int)∧((48:Nat):Int)*(n:Int)≤281474976710656∧(n:Int)≤9223372036854775807)=True:=eq_true ⟨by omega,by omega,by omega,by omega⟩
theorem Bs (n:Nat):(List.replicate n [AV.nilS,AV.nilS]).flatten=vsC (List.replicate n (AV.nilS,AV.nilS)):=by
 unfold vsC;rw [List.map_replicate];rfl
theorem kB {n b:Nat} {s:Bool} {x:AV} (h:cB (List.replicate n (.nilS,.nilS)) b s=some x):x=.nilS:=by
 unfold cB at h
 obtain ⟨p,hp,h⟩:=Ga.1 h
 have:=List.eq_of_mem_replicate (Fp hp)
 subst this
 cases s <;> simp at h <;> exact h.symm
def Kb (v b:Nat):Nat→Nat:=fun x=>if x<b then v+1 else v
theorem zx (v:Nat):Kb v 0=fun _=>v:=by funext x;simp [Kb]
theorem gu (v b:Nat):Kb v b b=v:=by simp [Kb]
theorem iw (v b:Nat):jn (Kb v b) b=Kb v (b+1):=by
 funext x
 unfold jn Kb
 by_cases e:x=b
 ·subst e;simp
 ·rw [if_neg e]
  by_cases h:x<b
  ·rw [if_pos h,if_pos (by omega)]
  ·rw [if_neg h,if_neg (by omega)]
theorem B9 (g:Fn) (v:Nat):lsF g (Kb v g.blocks.length) (Kb v g.blocks.length)=lsF g (fun _=>v+1) fun _=>v+1:=by
 unfold lsF
 apply List.map_congr_left
 intro x hx
 have:Kb v g.blocks.length x=v+1:=if_pos (List.mem_range.1 hx)
 rw [this]
theorem w8 (P:Pi) (f:Int) (ho:jZ P) (nx:Nat):AC Tryz.prog 8 [.agg (piE P),.int .i64 f] [] nx fun y h' n'=>∃ v,y=.ret (.tup [v,.int .i64 (chE P f)])∧LvS h' n' v (lvR P f):=by
 refine AC.go aI is8 (by simp) ?_
 have w31':=w31 P f ho
 have z1:(nx+1=nx)=False:=eq_false (by omega)
 unfold piE at w31' ⊢
 simp -implicitDefEqProofs only [RA,ae,zp,↓reduceIte,reduceCtorEq,zq,zr,zs,zt,↓aA,↓az,↓au,↓ar,↓ay,↓aw,↓ak,↓aj,↓aC,↓aB,↓aE,↓aD,unA,ne_eq,not_true_eq_false,not_false_eq_true,A8,A8p]
 refine w31'.use fun k1 hk1=>?_
 have a1:(k1=nx)=False:=eq_false (by omega)
 rcases ai (chE P f=0) with ⟨c1,d1⟩|⟨c1,d1⟩
 case inr =>
  rw [va c1]
  simp -implicitDefEqProofs only [RA,ae,zp,↓reduceIte,reduceCtorEq,zq,zr,zs,zt,↓aA,↓az,↓au,↓ar,↓ay,↓aw,↓ak,↓aj,↓aC,↓aB,↓aE,↓aD,unA,ne_eq,not_true_eq_false,not_false_eq_true,d1,a1,R8]
  exact ⟨_,rfl,LvS.nil _ _⟩
 obtain ⟨e0,e1,e2,g,hg,hgm⟩:=p8 c1
 obtain ⟨gl,_,_,gd⟩:=vW e0
 have G:=gd g hgm
 have hok:=ho.2 g hgm
 rw [u9 c1 hg,c1]
 have hn60:=G.n2
 have hvl:=iq G
 have hGl:=uX G
 have lF:=cX P
 have ixf:idxA 5 (bM P) f=some (.fp (fnE g)):=by
  obtain ⟨k,rfl⟩:∃ k:Nat,f=k:=⟨f.toNat,by omega⟩
  exact cL (by simpa using hg)
 have w19':=w19 g hok.2.1 hok.2.2.1
 have fl:=mY g
 have ft:=mX g
 have ff:=bN g
 have lb:=dv g.blocks
 have hmk:=Br hn60
 have mkf:=Bs g.blocks.length
 have lv:=bW g.vars
 have hvn:(nmV g).length=g.vars.length:=by rw [nmV,Fw]
 rw [ff] at fl ft w19' ixf
 rw [← mA] at w19'
 have a2:(k1+1=k1)=False:=eq_false (by omega)
 simp -implicitDefEqProofs only [RA,ae,zp,↓reduceIte,reduceCtorEq,zq,zr,zs,zt,↓aA,↓az,↓au,↓ar,↓ay,↓aw,↓ak,↓aj,↓aC,↓aB,↓aE,↓aD,unA,ne_eq,not_true_eq_false,not_false_eq_true,d1,a1,a2,z1,ixf,fl,ft,lb,hmk,mkf,Int.toNat_natCast]
 refine w19'.use fun k2 hk2=>?_
 simp -implicitDefEqProofs only [RA,ae,zp,↓reduceIte,reduceCtorEq,zq,zr,zs,zt,↓aA,↓az,↓au,↓ar,↓ay,↓aw,↓ak,↓aj,↓aC,↓aB,↓aE,↓aD,unA,ne_eq,not_true_eq_false,not_false_eq_true,lv]
 obtain ⟨c7,hc7⟩:∃ c,c=k1:=⟨_,rfl⟩
 obtain ⟨bo,hbo⟩:∃ c,c=k1+1:=⟨_,rfl⟩
 refine aJ (fun q st=>∃ (v:Nat) (vs:List (AV × AV)),q=g.vars.length-v∧v≤g.vars.length∧ah st.env 7=some (.op c7 0)∧ah st.env 8=some (.os bo 0 36 2 g.blocks.length)∧ah st.env 9=some (bp g.vars)∧ah st.env 10=some (.int .i64 v)∧LW g c7 bo st.heap st.nx vs (lsF g (fun _=>v) fun _=>v)∧st.dm=[]) (n:=g.vars.length) aI
  ⟨0,List.replicate g.blocks.length (.nilS,.nilS),rfl,by omega,by simp [ah,hc7],by simp [ah,hbo],by simp [ah],by simp [ah],?_,rfl⟩ ?_
 ·refine ⟨?_,?_,⟨by rw [List.length_replicate,ep],fun b s x d h1 h2=>?_,fun b s b' s' x x' c h1 h2 h3=>?_⟩,by simp,fun b s x c h1 h2=>?_,by omega,by simp only;omega⟩
  ·simp only;rw [af,if_neg (by omega),af,if_pos hc7.symm,ff]
  ·simp only;rw [af,if_pos hbo.symm]
  ·have hx:x=.nilS:=kB h1
   have hd:d=[]:=by
    unfold fj at h2
    obtain ⟨p,hp,h2⟩:=Ga.1 h2
    have hlt:=(List.getElem?_eq_some_iff.1 hp).1
    rw [ep] at hlt
    rw [dW hlt] at hp
    injection hp with hp;subst hp
    rw [← h2];cases s <;> rfl
   subst hx hd
   exact .inl ⟨rfl,rfl⟩
  ·have hx:x=.nilS:=kB h1
   subst hx;simp [aP] at h3
  ·have hx:x=.nilS:=kB h1
   subst hx;simp [aP] at h2
 rintro q ⟨env,heap,nx',dm⟩ ⟨v,vs,rfl,hv,g7,g8,g9,g10,w0,hdm⟩
 simp only at g7 g8 g9 g10 w0 hdm
 subst hdm
 have f1:=wS (i:=v) (by omega)
 have W0:=w0.h7
 rw [ff] at W0
 by_cases hc:(v:Int)<(g.vars.length:Int)
 case neg =>
  have e:v=(nmV g).length:=by omega
  subst e
  simp -implicitDefEqProofs only [RA,ae,zp,↓reduceIte,reduceCtorEq,zq,zr,zs,zt,↓aA,↓az,↓au,↓ar,↓ay,↓aw,↓ak,↓aj,↓aC,↓aB,↓aE,↓aD,unA,ne_eq,not_true_eq_false,not_false_eq_true,Ce,wF,g7,g8,g9,g10,lv,hc,R8]
  exact ⟨_,rfl,w0.out⟩
 have hvn2:v<g.vars.length:=by omega
 have hpm:=Fo (l:=g.vars) hvn2
 generalize g.vars[v]=pm at hpm
 have ixp:=dG hpm
 have hvm:(nmV g)[v]?=some pm.1:=by rw [nmV,List.getElem?_map,hpm];rfl
 have w32':=w32 G hok hvm
 rw [ff] at w32'
 simp -implicitDefEqProofs only [RA,ae,zp,↓reduceIte,reduceCtorEq,zq,zr,zs,zt,↓aA,↓az,↓au,↓ar,↓ay,↓aw,↓ak,↓aj,↓aC,↓aB,↓aE,↓aD,unA,ne_eq,not_true_eq_false,not_false_eq_true,Ce,wF,g7,g8,g9,g10,lv,hc,W0,fl,ft,ixp,pmE]
 refine w32'.use fun k2 hk2=>?_
 simp -implicitDefEqProofs only [RA,ae,zp,↓reduceIte,reduceCtorEq,zq,zr,zs,zt,↓aA,↓az,↓au,↓ar,↓ay,↓aw,↓ak,↓aj,↓aC,↓aB,↓aE,↓aD,unA,ne_eq,not_true_eq_false,not_false_eq_true,g7,g8,g9,g10]
 refine aJ (fun q st=>∃ (b:Nat) (vs:List (AV × AV)),q=g.blocks.length-b∧b≤g.blocks.length∧ah st.env 7=some (.op c7 0)∧ah st.env 8=some (.os bo 0 36 2 g.blocks.length)∧ah st.env 9=some (bp g.vars)∧ah st.env 10=some (.int .i64 v)∧ah st.env 11=some (blA (lvL g v))∧ah st.env 12=some (.int .i64 b)∧LW g c7 bo st.heap st.nx vs (lsF g (Kb v b) (Kb v b))∧st.dm=[]) (n:=g.blocks.length) aI
  ⟨0,vs,rfl,by omega,by simp [ah,g7],by simp [ah,g8],by simp [ah,g9],by simp [ah,g10],by simp [ah],by simp [ah],by rw [zx];exact w0.mono hk2,rfl⟩ ?_
 clear g7 g8 g9 g10 w0 W0 hc vs hk2
 rintro q ⟨env,heap,nx',dm⟩ ⟨b,vs,rfl,hb,g7,g8,g9,g10,g11,g12,w0,hdm⟩
 simp only at g7 g8 g9 g10 g11 g12 w0 hdm
 subst hdm
 have f2:=wS (i:=b) (by omega)
 have W0:=w0.h7
 rw [ff] at W0
 by_cases hc:(b:Int)<(g.blocks.length:Int)
 case neg =>
  have e:b=g.blocks.length:=by omega
  subst e
  rw [B9] at w0
  simp -implicitDefEqProofs only [RA,ae,zp,↓reduceIte,reduceCtorEq,zq,zr,zs,zt,↓aA,↓az,↓au,↓ar,↓ay,↓aw,↓ak,↓aj,↓aC,↓aB,↓aE,↓aD,unA,ne_eq,not_true_eq_false,not_false_eq_true,zI,se,g7,g8,g9,g10,g11,g12,W0,lb,hc,f1]
  exact ⟨g.vars.length-(v+1),by omega,v+1,vs,rfl,by omega,rfl,w0⟩
 have hbn:b<g.blocks.length:=by omega
 have hblk:=Fo (l:=g.blocks) hbn
 generalize g.blocks[b]=blk at hblk
 have hbm:=Fp hblk
 obtain ⟨o1,o2,o3,o4⟩:=hok.b hbm
 have ixk:=dH hblk
 have bl:=iL blk
 have bt:=jp blk
 have wa:=w33 blk o4
 have hto:=G.to2 blk hbm
 rw [v8 hto] at wa
 rw [eD] at ixk bl bt wa
 have nbe:=i9 hblk
 have lr:=eO (nxL blk.to)
 have hnl:=rF blk.to
 have ib2:=rC (b:=bo) (e:=36) (n:=g.blocks.length) (i:=b) hbn
 have ixt:=ng (jF (g:=g) (v:=v) hbn)
 have hany:((nxL blk.to).map Int.toNat).any (fun c=>(lvL g v).getD c false)=dc (LoG g v b):=by
  rw [← nbe,Bool.eq_iff_iff,List.any_eq_true,eY]
  constructor
  ·rintro ⟨c,hc,h⟩
   rw [getD_some (jF (hGl b c hc))] at h
   exact ⟨c,hc,eY.1 h⟩
  ·rintro ⟨c,hc,h⟩
   exact ⟨c,hc,by rw [getD_some (jF (hGl b c hc))];exact pZ h⟩
 cases hlv:dc (LvG g v b)
 ·rw [hlv] at ixt
  have hls:=s5 (g:=g) (K1:=Kb v b) (K2:=Kb v b) (b:=b) (by rw [gu];exact fun h=>by rw [pZ h] at hlv;cases hlv)
  rw [hls,iw] at w0
  have hpv:=Fo (l:=vs) (i:=b) (by rw [w0.len];exact hbn)
  generalize (vs)[b]'(by rw [w0.len];exact hbn)=p5 at hpv
  have W7:=w0.h7
  rw [ff] at W7
  simp -implicitDefEqProofs only [RA,ae,zp,↓reduceIte,reduceCtorEq,zq,zr,zs,zt,↓aA,↓az,↓au,↓ar,↓ay,↓aw,↓ak,↓aj,↓aC,↓aB,↓aE,↓aD,unA,ne_eq,not_true_eq_false,not_false_eq_true,g7,g8,g9,g10,g11,g12,W7,ixk,bl,bt,zI,se,lb,hc,ixt]
  refine wa.use fun k3 hk3=>?_
  simp -implicitDefEqProofs only [RA,ae,zp,↓reduceIte,reduceCtorEq,zq,zr,zs,zt,↓aA,↓az,↓au,↓ar,↓ay,↓aw,↓ak,↓aj,↓aC,↓aB,↓aE,↓aD,unA,ne_eq,not_true_eq_false,not_false_eq_true,g7,g8,g9,g10,g11,g12]
  refine aJ (fun q st=>∃ (i:Nat),q=(nxL blk.to).length-i∧i≤(nxL blk.to).length∧ah st.env 7=some (.op c7 0)∧ah st.env 8=some (.os bo 0 36 2 g.blocks.length)∧ah st.env 9=some (bp g.vars)∧ah st.env 10=some (.int .i64 v)∧ah st.env 11=some (blA (lvL g v))∧ah st.env 12=some (.int .i64 b) ∧
    ah st.env 13=some (.bool ((((nxL blk.to).take i).map Int.toNat).any fun c=>(lvL g v).getD c false))∧ah st.env 14=some (cD (nxL blk.to))∧ah st.env 15=some (.int .i64 i)∧LW g c7 bo st.heap st.nx (vs) (lsF g (Kb v (b+1)) (Kb v b))∧st.dm=[]) (n:=(nxL blk.to).length) aI
   ⟨0,rfl,by omega,by simp [ah,g7],by simp [ah,g8],by simp [ah,g9],by simp [ah,g10],by simp [ah,g11],by simp [ah,g12],by simp [ah],by simp [ah],by simp [ah],w0.mono (by simp only;omega),rfl⟩ ?_
  clear g7 g8 g9 g10 g11 g12
  rintro q ⟨env,heap5,nx5,dm⟩ ⟨i,rfl,hi,g7,g8,g9,g10,g11,g12,g13,g14,g15,w6,hdm⟩
  simp only at g7 g8 g9 g10 g11 g12 g13 g14 g15 w6 hdm
  subst hdm
  have f3:=wS (i:=i) (by omega)
  by_cases hci:(i:Int)<((nxL blk.to).length:Int)
  case pos =>
   have hr:=Fo (show i<(nxL blk.to).length by omega)
   generalize (nxL blk.to)[i]=c at hr
   have hcr:=kI G hblk (c:=c) (Fp hr)
   obtain ⟨cn,rfl⟩:∃ k:Nat,c=(k:Int):=⟨c.toNat,by omega⟩
   have ixr:=eu hr
   rw [inE] at ixr
   have hNc:=jF (g:=g) (v:=v) (b:=cn) (by omega)
   have hNcd:=getD_some hNc
   have ixc:=ng hNc
   have hs:(((nxL blk.to).take (i+1)).map Int.toNat).any (fun c=>(lvL g v).getD c false)=((((nxL blk.to).take i).map Int.toNat).any (fun c=>(lvL g v).getD c false)||(lvL g v).getD cn false):=by
    rw [aQ hr,FC,List.any_append];simp
   rw [hNcd] at hs
   cases ha:(((nxL blk.to).take i).map Int.toNat).any fun c=>(lvL g v).getD c false
   ·rw [ha] at g13 hs
    simp -implicitDefEqProofs only [RA,ae,zp,↓reduceIte,reduceCtorEq,zq,zr,zs,zt,↓aA,↓az,↓au,↓ar,↓ay,↓aw,↓ak,↓aj,↓aC,↓aB,↓aE,↓aD,unA,ne_eq,not_true_eq_false,not_false_eq_true,nl,jt,g7,g8,g9,g10,g11,g12,g13,g14,g15,lr,hci,ixr,ixc,f3]
    exact ⟨(nxL blk.to).length-(i+1),by omega,i+1,rfl,by omega,by rw [hs,Bool.false_or],rfl,w6⟩
   ·rw [ha] at g13 hs
    simp -implicitDefEqProofs only [RA,ae,zp,↓reduceIte,reduceCtorEq,zq,zr,zs,zt,↓aA,↓az,↓au,↓ar,↓ay,↓aw,↓ak,↓aj,↓aC,↓aB,↓aE,↓aD,unA,ne_eq,not_true_eq_false,not_false_eq_true,nl,jt,g7,g8,g9,g10,g11,g12,g13,g14,g15,lr,hci,ixr,ixc,f3]
    exact ⟨(nxL blk.to).length-(i+1),by omega,i+1,rfl,by omega,by rw [hs,Bool.true_or],rfl,w6⟩
  rw [show (nxL blk.to).take i=nxL blk.to from Fs (by omega),hany] at g13
  cases hlo:dc (LoG g v b)
  ·rw [hlo] at g13
   have hls:=kL (g:=g) (K1:=(Kb v (b+1))) (K2:=Kb v b) (b:=b) (by rw [gu];exact fun h=>by rw [pZ h] at hlo;cases hlo)
   rw [hls,iw] at w6
   simp -implicitDefEqProofs only [RA,ae,zp,↓reduceIte,reduceCtorEq,zq,zr,zs,zt,↓aA,↓az,↓au,↓ar,↓ay,↓aw,↓ak,↓aj,↓aC,↓aB,↓aE,↓aD,unA,ne_eq,not_true_eq_false,not_false_eq_true,nl,jt,g7,g8,g9,g10,g11,g12,g13,g14,g15,lr,hci,f2]
   exact ⟨g.blocks.length-(b+1),by omega,b+1,_,rfl,by omega,rfl,w6⟩
  ·rw [hlo] at g13
   have hla:fj (lsF g (Kb v (b+1)) (Kb v b)) b true=some (pkK g (fun i=>LoG g i b) (Kb v b b)):=by unfold fj;rw [dW hbn];rfl
   obtain ⟨x',h6,n6,ea,p1,p2,e1,w7⟩:=w6.app (s:=true) pm.1 hpv hla (by have:=iY g (fun i=>LoG g i b) (Kb v b b);rw [gu] at this ⊢;omega)
   rw [rL hbn (by rw [gu];exact hvm) (by rw [gu];exact eY.1 hlo),iw,kD hpv] at w7
   simp only [if_true] at ea w7
   have a1:=mw hpv
   have pt:=ku x' hpv
   have hle:=rh (vs:=vs) (b:=b) (by rw [w6.len];exact hbn)
   rw [← pt] at w7
   have W8:=w6.hb
   simp -implicitDefEqProofs only [RA,ae,zp,↓reduceIte,reduceCtorEq,zq,zr,zs,zt,↓aA,↓az,↓au,↓ar,↓ay,↓aw,↓ak,↓aj,↓aC,↓aB,↓aE,↓aD,unA,ne_eq,not_true_eq_false,not_false_eq_true,nl,jt,g7,g8,g9,g10,g11,g12,g13,g14,g15,lr,hci,f2,ib2,W8,a1,hle,bE,ixp,pmE,ea,e1,p1,p2]
   rw [pt] at w7 ⊢
   exact ⟨g.blocks.length-(b+1),by omega,b+1,_,rfl,by omega,rfl,w7⟩
 ·rw [hlv] at ixt
  have hpv0:=Fo (l:=vs) (i:=b) (by rw [w0.len];exact hbn)
  generalize vs[b]'(by rw [w0.len];exact hbn)=p0 at hpv0
  have hla0:fj (lsF g (Kb v b) (Kb v b)) b false=some (pkK g (fun i=>LvG g i b) (Kb v b b)):=by unfold fj;rw [dW hbn];rfl
  obtain ⟨x0,h4,n4,ea0,p10,p20,e10,w1⟩:=w0.app (s:=false) pm.1 hpv0 hla0 (by have:=iY g (fun i=>LvG g i b) (Kb v b b);rw [gu] at this ⊢;omega)
  rw [Bt hbn (by rw [gu];exact hvm) (by rw [gu];exact eY.1 hlv),iw,kD hpv0] at w1
  simp only [Bool.false_eq_true,if_false] at ea0 w1
  have a00:=my hpv0
  have pt0:=nO x0 hpv0
  have hle0:=xW (vs:=vs) (b:=b) (by rw [w0.len];exact hbn)
  have W9:=w0.hb
  have W10:aq h4 c7=some (.cells [.str g.name,bp g.params,.int .i64 g.result,bp g.locals,cp g.blocks]):=by
   have:=w1.h7
   rw [af,if_neg (by have:=w0.lt;omega),ff] at this;exact this
  have y7:(bo=c7)=False:=eq_false (by have:=w0.lt;omega)
  have hpv:=Fo (l:=vs.set b (x0,p0.2)) (i:=b) (by rw [w1.len];exact hbn)
  generalize (vs.set b (x0,p0.2))[b]'(by rw [w1.len];exact hbn)=p5 at hpv
  have W7:=w1.h7
  rw [ff] at W7
  simp -implicitDefEqProofs only [RA,ae,zp,↓reduceIte,reduceCtorEq,zq,zr,zs,zt,↓aA,↓az,↓au,↓ar,↓ay,↓aw,↓ak,↓aj,↓aC,↓aB,↓aE,↓aD,unA,ne_eq,not_true_eq_false,not_false_eq_true,g7,g8,g9,g10,g11,g12,W7,ixk,bl,bt,zI,se,lb,hc,ixt,W0,W9,W10,y7,ib2,a00,hle0,bE,ixp,pmE,ea0,e10,p10,p20,pt0]
  refine wa.use fun k3 hk3=>?_
  simp -implicitDefEqProofs only [RA,ae,zp,↓reduceIte,reduceCtorEq,zq,zr,zs,zt,↓aA,↓az,↓au,↓ar,↓ay,↓aw,↓ak,↓aj,↓aC,↓aB,↓aE,↓aD,unA,ne_eq,not_true_eq_false,not_false_eq_true,g7,g8,g9,g10,g11,g12]
  refine aJ (fun q st=>∃ (i:Nat),q=(nxL blk.to).length-i∧i≤(nxL blk.to).length∧ah st.env 7=some (.op c7 0)∧ah st.env 8=some (.os bo 0 36 2 g.blocks.length)∧ah st.env 9=some (bp g.vars)∧ah st.env 10=some (.int .i64 v)∧ah st.env 11=some (blA (lvL g v))∧ah st.env 12=some (.int .i64 b) ∧
    ah st.env 13=some (.bool ((((nxL blk.to).take i).map Int.toNat).any fun c=>(lvL g v).getD c false))∧ah st.env 14=some (cD (nxL blk.to))∧ah st.env 15=some (.int .i64 i)∧LW g c7 bo st.heap st.nx (vs.set b (x0,p0.2)) (lsF g (Kb v (b+1)) (Kb v b))∧st.dm=[]) (n:=(nxL blk.to).length) aI
   ⟨0,rfl,by omega,by simp [ah,g7],by simp [ah,g8],by simp [ah,g9],by simp [ah,g10],by simp [ah,g11],by simp [ah,g12],by simp [ah],by simp [ah],by simp [ah],w1.mono (by simp only;omega),rfl⟩ ?_
  clear g7 g8 g9 g10 g11 g12
  rintro q ⟨env,heap5,nx5,dm⟩ ⟨i,rfl,hi,g7,g8,g9,g10,g11,g12,g13,g14,g15,w6,hdm⟩
  simp only at g7 g8 g9 g10 g11 g12 g13 g14 g15 w6 hdm
  subst hdm
  have f3:=wS (i:=i) (by omega)
  by_cases hci:(i:Int)<((nxL blk.to).length:Int)
  case pos =>
   have hr:=Fo (show i<(nxL blk.to).length by omega)
   generalize (nxL blk.to)[i]=c at hr
   have hcr:=kI G hblk (c:=c) (Fp hr)
   obtain ⟨cn,rfl⟩:∃ k:Nat,c=(k:Int):=⟨c.toNat,by omega⟩
   have ixr:=eu hr
   rw [inE] at ixr
   have hNc:=jF (g:=g) (v:=v) (b:=cn) (by omega)
   have hNcd:=getD_some hNc
   have ixc:=ng hNc
   have hs:(((nxL blk.to).take (i+1)).map Int.toNat).any (fun c=>(lvL g v).getD c false)=((((nxL blk.to).take i).map Int.toNat).any (fun c=>(lvL g v).getD c false)||(lvL g v).getD cn false):=by
    rw [aQ hr,FC,List.any_append];simp
   rw [hNcd] at hs
   cases ha:(((nxL blk.to).take i).map Int.toNat).any fun c=>(lvL g v).getD c false
   ·rw [ha] at g13 hs
    simp -implicitDefEqProofs only [RA,ae,zp,↓reduceIte,reduceCtorEq,zq,zr,zs,zt,↓aA,↓az,↓au,↓ar,↓ay,↓aw,↓ak,↓aj,↓aC,↓aB,↓aE,↓aD,unA,ne_eq,not_true_eq_false,not_false_eq_true,nl,jt,g7,g8,g9,g10,g11,g12,g13,g14,g15,lr,hci,ixr,ixc,f3]
    exact ⟨(nxL blk.to).length-(i+1),by omega,i+1,rfl,by omega,by rw [hs,Bool.false_or],rfl,w6⟩
   ·rw [ha] at g13 hs
    simp -implicitDefEqProofs only [RA,ae,zp,↓reduceIte,reduceCtorEq,zq,zr,zs,zt,↓aA,↓az,↓au,↓ar,↓ay,↓aw,↓ak,↓aj,↓aC,↓aB,↓aE,↓aD,unA,ne_eq,not_true_eq_false,not_false_eq_true,nl,jt,g7,g8,g9,g10,g11,g12,g13,g14,g15,lr,hci,ixr,ixc,f3]
    exact ⟨(nxL blk.to).length-(i+1),by omega,i+1,rfl,by omega,by rw [hs,Bool.true_or],rfl,w6⟩
  rw [show (nxL blk.to).take i=nxL blk.to from Fs (by omega),hany] at g13
  cases hlo:dc (LoG g v b)
  ·rw [hlo] at g13
   have hls:=kL (g:=g) (K1:=(Kb v (b+1))) (K2:=Kb v b) (b:=b) (by rw [gu];exact fun h=>by rw [pZ h] at hlo;cases hlo)
   rw [hls,iw] at w6
   simp -implicitDefEqProofs only [RA,ae,zp,↓reduceIte,reduceCtorEq,zq,zr,zs,zt,↓aA,↓az,↓au,↓ar,↓ay,↓aw,↓ak,↓aj,↓aC,↓aB,↓aE,↓aD,unA,ne_eq,not_true_eq_false,not_false_eq_true,nl,jt,g7,g8,g9,g10,g11,g12,g13,g14,g15,lr,hci,f2]
   exact ⟨g.blocks.length-(b+1),by omega,b+1,_,rfl,by omega,rfl,w6⟩
  ·rw [hlo] at g13
   have hla:fj (lsF g (Kb v (b+1)) (Kb v b)) b true=some (pkK g (fun i=>LoG g i b) (Kb v b b)):=by unfold fj;rw [dW hbn];rfl
   obtain ⟨x',h6,n6,ea,p1,p2,e1,w7⟩:=w6.app (s:=true) pm.1 hpv hla (by have:=iY g (fun i=>LoG g i b) (Kb v b b);rw [gu] at this ⊢;omega)
   rw [rL hbn (by rw [gu];exact hvm) (by rw [gu];exact eY.1 hlo),iw,kD hpv] at w7
   simp only [if_true] at ea w7
   have a1:=mw hpv
   have pt:=ku x' hpv
   have hle:=rh (vs:=vs.set b (x0,p0.2)) (b:=b) (by rw [w6.len];exact hbn)
   rw [← pt] at w7
   have W8:=w6.hb
   simp -implicitDefEqProofs only [RA,ae,zp,↓reduceIte,reduceCtorEq,zq,zr,zs,zt,↓aA,↓az,↓au,↓ar,↓ay,↓aw,↓ak,↓aj,↓aC,↓aB,↓aE,↓aD,unA,ne_eq,not_true_eq_false,not_false_eq_true,nl,jt,g7,g8,g9,g10,g11,g12,g13,g14,g15,lr,hci,f2,ib2,W8,a1,hle,bE,ixp,pmE,ea,e1,p1,p2]
   rw [pt] at w7 ⊢
   exact ⟨g.blocks.length-(b+1),by omega,b+1,_,rfl,by omega,rfl,w7⟩
def pkS (ns:List Nm) (S k:Nat):List Nm:=((List.range k).filter fun i=>S.testBit i).map fun i=>ns.getD i []
theorem yt {ns:List Nm} {S k:Nat} {nm:Nm} (h:S.testBit k=true) (hn:ns[k]?=some nm):pkS ns S (k+1)=pkS ns S k++[nm]:=by
 unfold pkS
 rw [List.range_succ,List.filter_append,FC]
 congr 1
 simp only [List.filter_cons,List.filter_nil,h,if_true,List.map_cons,List.map_nil]
 rw [List.getD_eq_getElem?_getD,hn];rfl
theorem Bh {ns:List Nm} {S k:Nat} (h:S.testBit k=false):pkS ns S (k+1)=pkS ns S k:=by
 unfold pkS
 rw [List.range_succ,List.filter_append]
 simp [h]
theorem yu (ns:List Nm) (S k:Nat):(pkS ns S k).length≤k:=by
 have:=List.length_filter_le (fun i=>S.testBit i) (List.range k)
 rw [List.length_range] at this
 rw [pkS,Fw];exact this
theorem w29 (ns:List Nm) (S c8:Nat) (h:Heap) (nx:Nat) (hn:ns.length≤60) (hS:S<18446744073709551616) (h8:aq h c8=some (.cells [nmA ns])) (hlt:c8<nx) :
  AC Tryz.prog 29 [.agg [.int .u64 S],.op c8 0] h nx fun y h' n'=>∃ v,y=.ret v∧aR 9 1 h' n' v ((pkS ns S ns.length).map nmE)∧nx≤n'∧(∀ k o,k<nx→aq h k=some o→aq h' k=some o)∧∀ c,aP v=some c→nx≤c:=by
 refine AC.go aI is29 (by simp) ?_
 have lo:=mQ ns
 have q1:(nx=c8)=False:=eq_false (by omega)
 simp -implicitDefEqProofs only [RA,ae,zp,↓reduceIte,reduceCtorEq,zq,zr,zs,zt,↓aA,↓az,↓au,↓ar,↓ay,↓aw,↓ak,↓aj,↓aC,↓aB,↓aE,↓aD,unA,ne_eq,not_true_eq_false,not_false_eq_true,A29,EV,h8,lo,q1]
 refine aJ (fun q st=>∃ (i:Nat) (v:AV),q=ns.length-i∧i≤ns.length∧ah st.env 2=some (.op nx 0)∧ah st.env 4=some v∧ah st.env 7=some (nmA ns)∧ah st.env 8=some (.int .i64 ns.length)∧ah st.env 9=some (.int .i64 i) ∧
   aq st.heap nx=some (.cells [.int .u64 S])∧aR 9 1 st.heap st.nx v ((pkS ns S i).map nmE)∧nx<st.nx∧(∀ k o,k<nx→aq h k=some o→aq st.heap k=some o)∧(∀ c,aP v=some c→nx<c)∧st.dm=[]) (n:=ns.length) aI
  ⟨0,.nilS,rfl,by omega,by simp [ah],by simp [ah],by simp [ah],by simp [ah],by simp [ah],by simp only;rw [af,if_pos rfl],.inl ⟨rfl,rfl⟩,by simp only;omega,fun k o h1 h2=>by simp only;rw [af,if_neg (by omega)];exact h2,fun c hc=>by simp [aP] at hc,rfl⟩ ?_
 rintro q ⟨env,heap,nx',dm⟩ ⟨i,v,rfl,hi,g2,g4,g7,g8,g9,b2,ov,hl,hfr,hv,hdm⟩
 simp only at g2 g4 g7 g8 g9 b2 ov hl hfr hdm
 subst hdm
 have f1:=wS (i:=i) (by omega)
 by_cases hc:(i:Int)<(ns.length:Int)
 case neg =>
  have e:i=ns.length:=by omega
  subst e
  simp -implicitDefEqProofs only [RA,ae,zp,↓reduceIte,reduceCtorEq,zq,zr,zs,zt,↓aA,↓az,↓au,↓ar,↓ay,↓aw,↓ak,↓aj,↓aC,↓aB,↓aE,↓aD,unA,ne_eq,not_true_eq_false,not_false_eq_true,xq,qP,g2,g4,g7,g8,g9,hc,R29]
  exact ⟨v,rfl,ov,by omega,hfr,fun c hc=>by have:=hv c hc;omega⟩
 have hr:=Fo (show i<ns.length by omega)
 generalize ns[i]=r at hr
 have ix:=mR hr
 have w:=w30 S i hS (by omega)
 simp -implicitDefEqProofs only [RA,ae,zp,↓reduceIte,reduceCtorEq,zq,zr,zs,zt,↓aA,↓az,↓au,↓ar,↓ay,↓aw,↓ak,↓aj,↓aC,↓aB,↓aE,↓aD,unA,ne_eq,not_true_eq_false,not_false_eq_true,xq,qP,g2,g4,g7,g8,g9,hc,ix,b2]
 refine w.use fun k1 hk1=>?_
 cases hb:S.testBit i
 ·simp -implicitDefEqProofs only [RA,ae,zp,↓reduceIte,reduceCtorEq,zq,zr,zs,zt,↓aA,↓az,↓au,↓ar,↓ay,↓aw,↓ak,↓aj,↓aC,↓aB,↓aE,↓aD,unA,ne_eq,not_true_eq_false,not_false_eq_true,g2,g4,g7,g8,g9,f1]
  exact ⟨ns.length-(i+1),by omega,i+1,v,rfl,by omega,rfl,rfl,b2,by rw [Bh hb];exact ov.mono hk1,by omega,hfr,hv⟩
 ·have hpl:=yu ns S i
  obtain ⟨v',h4,n4,ea,og,hle,fr,id⟩:=(ov.mono (nx':=k1) hk1).grw (bytes:=16) (ns:=[nmE r]) (ir _) (by simp [nmE]) (by simp;omega) (by simp [maxLen];omega)
  rw [nmE] at ea
  simp -implicitDefEqProofs only [RA,ae,zp,↓reduceIte,reduceCtorEq,zq,zr,zs,zt,↓aA,↓az,↓au,↓ar,↓ay,↓aw,↓ak,↓aj,↓aC,↓aB,↓aE,↓aD,unA,ne_eq,not_true_eq_false,not_false_eq_true,g2,g4,g7,g8,g9,ea,f1]
  have hnv:∀ k,k≤nx→aP v≠some k:=fun k hk e=>by have:=hv k e;omega
  refine ⟨ns.length-(i+1),by omega,i+1,v',rfl,by omega,rfl,rfl,fr _ _ (by omega) b2 (hnv _ (Nat.le_refl _)),?_,by omega,fun k o h1 h2=>fr k o (by omega) (hfr k o h1 h2) (hnv k (by omega)),fun c hc=>?_⟩
  ·rw [yt hb hr,FC];exact og
  ·rcases id c hc with h3|h3
   ·omega
   ·exact hv c h3
structure MS2 (h:Heap) (nx:Nat) (dm:List Nat):Prop where
 d1:∀ d∈dm,d<nx∧aq h d=some .dfd
 d2:dm.Nodup
theorem MS2.ext {h h':Heap} {nx nx':Nat} {dm:List Nat} (S:MS2 h nx dm) (hn:nx≤nx') (hk:∀ k o,k<nx→aq h k=some o→o=.dfd→aq h' k=some o):MS2 h' nx' dm :=
 ⟨fun d hd=>⟨by have:=(S.d1 d hd).1;omega,hk _ _ (S.d1 d hd).1 (S.d1 d hd).2 rfl⟩,S.d2⟩
theorem MS2.mark {h h':Heap} {nx nx' d:Nat} {dm:List Nat} (S:MS2 h nx dm) (hn:nx≤d) (hd:d<nx') (hk:∀ k o,k<nx→aq h k=some o→o=.dfd→aq h' k=some o) (hh:aq h' d=some .dfd):MS2 h' nx' (d::dm):=by
 have S':=S.ext (nx':=nx') (by omega) hk
 refine ⟨fun e he=>?_,List.nodup_cons.2 ⟨fun hm=>?_,S.d2⟩⟩
 ·rcases List.mem_cons.1 he with e1|e1
  ·subst e1;exact ⟨hd,hh⟩
  ·exact S'.d1 e e1
 ·have:=(S.d1 d hm).1;omega
theorem MS2.ok {h:Heap} {nx:Nat} {dm:List Nat} (S:MS2 h nx dm):lA h dm:=rV dm h S.d2 fun d hd=>(S.d1 d hd).2
abbrev gD (l:List Nat):Nat→Nat:=fun b=>l.getD b 0
theorem eP {l:List Nat} {i x:Nat} (h:l[i]?=some x):gD l i=x:=by simp [gD,List.getD_eq_getElem?_getD,h]
theorem yI {P:Pi} {g:Fn} (G:GdF P g) {cI cO bI bO cb c1 c2 b n0:Nat} {I O:List Nat} {blk:Bk} {st:ASt} {Q:AX→ASt→Prop} (hblk:g.blocks[b]?=some blk) (hn0:n0=g.blocks.length) (hb:b<n0)
  (hI:I.length=n0) (hO:O.length=n0) (hL:LVI (nbG g) (co g) (bF g) (gD I) (gD O))
  (g10:ah st.env 10=some (.op cI 0)) (g11:ah st.env 11=some (.op cO 0)) (g13:ah st.env 13=some (.op cb 0)) (g49:ah st.env 49=some (.fn (.func 46) [.op c1 0,.op c2 0]))
  (hcI:aq st.heap cI=some (.cells [.os bI 0 78 1 n0])) (hcO:aq st.heap cO=some (.cells [.os bO 0 78 1 n0])) (hbI:aq st.heap bI=some (.cells (I.map cY))) (hbO:aq st.heap bO=some (.cells (O.map cY))) (hcb:aq st.heap cb=some (.cells [.int .i64 b]))
  (gc1:aq st.heap c1=some (.cells (fnE g))) (gc2:aq st.heap c2=some (.cells [.int .i64 b])) (l:cI<st.nx∧cO<st.nx∧bI<st.nx∧bO<st.nx∧cb<st.nx∧c1<st.nx∧c2<st.nx)
  (d:bO≠cI∧bO≠cO∧bO≠bI∧bO≠cb∧bO≠c1∧bO≠c2)
  (hQ:∀ h' n' O',st.nx+2≤n'→(∀ k o,k<st.nx→k≠bO→aq st.heap k=some o→aq h' k=some o)→aq h' st.nx=some .dfd→O'.length=n0→LVI (nbG g) (co g) (bF g) (gD I) (gD O')→(∀ c∈nbG g b,∀ v,(gD I c).testBit v=true→(gD O' b).testBit v=true)→(∀ x,x≠b→gD O' x=gD O x) →
   aq h' bO=some (.cells (O'.map cY))→Q .normal { st with heap:=h',nx:=n',dm:=st.nx::st.dm }) :
  AW Tryz.prog (fun _ _=>false) none 119 (.rangeF (.tmp 49) #[50] Cm Ck) Q st:=by
 obtain ⟨l1,l2,l3,l4,l5,l6,l7⟩:=l
 obtain ⟨d1,d2,d3,d4,d5,d6⟩:=d
 have hn60:=G.n2
 have hkl:=fun b=>(vA G b).2
 refine zE hblk (by have:=G.to2 blk (Fp hblk);omega) (c1:=c1) (c2:=c2) g49 (by decide)
  (fun pre h2 n2=>(∃ O',O'.length=n0∧LVI (nbG g) (co g) (bF g) (gD I) (gD O')∧(∀ c∈pre.map Int.toNat,∀ v,(gD I c).testBit v=true→(gD O' b).testBit v=true)∧(∀ x,x≠b→gD O' x=gD O x)∧aq h2 bO=some (.cells (O'.map cY)))∧st.nx+2≤n2∧∀ k o,k<st.nx→k≠bO→aq st.heap k=some o→aq h2 k=some o)
  (fun x=>(14,.int .i64 x)::(50,.int .i64 x)::st.env) ?_ ?_ ?_ ?_ ?_ ?_ ?_
 ·rintro pre h2 n2 n3 ⟨a1,a2,a3⟩ hn
  exact ⟨a1,by omega,a3⟩
 ·rintro pre h2 h3 n2 ⟨⟨O',p1,p2,p3,p4,a1⟩,a2,a3⟩ hk
  exact ⟨⟨O',p1,p2,p3,p4,by rw [hk _ (by omega)];exact a1⟩,a2,fun k o e1 e2 e3=>by rw [hk _ (by omega)];exact a3 k o e1 e2 e3⟩
 ·rintro pre h2 n2 ⟨a1,a2,a3⟩
  exact ⟨a3 _ _ l6 (fun e=>d5 e.symm) gc1,a3 _ _ l7 (fun e=>d6 e.symm) gc2⟩
 ·intro L
  refine ⟨⟨O,hO,hL,fun c hc=>by simp at hc,fun _ _=>rfl,by rw [af,if_neg (by omega),af,if_neg (by omega)];exact hbO⟩,Nat.le_refl _,fun k o e1 e2 e3=>by rw [af,if_neg (by omega),af,if_neg (by omega)];exact e3⟩
 ·intro x h2 n2 l
  refine e7 aI ?_
  simp -implicitDefEqProofs only [RA,ae,zp,↓reduceIte,reduceCtorEq,zq,zr,zs,zt,↓aA,↓az,↓au,↓ar,↓ay,↓aw,↓ak,↓aj,↓aC,↓aB,↓aE,↓aD,unA,ne_eq,not_true_eq_false,not_false_eq_true,Cm,Al]
 ·rintro pre x suf h2 n2 l hsp hn ⟨⟨O',p1,p2,p3,p4,a1⟩,a2,a3⟩
  have hxr:=kI G hblk (c:=x) (by rw [hsp];simp)
  obtain ⟨c,rfl⟩:∃ c:Nat,x=(c:Int):=⟨x.toNat,by omega⟩
  have hcn:c<n0:=by omega
  have hcG:c∈nbG g b:=by rw [i9 hblk,hsp];simp
  rw [show (pre++[(c:Int)]).map Int.toNat=pre.map Int.toNat++[c] by rw [FC];rfl]
  have bcI:=a3 _ _ l1 (fun e=>d1 e.symm) hcI
  have bcO:=a3 _ _ l2 (fun e=>d2 e.symm) hcO
  have bbI:=a3 _ _ l3 (fun e=>d3 e.symm) hbI
  have bcb:=a3 _ _ l5 (fun e=>d4 e.symm) hcb
  have hOb:=Fo (l:=O') (i:=b) (by omega)
  have hIc:=Fo (l:=I) (i:=c) (by omega)
  have hOd:=eP hOb
  have hId:=eP hIc
  have ho1:=p2.olt b
  have hi1:=p2.ilt c
  have hup:∀ y,gD (O'.set b y) b=y∧∀ x,x≠b→gD (O'.set b y) x=gD O' x:=fun y=>⟨eP (List.getElem?_set_self (by omega)),fun x hx=>by simp only [gD,List.getD_eq_getElem?_getD,List.getElem?_set_ne (fun h=>hx h.symm)]⟩
  have hnew:=p2.out (O':=gD (O'.set b (gD O' b ||| gD I c))) hkl hcG (hup _).1 (hup _).2
  rw [hOd,hId] at hnew
  rw [hOd] at ho1
  rw [hId] at hi1
  have hbits:∀ c'∈pre.map Int.toNat++[c],∀ v,(gD I c').testBit v=true→(gD (O'.set b (gD O' b ||| gD I c)) b).testBit v=true:=fun c' hc' v h=>by
   rw [(hup _).1,Nat.testBit_or,Bool.or_eq_true]
   rcases List.mem_append.1 hc' with h1|h1
   ·exact .inl (p3 c' h1 v h)
   ·simp at h1;subst h1;exact .inr h
  have hoth:∀ x,x≠b→gD (O'.set b (gD O' b ||| gD I c)) x=gD O x:=fun x hx=>by rw [(hup _).2 x hx,p4 x hx]
  rw [hOd,hId] at hbits hoth
  generalize O'[b]'(by omega)=ov at *
  generalize I[c]'(by omega)=iv at *
  have w:=w26 ov iv ho1 hi1
  have ibO:=fV (b:=bO) (e:=78) (n:=n0) (i:=b) hb
  have ibI:=fV (b:=bI) (e:=78) (n:=n0) (i:=c) hcn
  have hdO:=eB (f:=cY) hOb
  have hdI:=eB (f:=cY) hIc
  have hput:=kf (f:=cY) (l:=O') (i:=b) (by omega) (ov ||| iv)
  have hle:=mU (f:=cY) (l:=O') (i:=b) (by omega)
  have uc:AV.int .u64 ((ov ||| iv:Nat):Int)=cY (ov ||| iv):=rfl
  rw [← uc] at hput
  refine e7 aI ?_
  simp -implicitDefEqProofs only [RA,ae,zp,↓reduceIte,reduceCtorEq,zq,zr,zs,zt,↓aA,↓az,↓au,↓ar,↓ay,↓aw,↓ak,↓aj,↓aC,↓aB,↓aE,↓aD,unA,ne_eq,not_true_eq_false,not_false_eq_true,Ck,Ak,g10,g11,g13,bcI,bcO,bbI,bcb,a1,ibO,ibI,hdO,hdI,cY,bE]
  refine w.use fun n3 hn3=>?_
  simp -implicitDefEqProofs only [RA,ae,zp,↓reduceIte,reduceCtorEq,zq,zr,zs,zt,↓aA,↓az,↓au,↓ar,↓ay,↓aw,↓ak,↓aj,↓aC,↓aB,↓aE,↓aD,unA,ne_eq,not_true_eq_false,not_false_eq_true,g10,g11,g13,bcI,bcO,bbI,bcb,a1,ibO,ibI,hdO,hdI,cY,bE,hput,hle]
  refine ⟨by omega,fun k o e1 e2=>by rw [if_neg (by omega)];exact e2,⟨_,by rw [List.length_set];exact p1,hnew,hbits,hoth,rfl⟩,by omega,fun k o e1 e2 e3=>?_⟩
  rw [if_neg (fun e=>e2 e.symm)];exact a3 k o e1 e2 e3
 ·rintro h2 n2 hn hd ⟨⟨O',p1,p2,p3,p4,a1⟩,a2,a3⟩
  rw [← i9 hblk] at p3
  exact hQ h2 n2 O' hn a3 hd p1 p2 p3 p4 a1
theorem lX {F:List Fr} {Q:AX→ASt→Prop} {cI cO bI bO cb c15 c16 b n0 ge ki:Nat} {I O:List Nat} {mo:Bool} {env:Env} {heap:Heap} {nx:Nat} {dm:List Nat} (hb:b<n0) (hn60:n0≤60) (hI:I.length=n0) (hO:O.length=n0)
  (hge:ge<18446744073709551616) (hki:ki<18446744073709551616) (hOl:gD O b<18446744073709551616)
  (g10:ah env 10=some (.op cI 0)) (g11:ah env 11=some (.op cO 0)) (g12:ah env 12=some (.bool mo)) (g13:ah env 13=some (.op cb 0)) (g15:ah env 15=some (.op c15 0)) (g16:ah env 16=some (.op c16 0))
  (hcI:aq heap cI=some (.cells [.os bI 0 78 1 n0])) (hcO:aq heap cO=some (.cells [.os bO 0 78 1 n0])) (hbI:aq heap bI=some (.cells (I.map cY))) (hbO:aq heap bO=some (.cells (O.map cY))) (hcb:aq heap cb=some (.cells [.int .i64 b]))
  (h15:aq heap c15=some (.cells [.int .u64 ge])) (h16:aq heap c16=some (.cells [.int .u64 ki]))
  (l:cI<nx∧cO<nx∧bI<nx∧bO<nx∧cb<nx∧c15<nx∧c16<nx)
  (hQ:∀ env' h' n',ah env' 6=ah env 6→ah env' 8=ah env 8→ah env' 9=ah env 9→ah env' 10=ah env 10→ah env' 11=ah env 11→ah env' 13=ah env 13→ah env' 12=some (.bool (mo||decide (ge ||| lsN (gD O b) ki≠gD I b)))→nx≤n' →
   (∀ k o,k<nx→k≠bI→aq heap k=some o→aq h' k=some o)→aq h' bI=some (.cells ((I.set b (ge ||| lsN (gD O b) ki)).map cY))→fin Tryz.prog (fun _ _=>false) none 119 F Q .normal ⟨env',h',n',dm⟩) :
  go Tryz.prog (fun _ _=>false) none 119 F Q Ci ⟨env,heap,nx,dm⟩:=by
 obtain ⟨l1,l2,l3,l4,l5,l6,l7⟩:=l
 have hOb:=Fo (l:=O) (i:=b) (by omega)
 have hIb:=Fo (l:=I) (i:=b) (by omega)
 have hOd:=eP hOb
 have hId:=eP hIb
 rw [hOd] at hOl hQ
 rw [hId] at hQ
 generalize O[b]'(by omega)=ov at *
 generalize I[b]'(by omega)=iv at *
 have w1:=w28 ov ki hOl hki
 have hls:=Nat.lt_of_le_of_lt (lV ov ki) hOl
 have w2:=w26 ge (lsN ov ki) hge hls
 have ibO:=fV (b:=bO) (e:=78) (n:=n0) (i:=b) hb
 have ibI:=fV (b:=bI) (e:=78) (n:=n0) (i:=b) hb
 have hdO:=eB (f:=cY) hOb
 have hdI:=eB (f:=cY) hIb
 generalize ge ||| lsN ov ki=now at *
 have hput:=kf (f:=cY) (l:=I) (i:=b) (by omega) now
 have hle:=mU (f:=cY) (l:=I) (i:=b) (by omega)
 have uc:AV.int .u64 ((now:Nat):Int)=cY now:=rfl
 rw [← uc] at hput
 simp -implicitDefEqProofs only [RA,ae,zp,↓reduceIte,reduceCtorEq,zq,zr,zs,zt,↓aA,↓az,↓au,↓ar,↓ay,↓aw,↓ak,↓aj,↓aC,↓aB,↓aE,↓aD,unA,ne_eq,not_true_eq_false,not_false_eq_true,Ci,Aj,g10,g11,g12,g13,g15,g16,hcI,hcO,hbO,hcb,h15,h16,ibO,hdO,cY,bE]
 refine w1.use fun k1 hk1=>?_
 intro _
 simp -implicitDefEqProofs only [RA,ae,zp,↓reduceIte,reduceCtorEq,zq,zr,zs,zt,↓aA,↓az,↓au,↓ar,↓ay,↓aw,↓ak,↓aj,↓aC,↓aB,↓aE,↓aD,unA,ne_eq,not_true_eq_false,not_false_eq_true,FN,g10,g11,g12,g13,g15,g16,hcI,hcO,hbO,hcb,h15,h16,ibO,hdO,cY,bE]
 refine w2.use fun k2 hk2=>?_
 intro _
 have y1:(k2=cI)=False:=eq_false (by omega)
 have y2:(k2=cO)=False:=eq_false (by omega)
 have y3:(k2=bI)=False:=eq_false (by omega)
 have y4:(k2=bO)=False:=eq_false (by omega)
 have y5:(k2=cb)=False:=eq_false (by omega)
 have y6:(k2=c15)=False:=eq_false (by omega)
 have y7:(k2=c16)=False:=eq_false (by omega)
 have fr:∀ k o,k<nx→k≠bI→aq heap k=some o→aq ((bI,AO.cells ((I.set b now).map cY))::(k2,.cells [.int .u64 now])::(k2,.cells [.int .u64 0])::heap) k=some o:=fun k o h1 h2 h3=>by
  rw [af,if_neg (fun e=>h2 e.symm),af,if_neg (by omega),af,if_neg (by omega)];exact h3
 cases mo
 case true =>
  simp -implicitDefEqProofs only [RA,ae,zp,↓reduceIte,reduceCtorEq,zq,zr,zs,zt,↓aA,↓az,↓au,↓ar,↓ay,↓aw,↓ak,↓aj,↓aC,↓aB,↓aE,↓aD,unA,ne_eq,not_true_eq_false,not_false_eq_true,FN,g10,g11,g12,g13,g15,g16,hcI,hcO,hbI,hbO,hcb,h15,h16,ibO,hdO,ibI,hdI,cY,bE,y1,y2,y3,y4,y5,y6,y7,hput,hle]
  refine hQ _ _ _ ?_ ?_ ?_ ?_ ?_ ?_ ?_ (by omega) fr (by rw [af,if_pos rfl])
  all_goals simp [ah,g10,g11,g13]
 case false =>
  rcases ai ((now:Int)=(iv:Int)) with ⟨c1,d1⟩|⟨c1,d1⟩
  ·simp -implicitDefEqProofs only [RA,ae,zp,↓reduceIte,reduceCtorEq,zq,zr,zs,zt,↓aA,↓az,↓au,↓ar,↓ay,↓aw,↓ak,↓aj,↓aC,↓aB,↓aE,↓aD,unA,ne_eq,not_true_eq_false,not_false_eq_true,FN,g10,g11,g12,g13,g15,g16,hcI,hcO,hbI,hbO,hcb,h15,h16,ibO,hdO,ibI,hdI,cY,bE,y1,y2,y3,y4,y5,y6,y7,hput,hle,eqL,eqC,d1,Bool.and_true]
   refine hQ _ _ _ ?_ ?_ ?_ ?_ ?_ ?_ ?_ (by omega) fr (by rw [af,if_pos rfl])
   all_goals simp [ah,g10,g11,g13]
   omega
  ·simp -implicitDefEqProofs only [RA,ae,zp,↓reduceIte,reduceCtorEq,zq,zr,zs,zt,↓aA,↓az,↓au,↓ar,↓ay,↓aw,↓ak,↓aj,↓aC,↓aB,↓aE,↓aD,unA,ne_eq,not_true_eq_false,not_false_eq_true,FN,g10,g11,g12,g13,g15,g16,hcI,hcO,hbI,hbO,hcb,h15,h16,ibO,hdO,ibI,hdI,cY,bE,y1,y2,y3,y4,y5,y6,y7,hput,hle,eqL,eqC,d1,Bool.and_true]
   refine hQ _ _ _ ?_ ?_ ?_ ?_ ?_ ?_ ?_ (by omega) fr (by rw [af,if_pos rfl])
   all_goals simp [ah,g10,g11,g13]
   omega
end Go.Proofs.YtkhjclmfbmfahaaGreatDoor
