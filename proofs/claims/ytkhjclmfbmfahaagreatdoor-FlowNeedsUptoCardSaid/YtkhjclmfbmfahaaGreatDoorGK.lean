/- The two checks are one; opening a function. -/
import Derived.Test.YtkhjclmfbmfahaaGreatDoorGJ
namespace Go.Proofs.YtkhjclmfbmfahaaGreatDoor
open List renaming getElem?_eq_getElem → Fo, take_of_length_le → Fs, length_cons → Fu, all_eq_true → Fz, append_nil → FM, nil_append → FN, append_assoc → FT, cons_append → F0
open Option renaming map_some → F9
open Bool renaming false_eq_true → Gc, and_eq_true → Gd, false_and → Gf
set_option maxHeartbeats 64000000
open Go Go.Ab Go.Proofs
open Nat renaming reduceEqDiff → zp, reduceAdd → zq, reduceLeDiff → zr, reduceLT → zs, reduceBEq → zt
set_option linter.unusedVariables false
set_option linter.unusedSimpArgs false
set_option maxRecDepth 20000
theorem pW {V:List Pm} {x:Tm} {w:Int} (h:w≠0):ftB V x w=ftR V x w:=by
 unfold ftB ftR
 rw [decide_eq_false h,Bool.false_or,Bool.and_comm]
theorem CD {V:List Pm}:∀ (l:List Tm) (ps:List Pm),(∀ p∈ps,p.2≠0)→zpB (ftB V) l ps=zpB (ftR V) l ps
 | [],_,_=>rfl
 | _::_,[],_=>rfl
 | a::l,p::ps,h=>by
  simp only [zpB]
  rw [pW (h p (by simp)),CD l ps fun q hq=>h q (List.mem_cons_of_mem _ hq)]
theorem DA {V:List Pm} {P:Pi} (hP:∀ g∈P,clV g.vars=true) (n:Nm) (l:List Tm):clB (ftB V) P n l=clB (ftR V) P n l:=by
 unfold clB
 cases hg:fnO P n with
 | none=>rfl
 | some g =>
  simp only
  rw [CD l g.params fun p hp=>by
   have:=jk (hP g (List.mem_of_find?_eq_some hg)) p (List.mem_append_left _ hp)
   omega]
theorem stBR {V:List Pm} {P:Pi} (hP:∀ g∈P,clV g.vars=true) (s:St):stB (ftB V) (ftZ V) P V s=stB (ftR V) (ftZ V) P V s:=by
 unfold stB
 rw [DA hP]
 by_cases h:vw V s.var=0
 ·rw [decide_eq_false (p:=vw V s.var≠0) (by simp [h]),Gf,Gf]
  simp only [pW (show (32:Int)≠0 by omega)]
 ·simp only [pW h,pW (show (32:Int)≠0 by omega)]
theorem enBR {V:List Pm} {P:Pi} (hP:∀ g∈P,clV g.vars=true) (f:Fn) (b:Bk):enB (ftB V) P f b=enB (ftR V) P f b:=by
 unfold enB
 rw [DA hP]
 by_cases h:f.result=0
 ·simp only [if_pos h,pW (show (1:Int)≠0 by omega)]
 ·simp only [if_neg h,pW h,pW (show (1:Int)≠0 by omega)]
theorem vaBR {P:Pi} (hP:∀ g∈P,clV g.vars=true) (f:Fn):vaB (ftB f.vars) (ftZ f.vars) P f=vaB (ftR f.vars) (ftZ f.vars) P f:=by
 unfold vaB
 rw [show bkB (ftB f.vars) (ftZ f.vars) P f=bkB (ftR f.vars) (ftZ f.vars) P f from funext fun b=>by
  unfold bkB
  rw [enBR hP,show stB (ftB f.vars) (ftZ f.vars) P f.vars=stB (ftR f.vars) (ftZ f.vars) P f.vars from funext fun s=>stBR hP s]]
theorem ckER (P:Pi):ckR P=ckE P:=by
 unfold ckR ckE
 by_cases hP:∀ g∈P,clV g.vars=true
 ·rw [show vaR P=fnB P from funext fun f=>by unfold vaR fnB;rw [vaBR hP]]
  by_cases h1:P=[]
  ·simp [h1]
  ·simp [h1]
 ·have key:∀ g:Fn→Bool,(∀ f,g f=true→clV f.vars=true)→¬ P.all g=true:=fun g hg h=>hP fun f hf=>hg f (Fz.1 h f hf)
  have k1:¬ P.all (vaR P)=true:=key _ fun f h=>by unfold vaR at h;simp only [Gd] at h;exact h.1
  have k2:¬ P.all (fnB P)=true:=key _ fun f h=>by unfold fnB at h;simp only [Gd] at h;exact h.1
  rw [if_neg (c:=P≠[]∧_) (fun h=>k1 h.2.2),if_neg (c:=(P.map (·.name)).Nodup∧_) (fun h=>k2 h.2.1)]
def chE (P:Pi) (f:Int):Int:=if ckE P=0∧(f<0∨(P.length:Int)≤f) then 2 else ckE P
def zFn:List AV:=[.str [],.nilS,.int .i64 0,.nilS,.nilS]
def opG (P:Pi) (f:Int):List AV:=if chE P f=0 then (match P[f.toNat]? with|some g=>fnE g|none=>zFn) else zFn
theorem mN {P:Pi} {f:Int} (h:chE P f≠0):opG P f=zFn:=if_neg h
theorem uM {P:Pi} {f:Int} {g:Fn} (h:chE P f=0) (hg:P[f.toNat]?=some g):opG P f=fnE g:=by rw [opG,if_pos h,hg]
theorem p8 {P:Pi} {f:Int} (h:chE P f=0):ckE P=0∧0≤f∧f<P.length∧∃ g,P[f.toNat]?=some g∧g∈P:=by
 unfold chE at h
 split at h
 ·cases h
 ·rename_i hn
  have h1:0≤f∧f<P.length:=by
   refine ⟨Classical.byContradiction fun hh=>hn ⟨h,.inl (by omega)⟩,Classical.byContradiction fun hh=>hn ⟨h,.inr (by omega)⟩⟩
  have h2:=Fo (l:=P) (show f.toNat<P.length by omega)
  exact ⟨h,h1.1,h1.2,_,h2,List.mem_of_getElem? h2⟩
theorem w23 (P:Pi) (f:Int) (ho:jZ P):Pure Tryz.prog 23 [.agg (piE P),.int .i64 f] (.tup [.agg (opG P f),.int .i64 (chE P f)]):=by
 refine Pure.of fun nx=>AC.go aI is23 (by simp) ?_
 have w45':=w45 P ho
 have lv:=cX P
 unfold piE at w45' ⊢
 have n1:(nx+1=nx)=False:=eq_false (by omega)
 simp -implicitDefEqProofs only [RA,ae,zp,↓reduceIte,reduceCtorEq,zq,zr,zs,zt,↓aA,↓az,↓au,↓ar,↓ay,↓aw,↓ak,↓aj,↓aC,↓aB,↓aE,↓aD,unA,ne_eq,not_true_eq_false,not_false_eq_true,A23,E1,n1]
 refine w45'.use fun k1 hk1=>?_
 rcases ai (ckE P=0) with ⟨c1,d1⟩|⟨c1,d1⟩
 case inr =>
  have h1:chE P f=ckE P:=if_neg fun h=>c1 h.1
  rw [mN (by rw [h1];exact c1),h1]
  simp -implicitDefEqProofs only [RA,ae,zp,↓reduceIte,reduceCtorEq,zq,zr,zs,zt,↓aA,↓az,↓au,↓ar,↓ay,↓aw,↓ak,↓aj,↓aC,↓aB,↓aE,↓aD,unA,ne_eq,not_true_eq_false,not_false_eq_true,d1,n1,R23,zFn]
 have h3:∀ c,chE P f=2→P.length=c→True:=fun _ _ _=>trivial
 rcases ai (f<0) with ⟨c2,d2⟩|⟨c2,d2⟩
 ·have h1:chE P f=2:=if_pos ⟨c1,.inl c2⟩
  rw [mN (by rw [h1];decide),h1]
  simp -implicitDefEqProofs only [RA,ae,zp,↓reduceIte,reduceCtorEq,zq,zr,zs,zt,↓aA,↓az,↓au,↓ar,↓ay,↓aw,↓ak,↓aj,↓aC,↓aB,↓aE,↓aD,unA,ne_eq,not_true_eq_false,not_false_eq_true,d1,d2,n1,R23,zFn,Int.reduceEq,show ((2:Int)=0)=False from by decide]
 rcases ai ((P.length:Int)≤f) with ⟨c3,d3⟩|⟨c3,d3⟩
 ·have h1:chE P f=2:=if_pos ⟨c1,.inr c3⟩
  rw [mN (by rw [h1];decide),h1]
  simp -implicitDefEqProofs only [RA,ae,zp,↓reduceIte,reduceCtorEq,zq,zr,zs,zt,↓aA,↓az,↓au,↓ar,↓ay,↓aw,↓ak,↓aj,↓aC,↓aB,↓aE,↓aD,unA,ne_eq,not_true_eq_false,not_false_eq_true,d1,d2,d3,lv,n1,R23,zFn,Int.reduceEq,show ((2:Int)=0)=False from by decide]
 have h1:chE P f=0:=by rw [show chE P f=ckE P from if_neg fun h=>h.2.elim c2 c3,c1]
 have hr:=Fo (l:=P) (show f.toNat<P.length by omega)
 generalize P[f.toNat]=g at hr
 rw [uM h1 hr,h1]
 have ix:=cL hr
 rw [show ((f.toNat:Nat):Int)=f by omega,bN] at ix
 rw [bN]
 simp -implicitDefEqProofs only [RA,ae,zp,↓reduceIte,reduceCtorEq,zq,zr,zs,zt,↓aA,↓az,↓au,↓ar,↓ay,↓aw,↓ak,↓aj,↓aC,↓aB,↓aE,↓aD,unA,ne_eq,not_true_eq_false,not_false_eq_true,d1,d2,d3,lv,ix,n1,R23,c1]
theorem w31 (P:Pi) (f:Int) (ho:jZ P):Pure Tryz.prog 31 [.agg (piE P),.int .i64 f] (.int .i64 (chE P f)):=by
 refine Pure.of fun nx=>AC.go aI is31 (by simp) ?_
 have w50':=w50 P ho
 rw [ckER] at w50'
 have lv:=cX P
 unfold piE at w50' ⊢
 have n1:(nx+1=nx)=False:=eq_false (by omega)
 simp -implicitDefEqProofs only [RA,ae,zp,↓reduceIte,reduceCtorEq,zq,zr,zs,zt,↓aA,↓az,↓au,↓ar,↓ay,↓aw,↓ak,↓aj,↓aC,↓aB,↓aE,↓aD,unA,ne_eq,not_true_eq_false,not_false_eq_true,A31,ET,n1]
 refine w50'.use fun k1 hk1=>?_
 rcases ai (ckE P=0) with ⟨c1,d1⟩|⟨c1,d1⟩
 case inr =>
  have h1:chE P f=ckE P:=if_neg fun h=>c1 h.1
  rw [h1]
  simp -implicitDefEqProofs only [RA,ae,zp,↓reduceIte,reduceCtorEq,zq,zr,zs,zt,↓aA,↓az,↓au,↓ar,↓ay,↓aw,↓ak,↓aj,↓aC,↓aB,↓aE,↓aD,unA,ne_eq,not_true_eq_false,not_false_eq_true,d1,n1,R31]
 rcases ai (f<0) with ⟨c2,d2⟩|⟨c2,d2⟩
 ·have h1:chE P f=2:=if_pos ⟨c1,.inl c2⟩
  rw [h1]
  simp -implicitDefEqProofs only [RA,ae,zp,↓reduceIte,reduceCtorEq,zq,zr,zs,zt,↓aA,↓az,↓au,↓ar,↓ay,↓aw,↓ak,↓aj,↓aC,↓aB,↓aE,↓aD,unA,ne_eq,not_true_eq_false,not_false_eq_true,d1,d2,n1,R31]
 rcases ai ((P.length:Int)≤f) with ⟨c3,d3⟩|⟨c3,d3⟩
 ·have h1:chE P f=2:=if_pos ⟨c1,.inr c3⟩
  rw [h1]
  simp -implicitDefEqProofs only [RA,ae,zp,↓reduceIte,reduceCtorEq,zq,zr,zs,zt,↓aA,↓az,↓au,↓ar,↓ay,↓aw,↓ak,↓aj,↓aC,↓aB,↓aE,↓aD,unA,ne_eq,not_true_eq_false,not_false_eq_true,d1,d2,d3,lv,n1,R31]
 have h1:chE P f=ckE P:=if_neg fun h=>h.2.elim c2 c3
 rw [h1]
 simp -implicitDefEqProofs only [RA,ae,zp,↓reduceIte,reduceCtorEq,zq,zr,zs,zt,↓aA,↓az,↓au,↓ar,↓ay,↓aw,↓ak,↓aj,↓aC,↓aB,↓aE,↓aD,unA,ne_eq,not_true_eq_false,not_false_eq_true,d1,d2,d3,lv,n1,R31]
def nxA:List Int→List Int→List Int
 | _,[]=>[]
 | pre,c::r=>if pre.contains c then nxA (pre++[c]) r else c::nxA (pre++[c]) r
def nxL (l:List Int):List Int:=nxA [] l
theorem nZ (c:Int):∀ (l pre:List Int),nxA pre (l++[c])=nxA pre l++(if (pre++l).contains c then [] else [c])
 | [],pre=>by simp only [FN,nxA,FM]
 | a::l,pre=>by
  simp only [F0,nxA]
  rw [nZ c l (pre++[a])]
  simp only [FT,F0,FN]
  split <;> rfl
theorem lQ (c:Int) (r:List Int):∀ (l pre:List Int),nxA pre (l++c::r)=nxA pre l++(if (pre++l).contains c then nxA (pre++l++[c]) r else c::nxA (pre++l++[c]) r)
 | [],pre=>by simp only [FN,nxA,FM]
 | a::l,pre=>by
  simp only [F0,nxA]
  rw [lQ c r l (pre++[a])]
  simp only [FT,F0,FN]
  split <;> rfl
theorem vn {l:List Int} {i:Nat} (h:i≤l.length):sH 1 (cD l) 0 i none=some (cD (l.take i)):=by
 simp [sH,cD,h,List.map_take]
theorem nn (i:Nat):(0≤(i:Int))=True:=eq_true (by omega)
theorem w46 {g:Fn} {bi:Nat} {blk:Bk} (hb:g.blocks[bi]?=some blk) (hto:blk.to.length≤4000000) {b c1 c2:Nat} (I:List Int→Heap→Nat→Prop) (hI:∀ pre h nx n',I pre h nx→nx≤n'→I pre h n')
  (hc:∀ pre h nx,I pre h nx→aq h c1=some (.cells (fnE g))∧aq h c2=some (.cells [.int .i64 bi]))
  (hy:∀ pre x suf h nx,nxL blk.to=pre++x::suf→I pre h nx→AY Tryz.prog b [.int .i64 x] h nx fun y h' n'=>y=.ret (.bool true)∧I (pre++[x]) h' n')
  (h:Heap) (nx:Nat) (hi:I [] h nx):AC Tryz.prog 46 [.yl b,.op c1 0,.op c2 0] h nx fun y h' n'=>y=.ret (.tup [])∧I (nxL blk.to) h' n':=by
 refine AC.go aI is46 (by simp) ?_
 obtain ⟨gc1,gc2⟩:=hc _ _ _ hi
 have ix:=dH hb
 rw [eD] at ix
 rw [bN] at gc1
 have lo:=eO blk.to
 simp -implicitDefEqProofs only [RA,ae,zp,↓reduceIte,reduceCtorEq,zq,zr,zs,zt,↓aA,↓az,↓au,↓ar,↓ay,↓aw,↓ak,↓aj,↓aC,↓aB,↓aE,↓aD,unA,ne_eq,not_true_eq_false,not_false_eq_true,A46,EK,gc1,gc2,ix,lo]
 refine aJ (fun q st=>∃ i:Nat,q=blk.to.length-i∧i≤blk.to.length∧ah st.env 0=some (.yl b)∧ah st.env 4=some (cD blk.to)∧ah st.env 15=some (cD blk.to)∧ah st.env 16=some (.int .i64 blk.to.length)∧ah st.env 17=some (.int .i64 i)∧I (nxL (blk.to.take i)) st.heap st.nx∧st.dm=[]) (n:=blk.to.length) aI
  ⟨0,rfl,by omega,by simp [ah],by simp [ah],by simp [ah],by simp [ah],by simp [ah],by simpa [nxL,nxA] using hi,rfl⟩ ?_
 rintro q ⟨env,heap,nx',dm⟩ ⟨i,rfl,hii,g0,g4,g15,g16,g17,hi2,hdm⟩
 simp only at g0 g4 g15 g16 g17 hi2 hdm
 subst hdm
 have f1:=wS (i:=i) (by omega)
 by_cases hc':(i:Int)<(blk.to.length:Int)
 case neg =>
  rw [show blk.to.take i=blk.to from Fs (by omega)] at hi2
  simp -implicitDefEqProofs only [RA,ae,zp,↓reduceIte,reduceCtorEq,zq,zr,zs,zt,↓aA,↓az,↓au,↓ar,↓ay,↓aw,↓ak,↓aj,↓aC,↓aB,↓aE,↓aD,unA,ne_eq,not_true_eq_false,not_false_eq_true,xe,qF,g0,g4,g15,g16,g17,hc',R46]
  exact hi2
 have hr:=Fo (show i<blk.to.length by omega)
 generalize blk.to[i]=r at hr
 have ixr:=eu hr
 rw [inE] at ixr
 have sl:=vn (l:=blk.to) (i:=i) (by omega)
 have w47':=w47 (blk.to.take i) r (by simp;omega)
 have hs:nxL (blk.to.take (i+1))=nxL (blk.to.take i)++(if (blk.to.take i).contains r then [] else [r]):=by
  rw [aQ hr,nxL,nZ];rfl
 simp -implicitDefEqProofs only [RA,ae,zp,↓reduceIte,reduceCtorEq,zq,zr,zs,zt,↓aA,↓az,↓au,↓ar,↓ay,↓aw,↓ak,↓aj,↓aC,↓aB,↓aE,↓aD,unA,ne_eq,not_true_eq_false,not_false_eq_true,xe,qF,g0,g4,g15,g16,g17,hc',ixr,sl,lo,bnd,nn,Int.toNat_natCast]
 refine w47'.use fun k hk=>?_
 cases hm:(blk.to.take i).contains r
 ·rw [hm] at hs
  simp only [Gc,if_false] at hs
  have hsp:nxL blk.to=nxL (blk.to.take i)++r::nxA (blk.to.take i++[r]) (blk.to.drop (i+1)):=by
   conv=>lhs;rw [← List.take_append_drop i blk.to,bA hr,nxL,lQ]
   simp only [FN,hm,Gc,if_false];rfl
  have hyr:=hy _ r _ heap k hsp (hI _ _ _ _ hi2 hk)
  simp -implicitDefEqProofs only [RA,ae,zp,↓reduceIte,reduceCtorEq,zq,zr,zs,zt,↓aA,↓az,↓au,↓ar,↓ay,↓aw,↓ak,↓aj,↓aC,↓aB,↓aE,↓aD,unA,ne_eq,not_true_eq_false,not_false_eq_true,g0,g4,g15,g16,g17]
  refine hyr.mono ?_
  rintro y h' n' ⟨rfl,hi3⟩
  rw [← hs] at hi3
  simp -implicitDefEqProofs only [RA,ae,zp,↓reduceIte,reduceCtorEq,zq,zr,zs,zt,↓aA,↓az,↓au,↓ar,↓ay,↓aw,↓ak,↓aj,↓aC,↓aB,↓aE,↓aD,unA,ne_eq,not_true_eq_false,not_false_eq_true,g0,g4,g15,g16,g17,f1]
  exact ⟨blk.to.length-(i+1),by omega,i+1,rfl,by omega,rfl,hi3⟩
 ·rw [hm] at hs
  simp only [if_true,FM] at hs
  simp -implicitDefEqProofs only [RA,ae,zp,↓reduceIte,reduceCtorEq,zq,zr,zs,zt,↓aA,↓az,↓au,↓ar,↓ay,↓aw,↓ak,↓aj,↓aC,↓aB,↓aE,↓aD,unA,ne_eq,not_true_eq_false,not_false_eq_true,g0,g4,g15,g16,g17,f1]
  exact ⟨blk.to.length-(i+1),by omega,i+1,rfl,by omega,rfl,by rw [hs];exact hI _ _ _ _ hi2 hk⟩
theorem w25 (g:Fn) (b:Int) (h:Heap) (nx:Nat):AC Tryz.prog 25 [.agg (fnE g),.int .i64 b] h nx fun y h' n'=>y=.ret (.fn (.func 46) [.op nx 0,.op (nx+1) 0])∧h'=(nx+1,.cells [.int .i64 b])::(nx,.cells (fnE g))::h∧n'=nx+1+1:=by
 refine AC.go aI is25 (by simp) ?_
 rw [bN]
 simp -implicitDefEqProofs only [RA,ae,zp,↓reduceIte,reduceCtorEq,zq,zr,zs,zt,↓aA,↓az,↓au,↓ar,↓ay,↓aw,↓ak,↓aj,↓aC,↓aB,↓aE,↓aD,unA,ne_eq,not_true_eq_false,not_false_eq_true,A25,EZ,bY,ofC,ofV,R25]
theorem zE {own:Nat→Nat→Bool} {N:Nat} {st:ASt} {Q:AX→ASt→Prop} {g:Operand} {p:Tmp} {aa ab:aF} {f:Fn} {bi:Nat} {blk:Bk} (hb:f.blocks[bi]?=some blk) (hto:blk.to.length≤4000000) {c1 c2:Nat}
  (hg:oev st.env g=some (.fn (.func 46) [.op c1 0,.op c2 0])) (hpN:p<N) (I:List Int→Heap→Nat→Prop) (E:Int→Env)
  (hI:∀ pre h nx n',I pre h nx→nx≤n'→I pre h n')
  (hI2:∀ pre h h' nx,I pre h nx→(∀ k,k≠st.nx+1→aq h' k=aq h k)→I pre h' nx)
  (hc:∀ pre h nx,I pre h nx→aq h c1=some (.cells (fnE f))∧aq h c2=some (.cells [.int .i64 bi]))
  (h0:∀ L,I [] ((st.nx+1,L)::(st.nx,.dfd)::st.heap) (st.nx+2))
  (hA:∀ x h nx l,AW Tryz.prog own (some l) N aa (fun y s=>y=.normal∧s={ env:=E x,heap:=h,nx:=nx }) { env:=(p,.int .i64 x)::st.env,heap:=h,nx:=nx })
  (hB:∀ pre x suf h nx l,nxL blk.to=pre++x::suf→st.nx+2≤nx→I pre h nx→AW Tryz.prog own (some l) N ab (fun y s=>y=.normal∧s.dm=[]∧st.nx+2≤s.nx∧(∀ k o,k=st.nx+1∨k=st.nx→aq h k=some o→aq s.heap k=some o)∧I (pre++[x]) s.heap s.nx) { env:=E x,heap:=h,nx:=nx })
  (hQ:∀ h' n',st.nx+2≤n'→aq h' st.nx=some .dfd→I (nxL blk.to) h' n'→Q .normal { st with heap:=h',nx:=n',dm:=st.nx::st.dm }) :
  AW Tryz.prog own none N (.rangeF g #[p] aa ab) Q st:=by
 refine mq (gf:=46) (caps:=[.op c1 0,.op c2 0]) hg fun fn cs bd has hbd=>?_
 obtain ⟨b,hbb⟩:∃ b,b=st.nx+1:=⟨_,rfl⟩
 obtain ⟨L,hL⟩:∃ L,L=AO.loop false fn N st.env #[p] cs bd st.nx:=⟨_,rfl⟩
 rw [← hbb] at hI2 hB h0 ⊢
 rw [← hL]
 refine (w46 hb hto (b:=b) (c1:=c1) (c2:=c2) (fun pre h n=>aq h b=some L∧aq h st.nx=some .dfd∧st.nx+2≤n∧I pre h n)
  (fun pre h n n' ⟨h1,h2,h3,h4⟩ hn=>⟨h1,h2,by omega,hI _ _ _ _ h4 hn⟩) (fun pre h n ⟨_,_,_,h4⟩=>hc _ _ _ h4) ?_ _ _ ⟨by rw [af,if_pos rfl],by rw [af,if_neg (by omega),af,if_pos rfl],by omega,h0 L⟩).mono ?_
 ·rintro pre x suf h nx hsp ⟨i1,i2,i3,i4⟩
  refine pc has hbd (by rw [← hL];exact i1) rfl (by simpa using hpN) fun l=>?_
  refine AW.mono (hA x h nx l) ?_
  rintro y s ⟨rfl,rfl⟩
  refine ⟨rfl,rfl,by rw [← hL];exact i1,?_⟩
  have hI':=hI2 pre h (bz h b (.loop true fn N st.env #[p] cs bd st.nx)) nx i4 fun k hk=>ev hk
  refine AW.mono (hB pre x suf _ nx l hsp i3 hI') ?_
  rintro y2 ⟨e2,h2,n2,d2⟩ ⟨rfl,hd2,hn2,hkp,hi2⟩
  simp only at hd2 hn2 hkp hi2
  have hb2:=hkp b _ (.inl rfl) (by rw [bL,if_pos rfl])
  have hd3:=hkp st.nx _ (.inr rfl) (by rw [ev (by omega)];exact i2)
  refine ⟨by simp,hd2,hb2,rfl,?_,?_,hn2,hI2 _ _ _ _ hi2 fun k hk=>ev hk⟩
  ·rw [bL,if_pos rfl,hL];rfl
  ·simp only;rw [ev (by omega)];exact hd3
 ·rintro y h' n' ⟨rfl,i1,i2,i3,i4⟩
  refine ⟨⟨_,rfl⟩,.inl ⟨i1,hQ _ _ i3 (by rw [bT (by omega)];exact i2) (hI2 _ _ _ _ i4 fun k hk=>bT hk)⟩⟩
theorem kj (l:List Int):∀ z∈l.map inE,z.length=1:=fun z hz=>by
 obtain ⟨r,_,rfl⟩:=List.mem_map.1 hz;rfl
theorem eg {e sz:Nat} {h:Heap} {nx:Nat} {x:AV} {es:List (List AV)} (ho:aR e sz h nx x es):cellsOf x=[x]∧x.plain=true:=by
 rcases ho with ⟨rfl,_⟩|⟨b,rfl,_,_⟩ <;> exact ⟨rfl,rfl⟩
theorem rG:∀ (l pre:List Int),(nxA pre l).length≤l.length
 | [],_=>Nat.le_refl _
 | a::l,pre=>by
  have:=rG l (pre++[a])
  simp only [nxA]
  split <;> simp only [Fu] <;> omega
theorem rF (l:List Int):(nxL l).length≤l.length:=rG l []
structure GdF (P:Pi) (g:Fn):Prop where
 n1:1≤g.blocks.length
 n2:g.blocks.length≤60
 vars:g.params.length+g.locals.length≤40
 cl:clV g.vars=true
 to2:∀ b∈g.blocks,b.to.length≤2
 toR:∀ b∈g.blocks,∀ t∈b.to,0≤t∧t<(g.blocks.length:Int)
 st:∀ b∈g.blocks,∀ s∈b.steps,stB (ftB g.vars) (ftZ g.vars) P g.vars s=true
 en:∀ b∈g.blocks,enB (ftB g.vars) P g b=true
theorem zZ {ft:Tm→Int→Bool} {P:Pi} {g:Fn} {b:Bk} (h:enB ft P g b=true):b.to.length≤2∧∀ t∈b.to,0≤t∧t<(g.blocks.length:Int):=by
 unfold enB at h
 rw [Gd] at h
 obtain ⟨h1,h2⟩:=h
 refine ⟨?_,fun t ht=>?_⟩
 ·split at h2
  ·simp only [Gd,decide_eq_true_eq] at h2;omega
  split at h2
  ·simp only [Gd] at h2
   obtain ⟨_,h3⟩:=h2
   unfold on1 at h3
   split at h3
   ·simp only [Gd,decide_eq_true_eq] at h3;omega
   ·cases h3
  split at h2
  ·simp only [Gd,decide_eq_true_eq] at h2;omega
  split at h2
  ·simp only [Gd,decide_eq_true_eq] at h2;omega
  ·cases h2
 ·unfold toB at h1
  have:=Fz.1 h1 t ht
  simpa using this
theorem vW {P:Pi} (h:ckE P=0):P.length≤16∧P≠[]∧(P.map (·.name)).Nodup∧∀ g∈P,GdF P g:=by
 unfold ckE at h
 split at h
 ·cases h
 rename_i hm
 split at h
 case isFalse=>cases h
 rename_i hh
 obtain ⟨h1,h2,h3⟩:=hh
 unfold mnP at hm
 simp only [Bool.or_eq_true,decide_eq_true_eq,List.any_eq_true,not_or,not_exists,not_and] at hm
 refine ⟨by omega,h3,h1,fun g hg=>?_⟩
 have hf:=Fz.1 h2 g hg
 have hmg:=hm.2 g hg
 unfold fnB vaB at hf
 unfold mnF at hmg
 simp only [Gd,decide_eq_true_eq] at hf
 simp only [Bool.or_eq_true,decide_eq_true_eq,not_or] at hmg
 obtain ⟨f1,f2,f3,f4,f5,f6⟩:=hf
 have key:∀ b∈g.blocks,(∀ s∈b.steps,stB (ftB g.vars) (ftZ g.vars) P g.vars s=true)∧enB (ftB g.vars) P g b=true:=fun b hb=>by
  have:=Fz.1 f6 b hb
  unfold bkB at this
  rw [Gd] at this
  exact ⟨Fz.1 this.1,this.2⟩
 exact ⟨by omega,by omega,by omega,f1,fun b hb=>(zZ (key b hb).2).1,fun b hb=>(zZ (key b hb).2).2,fun b hb=>(key b hb).1,fun b hb=>(key b hb).2⟩
def afL:List Int→List Int
 | []=>[]
 | c::r=>c::r.filter fun d=>decide (d≠c)
theorem v8 {l:List Int} (h:l.length≤2):afL l=nxL l:=by
 match l,h with
 | [],_=>rfl
 | [a],_=>rfl
 | [a,b],_ =>
  by_cases e:b=a
  ·subst e;simp [afL,nxL,nxA]
  ·have e':¬ a=b:=fun h=>e h.symm
   simp [afL,nxL,nxA,e]
theorem v7 (c:Int):∀ l:List Int,afL (l++[c])=afL l++(match l with|[]=>[c]|a::_=>if c=a then [] else [c])
 | []=>rfl
 | a::r=>by
  simp only [F0,afL,List.filter_append]
  by_cases e:c=a <;> simp [e]
theorem zj (l:List Int):(afL l).length≤l.length:=by
 cases l with
 | nil=>exact Nat.le_refl _
 | cons a r=>have:=List.length_filter_le (fun d=>decide (d≠a)) r;simp only [afL,Fu];omega
theorem w33 (b:Bk) (hto:b.to.length≤4000000):Pure Tryz.prog 33 [.agg (bkE b)] (cD (afL b.to)):=by
 refine Pure.own (e:=3) (kj _) fun nx=>AC.go aI is33 (by simp) ?_
 have lo:=eO b.to
 have bl:=iL b
 rw [eD] at bl ⊢
 simp -implicitDefEqProofs only [RA,ae,zp,↓reduceIte,reduceCtorEq,zq,zr,zs,zt,↓aA,↓az,↓au,↓ar,↓ay,↓aw,↓ak,↓aj,↓aC,↓aB,↓aE,↓aD,unA,ne_eq,not_true_eq_false,not_false_eq_true,A33,ER,bl]
 refine aJ (fun q st=>∃ (i:Nat) (v:AV),q=b.to.length-i∧i≤b.to.length∧ah st.env 1=some (.op nx 0)∧ah st.env 3=some v∧ah st.env 4=some (.int .i64 i)∧aq st.heap nx=some (.cells [eH b.steps,.int .u8 b.kind,.str b.func,bg b.terms,cD b.to])∧aR 3 1 st.heap st.nx v ((afL (b.to.take i)).map inE)∧nx<st.nx∧aP v≠some nx∧st.dm=[]) (n:=b.to.length) aI
  ⟨0,.nilS,rfl,by omega,by simp [ah],by simp [ah],by simp [ah],by (simp only;repeat (first|rw [af,if_pos rfl]|rw [af,if_neg (by omega)])),.inl ⟨rfl,rfl⟩,by simp only;omega,by simp [aP],rfl⟩ ?_
 rintro q ⟨env,heap,nx',dm⟩ ⟨i,v,rfl,hi,g1,g3,g4,gb,ov,hlt,hne,hdm⟩
 simp only at g1 g3 g4 gb ov hlt hdm
 subst hdm
 have f1:=wS (i:=i) (by omega)
 by_cases hc:(i:Int)<(b.to.length:Int)
 case neg =>
  rw [show b.to.take i=b.to from Fs (by omega)] at ov
  simp -implicitDefEqProofs only [RA,ae,zp,↓reduceIte,reduceCtorEq,zq,zr,zs,zt,↓aA,↓az,↓au,↓ar,↓ay,↓aw,↓ak,↓aj,↓aC,↓aB,↓aE,↓aD,unA,ne_eq,not_true_eq_false,not_false_eq_true,pj,lm,g1,g3,g4,gb,lo,hc,R33]
  exact ⟨v,rfl,ov⟩
 have hr:=Fo (show i<b.to.length by omega)
 generalize b.to[i]=r at hr
 have ixr:=eu hr
 rw [inE] at ixr
 have hs:=v7 r (b.to.take i)
 rw [← aQ hr] at hs
 have hll:=zj (b.to.take i)
 rw [List.length_take] at hll
 have app:∃ v' h4 n4,iM 3 1 8 heap nx' v (.lst 1 [[.int .i64 r]])=some (v',h4,n4)∧aR 3 1 h4 n4 v' ((afL (b.to.take i)++[r]).map inE)∧nx<n4∧aq h4 nx=some (.cells [eH b.steps,.int .u8 b.kind,.str b.func,bg b.terms,cD b.to])∧aP v'≠some nx:=by
  obtain ⟨v',h4,n4,ea,og,hle,fr,id⟩:=ov.grw (bytes:=8) (ns:=[inE r]) (kj _) (by simp [inE]) (by simp;omega) (by simp [maxLen];omega)
  refine ⟨v',h4,n4,ea,by rw [List.map_append];exact og,by omega,fr _ _ hlt gb hne,fun e=>?_⟩
  rcases id _ e with h|h
  ·omega
  ·exact hne h
 obtain ⟨v',h4,n4,ea,og,hlt4,gb4,hne4⟩:=app
 rcases ai ((i:Int)=0) with ⟨c0,d0⟩|⟨c0,d0⟩
 ·have hi0:i=0:=by omega
  subst hi0
  simp only [List.take_zero,FN] at hs og
  simp -implicitDefEqProofs only [RA,ae,zp,↓reduceIte,reduceCtorEq,zq,zr,zs,zt,↓aA,↓az,↓au,↓ar,↓ay,↓aw,↓ak,↓aj,↓aC,↓aB,↓aE,↓aD,unA,ne_eq,not_true_eq_false,not_false_eq_true,pj,lm,g1,g3,g4,gb,lo,hc,d0,ixr,ea,f1]
  exact ⟨b.to.length-(0+1),by omega,0+1,v',rfl,by omega,rfl,rfl,gb4,by rw [hs];exact og,hlt4,hne4⟩
 ·have h0:=Fo (show 0<b.to.length by omega)
  generalize b.to[0]=a at h0
  have ix0:idxA 1 (cD b.to) 0=some (.fp [.int .i64 a]):=eu (n:=0) h0
  have ht:∃ r',b.to.take i=a::r':=by
   rw [show i=(i-1)+1 by omega]
   cases hb:b.to with
   | nil=>rw [hb] at h0;simp at h0
   | cons x y=>rw [hb] at h0;simp at h0;subst h0;exact ⟨_,List.take_succ_cons⟩
  obtain ⟨r',ht⟩:=ht
  rw [ht] at hs
  simp only at hs
  rcases ai (r=a) with ⟨c1,d1⟩|⟨c1,d1⟩
  ·rw [if_pos c1,FM,← ht] at hs
   simp -implicitDefEqProofs only [RA,ae,zp,↓reduceIte,reduceCtorEq,zq,zr,zs,zt,↓aA,↓az,↓au,↓ar,↓ay,↓aw,↓ak,↓aj,↓aC,↓aB,↓aE,↓aD,unA,ne_eq,not_true_eq_false,not_false_eq_true,pj,lm,g1,g3,g4,gb,lo,hc,d0,ixr,ix0,d1,f1]
   exact ⟨b.to.length-(i+1),by omega,i+1,v,rfl,by omega,rfl,rfl,by rw [hs];exact ov,hlt,hne⟩
  ·rw [if_neg c1,← ht] at hs
   simp -implicitDefEqProofs only [RA,ae,zp,↓reduceIte,reduceCtorEq,zq,zr,zs,zt,↓aA,↓az,↓au,↓ar,↓ay,↓aw,↓ak,↓aj,↓aC,↓aB,↓aE,↓aD,unA,ne_eq,not_true_eq_false,not_false_eq_true,pj,lm,g1,g3,g4,gb,lo,hc,d0,ixr,ix0,d1,ea,f1]
   exact ⟨b.to.length-(i+1),by omega,i+1,v',rfl,by omega,rfl,rfl,gb4,by rw [hs];exact og,hlt4,hne4⟩
def nsE (l:List Int):List AV:=[cD l]
def ntA (l:List (List Int)):AV:=.lst 1 (l.map nsE)
theorem bvn (x:Nat):(BitVec.ofInt IntKind.u64.bits (x:Int))=BitVec.ofNat 64 x:=by
 simp [IntKind.bits]
theorem band {x y:Nat} (hx:x<18446744073709551616) (hy:y<18446744073709551616):eE .and .u64 (x:Int) (y:Int)=some ((x &&& y:Nat):Int):=by
 simp only [eE,bvn]
 congr 1
 have h1:(BitVec.ofNat 64 x &&& BitVec.ofNat 64 y).toNat=x &&& y:=by
  rw [BitVec.toNat_and,BitVec.toNat_ofNat,BitVec.toNat_ofNat,Nat.mod_eq_of_lt (by omega),Nat.mod_eq_of_lt (by omega)]
 show IntKind.u64.wrap (((BitVec.ofNat 64 x &&& BitVec.ofNat 64 y).toNat:Nat):Int)=_
 rw [h1]
 have:x &&& y≤x:=Nat.and_le_left
 exact pq (by omega) (by omega)
theorem iD {x y:Nat} (hx:x<18446744073709551616) (hy:y<18446744073709551616):x ||| y<18446744073709551616:=Nat.or_lt_two_pow (n:=64) (by omega) (by omega)
theorem bor {x y:Nat} (hx:x<18446744073709551616) (hy:y<18446744073709551616):eE .or .u64 (x:Int) (y:Int)=some ((x ||| y:Nat):Int):=by
 simp only [eE,bvn]
 congr 1
 have h1:(BitVec.ofNat 64 x ||| BitVec.ofNat 64 y).toNat=x ||| y:=by
  rw [BitVec.toNat_or,BitVec.toNat_ofNat,BitVec.toNat_ofNat,Nat.mod_eq_of_lt (by omega),Nat.mod_eq_of_lt (by omega)]
 show IntKind.u64.wrap (((BitVec.ofNat 64 x ||| BitVec.ofNat 64 y).toNat:Nat):Int)=_
 rw [h1]
 have:=iD hx hy
 exact pq (by omega) (by omega)
def lsN (x y:Nat):Nat:=x &&& (18446744073709551615-y)
theorem lV (x y:Nat):lsN x y≤x:=Nat.and_le_left
theorem bls {x y:Nat} (hx:x<18446744073709551616) (hy:y<18446744073709551616):eE .andNot .u64 (x:Int) (y:Int)=some ((lsN x y:Nat):Int):=by
 simp only [eE,bvn]
 congr 1
 have h1:(BitVec.ofNat 64 x &&& ~~~BitVec.ofNat 64 y).toNat=lsN x y:=by
  rw [BitVec.toNat_and,BitVec.toNat_not,BitVec.toNat_ofNat,BitVec.toNat_ofNat,Nat.mod_eq_of_lt (by omega),Nat.mod_eq_of_lt (by omega),lsN]
 show IntKind.u64.wrap (((BitVec.ofNat 64 x &&& ~~~BitVec.ofNat 64 y).toNat:Nat):Int)=_
 rw [h1]
 have:lsN x y≤x:=Nat.and_le_left
 exact pq (by omega) (by omega)
theorem ub {x y:Nat} (hx:x<18446744073709551616) (hy:y<18446744073709551616) (i:Nat):(lsN x y).testBit i=(x.testBit i&&!y.testBit i):=by
 unfold lsN
 rw [Nat.testBit_and]
 by_cases hi:i<64
 ·rw [show (18446744073709551615-y)=2 ^ 64-(y+1) by omega,Nat.testBit_two_pow_sub_succ (by omega),decide_eq_true hi,Bool.true_and]
 ·have:x.testBit i=false:=Nat.testBit_lt_two_pow (Nat.lt_of_lt_of_le (show x<2 ^ 64 by omega) (Nat.pow_le_pow_right (by omega) (by omega)))
  rw [this,Gf,Gf]
theorem jz {i:Nat} (hi:i<64):2 ^ i<18446744073709551616:=Nat.pow_lt_pow_right (a:=2) (n:=64) (by omega) hi
theorem uG (i:Nat):((2 ^ i:Nat):Int)=2 ^ i:=by simp
theorem hit {x i:Nat} (hi:i<64):eE .and .u64 ((x >>> i:Nat):Int) 1=some (if x.testBit i then 1 else 0)∨18446744073709551616≤x:=by
 by_cases hx:x<18446744073709551616
 ·left
  have h1:x >>> i≤x:=by rw [Nat.shiftRight_eq_div_pow];exact Nat.div_le_self _ _
  have:=band (x:=x >>> i) (y:=1) (by omega) (by omega)
  rw [show ((1:Nat):Int)=1 from rfl] at this
  rw [this,Nat.and_one_is_mod]
  have tb:=Nat.testBit_eq_decide_div_mod_eq (x:=x) (i:=i)
  rw [← Nat.shiftRight_eq_div_pow] at tb
  rw [tb]
  rcases Nat.mod_two_eq_zero_or_one (x >>> i) with h|h <;> simp [h]
 ·exact .inr (by omega)
theorem i01:((0:Int)≤0)=True:=eq_true (by omega)
theorem i02:((0:Int)<((1:Nat):Int))=True:=eq_true (by omega)
theorem i03:Int.toNat 0*1=0:=rfl
theorem w30 (s i:Nat) (hs:s<18446744073709551616) (hi:i<64):Pure Tryz.prog 30 [.agg [.int .u64 s],.int .i64 i] (.bool (s.testBit i)):=by
 refine Pure.of fun nx=>AC.go aI is30 (by simp) ?_
 have e1:IntKind.u64.wrap (i:Int)=i:=pq (by omega) (by omega)
 have e2:min ((i:Int)).toNat IntKind.u64.bits=i:=by simp only [IntKind.bits];omega
 have e3:((s:Int)).fdiv (2 ^ i)=((s >>> i:Nat):Int):=by
  rw [Nat.shiftRight_eq_div_pow,Int.fdiv_eq_ediv_of_nonneg _ (Int.le_of_lt (Int.pow_pos (by decide)))];simp
 have e4:=(hit (x:=s) hi).resolve_right (by omega)
 simp -implicitDefEqProofs only [RA,ae,zp,↓reduceIte,reduceCtorEq,zq,zr,zs,zt,↓aA,↓az,↓au,↓ar,↓ay,↓aw,↓ak,↓aj,↓aC,↓aB,↓aE,↓aD,unA,ne_eq,not_true_eq_false,not_false_eq_true,A30,EU,i01,i02,i03,e1,z9 _ _ _ _ (show (0:Int)≤(i:Int) by omega),e2,e3,DO,e4,F9]
 cases s.testBit i
 ·simp -implicitDefEqProofs only [RA,ae,zp,↓reduceIte,reduceCtorEq,zq,zr,zs,zt,↓aA,↓az,↓au,↓ar,↓ay,↓aw,↓ak,↓aj,↓aC,↓aB,↓aE,↓aD,unA,ne_eq,not_true_eq_false,not_false_eq_true,R30,Gc,show ((0:Int)=1)=False from by decide]
 ·simp -implicitDefEqProofs only [RA,ae,zp,↓reduceIte,reduceCtorEq,zq,zr,zs,zt,↓aA,↓az,↓au,↓ar,↓ay,↓aw,↓ak,↓aj,↓aC,↓aB,↓aE,↓aD,unA,ne_eq,not_true_eq_false,not_false_eq_true,R30,show ((1:Int)=1)=True from by decide]
theorem w40 (s i:Nat) (hs:s<18446744073709551616) (hi:i<64):Pure Tryz.prog 40 [.agg [.int .u64 s],.int .i64 i] (.agg [.int .u64 ((s ||| 2 ^ i:Nat):Int)]):=by
 refine Pure.of fun nx=>AC.go aI is40 (by simp) ?_
 have e1:IntKind.u64.wrap (i:Int)=i:=pq (by omega) (by omega)
 have e2:min ((i:Int)).toNat IntKind.u64.bits=i:=by simp only [IntKind.bits];omega
 have hp:=jz hi
 have e3:IntKind.u64.wrap (1*2 ^ i)=((2 ^ i:Nat):Int):=by rw [Int.one_mul,← uG];generalize 2 ^ i=z at hp ⊢;exact pq (by omega) (by omega)
 have e4:=bor hs hp
 have n1:(nx+1=nx)=False:=eq_false (by omega)
 simp -implicitDefEqProofs only [RA,ae,zp,↓reduceIte,reduceCtorEq,zq,zr,zs,zt,↓aA,↓az,↓au,↓ar,↓ay,↓aw,↓ak,↓aj,↓aC,↓aB,↓aE,↓aD,unA,ne_eq,not_true_eq_false,not_false_eq_true,A40,EO,i01,i02,i03,e1,DD _ _ _ _ (show (0:Int)≤(i:Int) by omega),e2,e3,DE,e4,F9,R40,n1]
theorem w26 (s u:Nat) (hs:s<18446744073709551616) (hu:u<18446744073709551616):Pure Tryz.prog 26 [.agg [.int .u64 s],.agg [.int .u64 u]] (.agg [.int .u64 ((s ||| u:Nat):Int)]):=by
 refine Pure.of fun nx=>AC.go aI is26 (by simp) ?_
 have e4:=bor hs hu
 have n1:(nx+1=nx)=False:=eq_false (by omega)
 have n2:(nx+1+1=nx)=False:=eq_false (by omega)
 have n3:(nx+1+1=nx+1)=False:=eq_false (by omega)
 simp -implicitDefEqProofs only [RA,ae,zp,↓reduceIte,reduceCtorEq,zq,zr,zs,zt,↓aA,↓az,↓au,↓ar,↓ay,↓aw,↓ak,↓aj,↓aC,↓aB,↓aE,↓aD,unA,ne_eq,not_true_eq_false,not_false_eq_true,A26,EY,i01,i02,i03,DE,e4,F9,R26,n1,n2,n3]
theorem w28 (s u:Nat) (hs:s<18446744073709551616) (hu:u<18446744073709551616):Pure Tryz.prog 28 [.agg [.int .u64 s],.agg [.int .u64 u]] (.agg [.int .u64 ((lsN s u:Nat):Int)]):=by
 refine Pure.of fun nx=>AC.go aI is28 (by simp) ?_
 have e4:=bls hs hu
 have n1:(nx+1=nx)=False:=eq_false (by omega)
 have n2:(nx+1+1=nx)=False:=eq_false (by omega)
 have n3:(nx+1+1=nx+1)=False:=eq_false (by omega)
 simp -implicitDefEqProofs only [RA,ae,zp,↓reduceIte,reduceCtorEq,zq,zr,zs,zt,↓aA,↓az,↓au,↓ar,↓ay,↓aw,↓ak,↓aj,↓aC,↓aB,↓aE,↓aD,unA,ne_eq,not_true_eq_false,not_false_eq_true,A28,EW,i01,i02,i03,vZ,e4,F9,R28,n1,n2,n3]
end Go.Proofs.YtkhjclmfbmfahaaGreatDoor
