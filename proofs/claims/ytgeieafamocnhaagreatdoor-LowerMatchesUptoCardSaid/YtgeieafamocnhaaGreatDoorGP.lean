/- Terms: constants, nodes, lookups. -/
import Derived.Test.YtgeieafamocnhaaGreatDoorGO
namespace Go.Proofs.YtgeieafamocnhaaGreatDoor
open List renaming getElem?_eq_getElem → G7, mem_of_getElem? → G8, getElem?_eq_some_iff → G9, take_of_length_le → Ha, length_cons → Hc, length_nil → Hd, length_map → He, length_take → Hf, mem_map → Hg, map_append → Hk, nil_append → Hs, cons_append → HE
open Bool renaming and_eq_true → HR
open Nat renaming le_refl → H4, lt_of_lt_of_le → H5
set_option maxHeartbeats 64000000
open Go Go.Ab Go.Proofs
open Nat renaming reduceEqDiff → zp, reduceAdd → zq, reduceLeDiff → zr, reduceLT → zs, reduceBEq → zt
set_option linter.unusedVariables false
set_option linter.unusedSimpArgs false
set_option maxRecDepth 20000
inductive Tm where
 | mk (kind width bits:Int) (name:Nm) (low:Int) (sub:List Tm)
def Tm.kind:Tm→Int|.mk k _ _ _ _ _=>k
def Tm.width:Tm→Int|.mk _ w _ _ _ _=>w
def Tm.bits:Tm→Int|.mk _ _ b _ _ _=>b
def Tm.name:Tm→Nm|.mk _ _ _ n _ _=>n
def Tm.low:Tm→Int|.mk _ _ _ _ l _=>l
def Tm.sub:Tm→List Tm|.mk _ _ _ _ _ s=>s
mutual
def tmE:Tm→List AV
 | .mk k w b n l s=>[.int .u8 k,.int .i64 w,.int .u64 b,.str n,.int .i64 l,.lst 6 (us s)]
def us:List Tm→List (List AV)
 | []=>[]
 | x::r=>tmE x::us r
end
theorem pY:∀ l:List Tm,us l=l.map tmE
 | []=>by simp [us]
 | x::r=>by simp [us,pY r]
def cg (l:List Tm):AV:=.lst 6 (l.map tmE)
theorem cT (x:Tm):tmE x=[.int .u8 x.kind,.int .i64 x.width,.int .u64 x.bits,.str x.name,.int .i64 x.low,cg x.sub]:=by
 cases x;simp [tmE,Tm.kind,Tm.width,Tm.bits,Tm.name,Tm.low,Tm.sub,cg,pY]
theorem tg (l:List Tm):dt (cg l)=some l.length:=by simp [cg,dP]
theorem lE {l:List Tm} {n:Nat} {r:Tm} (h:l[n]?=some r):idxA 6 (cg l) (n:Int)=some (.fp (tmE r)):=cY h
theorem aV (x:Tm):(tmE x).length=6:=by rw [cT];rfl
theorem aQ (x:Tm):(tmE x).take 6=tmE x:=Ha (by rw [aV];omega)
theorem gv (l:List Tm):∀ z∈l.map tmE,z.length=6:=fun z hz=>by
 obtain ⟨r,_,rfl⟩:=Hg.1 hz;exact aV r
def dF (w b:Int):Tm:=.mk 1 w b [] 0 []
def fY (k w:Int) (s:List Tm):Tm:=.mk k w 0 [] 0 s
theorem wE (w b:Int):tmE (dF w b)=[.int .u8 1,.int .i64 w,.int .u64 b,.str [],.int .i64 0,.lst 6 []]:=by simp [dF,tmE,us]
theorem oF (k w:Int) (s:List Tm):tmE (fY k w s)=[.int .u8 k,.int .i64 w,.int .u64 0,.str [],.int .i64 0,cg s]:=by rw [cT];rfl
def unE (p:Pr) (q:List Int) (vs:List (List Pm)):List AV:=[bU p.arrays,bR p.funcs,cP q,.lst 1 (vs.map fun l=>[bw l])]
def mkr (p:Pr) (v:AV) (nm:Nm) (ps:AV) (rs:Int) (bo out:AV) (op:Int) (ex:AV):List AV:=[bU p.arrays,bR p.funcs,v,.str nm,ps,.int .i64 rs,bo,out,.int .i64 op,ex]
def vaI (l:List Pm) (n:Nm):Int:=fi (fun v=>v.1==n) l 0
theorem DD {l:List Pm} {n:Nm} (h:¬ kw l n=0):∃ (j:Nat) (v:Pm),vaI l n=(j:Int)∧l[j]?=some v∧v.2=kw l n:=by
 have key:∀ (l:List Pm) (i:Nat),¬ kw l n=0→∃ (j:Nat) (v:Pm),fi (fun v:Pm=>v.1==n) l i=((i+j:Nat):Int)∧l[j]?=some v∧v.2=kw l n:=by
  intro l
  induction l with
  | nil=>intro i h;exact absurd rfl h
  | cons a r ih =>
   intro i h
   rw [kw] at h ⊢
   rw [fi]
   by_cases ha:(a.1==n)=true
   ·rw [if_pos ha];exact ⟨0,a,by simp [ha],rfl,by rw [if_pos ha]⟩
   ·rw [if_neg ha] at h
    obtain ⟨j,v,e1,e2,e3⟩:=ih (i+1) h
    rw [if_neg (by simpa using ha),if_neg ha]
    exact ⟨j+1,v,by rw [e1];omega,by simpa using e2,e3⟩
 obtain ⟨j,v,e1,e2,e3⟩:=key l 0 h
 exact ⟨j,v,by rw [vaI,e1];omega,e2,e3⟩
theorem Aw (h:Heap) (w b:Int):jM h [.int .u8 1,.int .i64 w,.int .u64 b,.str [],.int .i64 0,.nilS] h [.int .u8 1,.int .i64 w,.int .u64 b,.str [],.int .i64 0,.lst 6 []] :=
 .keep rfl (.keep rfl (.keep rfl (.keep rfl (.keep rfl (.cons (.nilS _ 6) rfl (.nil _))))))
theorem w41 (w b:Int):Pure Tryz.prog 41 [.int .i64 w,.int .u64 b] (.agg (tmE (dF w b))):=by
 refine Pure.frz fun nx=>AC.go aj is41 (by simp) ?_
 rw [wE]
 simp -implicitDefEqProofs only [RA,aa,zp,↓reduceIte,reduceCtorEq,zq,zr,zs,zt,A41,F2,R41]
 exact ⟨_,_,rfl,Frz.agg (Aw _ w b)⟩
theorem w50 (w b:Int):Pure Tryz.prog 50 [.int .i64 w,.int .u64 b] (.agg (tmE (dF w b))):=by
 refine Pure.frz fun nx=>AC.go aj is50 (by simp) ?_
 rw [wE]
 simp -implicitDefEqProofs only [RA,aa,zp,↓reduceIte,reduceCtorEq,zq,zr,zs,zt,A50,FU,R50]
 exact ⟨_,_,rfl,Frz.agg (Aw _ w b)⟩
theorem cw (l:List Tm):cellsOf (cg l)=[cg l]:=rfl
theorem cu (l:List Tm):(cg l).plain=true:=rfl
theorem w43 (k w:Int) (s:List Tm):Pure Tryz.prog 43 [.int .u8 k,.int .i64 w,cg s] (.agg (tmE (fY k w s))):=by
 refine Pure.of fun nx=>AC.go aj is43 (by simp) ?_
 rw [oF]
 simp -implicitDefEqProofs only [RA,aa,zp,↓reduceIte,reduceCtorEq,zq,zr,zs,zt,A43,F0,↓cw,↓cu,R43]
theorem w52 (k w:Int) (s:List Tm):Pure Tryz.prog 52 [.int .u8 k,.int .i64 w,cg s] (.agg (tmE (fY k w s))):=by
 refine Pure.of fun nx=>AC.go aj is52 (by simp) ?_
 rw [oF]
 simp -implicitDefEqProofs only [RA,aa,zp,↓reduceIte,reduceCtorEq,zq,zr,zs,zt,A52,FS,↓cw,↓cu,R52]
theorem w91 (a:Pm) (n:Nm) (b:Nat) (h:Heap) (nx:Nat) (hb:af h b=some (.cells [.str n])) (hbn:b<nx) :
  AC Tryz.prog 91 [.agg (pmE a),.op b 0] h nx fun y h' n'=>y=.ret (.bool (a.1==n))∧h'=h∧nx≤n':=by
 refine dI (AC.go aj is91 (by simp) ?_)
 have ae:pmE a=[.str a.1,.int .i64 a.2]:=rfl
 have nb:(nx=b)=False:=eq_false (by omega)
 simp -implicitDefEqProofs only [RA,aa,zp,↓reduceIte,reduceCtorEq,zq,zr,zs,zt,A91,Fi,ae,hb,nb,aG,aU,R91]
 intro k o hk ho
 rw [if_neg (by omega)];exact ho
theorem w93 (a:Ar) (n:Nm) (b:Nat) (h:Heap) (nx:Nat) (hb:af h b=some (.cells [.str n])) (hbn:b<nx) :
  AC Tryz.prog 93 [.agg (arE a),.op b 0] h nx fun y h' n'=>y=.ret (.bool (a.name==n))∧h'=h∧nx≤n':=by
 refine dI (AC.go aj is93 (by simp) ?_)
 have ae:=dB a
 have nb:(nx=b)=False:=eq_false (by omega)
 simp -implicitDefEqProofs only [RA,aa,zp,↓reduceIte,reduceCtorEq,zq,zr,zs,zt,A93,Fg,ae,hb,nb,aG,aU,R93]
 intro k o hk ho
 rw [if_neg (by omega)];exact ho
theorem w44 (p:Pr) (q:List Int) (vs:List (List Pm)) (n:Nm) (hl:p.arrays.length≤1000):Pure Tryz.prog 44 [.fp (unE p q vs),.str n] (.int .i64 (arI p n)):=by
 refine Pure.of fun nx=>AC.go aj is44 (by simp) ?_
 unfold unE
 simp -implicitDefEqProofs only [RA,aa,zp,↓reduceIte,reduceCtorEq,zq,zr,zs,zt,A44,FZ]
 refine (w92 (fun a=>a.name==n) p.arrays _ _ (by omega) fun x hx m hm=>w93 x n nx _ m (by simp [af]) (by omega)).mono ?_
 rintro y h' n1 ⟨rfl,rfl,hn1⟩
 have e:fi (fun a=>a.name==n) p.arrays 0=arI p n:=rfl
 simp -implicitDefEqProofs only [RA,aa,zp,↓reduceIte,reduceCtorEq,zq,zr,zs,zt,e,R44]
theorem w42 (p:Pr) (q:List Int) (vs:List (List Pm)) (f:Nat) (kn:List Pm) (n:Nm) (hf:vs[f]?=some kn) (hl:kn.length≤1000000):Pure Tryz.prog 42 [.fp (unE p q vs),.int .i64 f,.str n] (.int .i64 (vaI kn n)):=by
 refine Pure.of fun nx=>AC.go aj is42 (by simp) ?_
 have ix:idxA 1 (.lst 1 (vs.map fun l=>[bw l])) (f:Int)=some (.fp [bw kn]):=cY (f:=fun l=>[bw l]) hf
 unfold unE
 simp -implicitDefEqProofs only [RA,aa,zp,↓reduceIte,reduceCtorEq,zq,zr,zs,zt,A42,F1,ix]
 refine (w90 (fun a=>a.1==n) kn _ _ (by omega) fun x hx m hm=>w91 x n nx _ m (by simp [af]) (by omega)).mono ?_
 rintro y h' n1 ⟨rfl,rfl,hn1⟩
 have e:fi (fun a=>a.1==n) kn 0=vaI kn n:=rfl
 simp -implicitDefEqProofs only [RA,aa,zp,↓reduceIte,reduceCtorEq,zq,zr,zs,zt,e,R42]
theorem qY {a:Ar} (h:wfA a=true):(a.width=8∨a.width=16∨a.width=32)∧1≤a.len∧a.len≤64:=by
 unfold wfA cm at h
 simp only [HR,Bool.or_eq_true,decide_eq_true_eq] at h
 omega
def elT (q:Int) (a:Ar) (t:Tm):Tm:=fY 5 32 [dF 32 q,fY 11 32 [fY 8 32 [t,dF 32 (a.len-1)],dF 32 (a.width / 16)]]
theorem ul {x:Int} (h0:0≤x) (h1:x≤1000000000):IntKind.u64.wrap x=x:=by
 unfold IntKind.wrap;simp only [IntKind.bits,IntKind.signed];simp;omega
theorem w45 (p:Pr) (q:List Int) (vs:List (List Pm)) (n:Nm) (t:Tm) (j:Nat) (a:Ar) (z:Int) (hl:p.arrays.length≤1000) (e1:arI p n=(j:Int)) (hj:p.arrays[j]?=some a) (hq:q[j]?=some z) (ha:wfA a=true) (hz0:0≤z) (hz1:z≤1000000000) :
  Pure Tryz.prog 45 [.fp (unE p q vs),.str n,.agg (tmE t)] (.agg (tmE (elT z a t))):=by
 refine Pure.of fun nx=>AC.go aj is45 (by simp) ?_
 obtain ⟨hw,hl1,hl2⟩:=qY ha
 have tl:=aV t
 have tt:=aQ t
 have c44:=w44 p q vs n hl
 rw [e1] at c44
 have ix:=cO hj
 have ae:=dB a
 have iq:=gC hq
 have ie:inE z=[.int .i64 z]:=rfl
 have f1:IntKind.i64.wrap (a.len-1)=a.len-1:=by rw [w64 (by omega) (by omega)]
 have f2:IntKind.u64.wrap (a.len-1)=a.len-1:=ul (by omega) (by omega)
 have f3:IntKind.u64.wrap z=z:=ul hz0 hz1
 have f4:IntKind.i64.wrap (a.width.tdiv 16)=a.width / 16:=by rcases hw with e|e|e <;> rw [e] <;> rfl
 have f5:IntKind.u64.wrap (a.width / 16)=a.width / 16:=ul (by omega) (by omega)
 unfold unE at c44 ⊢
 simp -implicitDefEqProofs only [RA,aa,zp,↓reduceIte,reduceCtorEq,zq,zr,zs,zt,A45,FY,tl,tt]
 refine c44.use fun n2 hn2=>?_
 have a1:(n2=nx)=False:=eq_false (by omega)
 have a2:(n2=nx+1)=False:=eq_false (by omega)
 have a3:(nx+1=nx)=False:=eq_false (by omega)
 have a4:(nx=n2)=False:=eq_false (by omega)
 simp -implicitDefEqProofs only [RA,aa,zp,↓reduceIte,reduceCtorEq,zq,zr,zs,zt,ix,ae,aV,aQ,f1,f2,a1,a2,a3,a4]
 refine (w41 32 (a.len-1)).use fun n3 hn3=>?_
 intro _
 simp -implicitDefEqProofs only [RA,aa,zp,↓reduceIte,reduceCtorEq,zq,zr,zs,zt,Hs,aV,aQ,a1,a2,a3,a4]
 refine (w43 8 32 [t,dF 32 (a.len-1)]).use fun n4 hn4=>?_
 intro _
 have a5:(n4=n2)=False:=eq_false (by omega)
 have a6:(n4=nx+1)=False:=eq_false (by omega)
 have a7:(n4=nx)=False:=eq_false (by omega)
 simp -implicitDefEqProofs only [RA,aa,zp,↓reduceIte,reduceCtorEq,zq,zr,zs,zt,Hs,aV,aQ,a1,a2,a3,a4,a5,a6,a7,iq,ie,f3,xt _ _ 16 (by decide),f4,f5]
 refine (w41 32 z).use fun n5 hn5=>?_
 simp -implicitDefEqProofs only [RA,aa,zp,↓reduceIte,reduceCtorEq,zq,zr,zs,zt,aV,aQ,a1,a2,a3,a4,a5,a6,a7,f4,f5]
 refine (w41 32 (a.width / 16)).use fun n6 hn6=>?_
 simp -implicitDefEqProofs only [RA,aa,zp,↓reduceIte,reduceCtorEq,zq,zr,zs,zt,aV,aQ,a1,a2,a3,a4,a5,a6,a7]
 refine (w43 11 32 [fY 8 32 [t,dF 32 (a.len-1)],dF 32 (a.width / 16)]).use fun n7 hn7=>?_
 simp -implicitDefEqProofs only [RA,aa,zp,↓reduceIte,reduceCtorEq,zq,zr,zs,zt,aV,aQ,a1,a2,a3,a4,a5,a6,a7]
 refine (w43 5 32 [dF 32 z,fY 11 32 [fY 8 32 [t,dF 32 (a.len-1)],dF 32 (a.width / 16)]]).use fun n8 hn8=>?_
 simp -implicitDefEqProofs only [RA,aa,zp,↓reduceIte,reduceCtorEq,zq,zr,zs,zt,aV,aQ,a1,a2,a3,a4,a5,a6,a7,R45]
 rfl
def up4 (x:Int):Int:=(x+3) / 4*4
def arZ (a:Ar):Int:=a.len*a.width / 8
def plL:Int→List Ar→List Int
 | _,[]=>[]
 | x,a::r=>up4 x::plL (up4 x+arZ a) r
def plN:Int→List Ar→Int
 | x,[]=>x
 | x,a::r=>plN (up4 x+arZ a) r
def plW (p:Pr):List Int:=plL 4096 p.arrays
theorem ou:∀ (l:List Ar) (x:Int) (a:Ar),plL x (l++[a])=plL x l++[up4 (plN x l)]
 | [],x,a=>rfl
 | b::l,x,a=>by simp only [HE,plL,plN,ou l]
theorem ot:∀ (l:List Ar) (x:Int) (a:Ar),plN x (l++[a])=up4 (plN x l)+arZ a
 | [],x,a=>rfl
 | b::l,x,a=>by simp only [HE,plN,ot l]
theorem lI:∀ (l:List Ar) (x:Int),(plL x l).length=l.length
 | [],x=>rfl
 | a::l,x=>by simp only [plL,Hc,lI l]
theorem oX {a:Ar} (h:wfA a=true):0≤arZ a∧arZ a≤256∧a.len*a.width=8*arZ a∧0≤a.len*a.width:=by
 obtain ⟨hw,h1,h2⟩:=qY h
 unfold arZ
 rcases hw with e|e|e <;> rw [e] <;> omega
theorem nV (x:Int):x≤up4 x∧up4 x≤x+3∧up4 x % 4=0:=by unfold up4;omega
theorem rn:∀ (l:List Ar) (x:Int),(∀ a∈l,wfA a=true)→x≤plN x l∧plN x l≤x+260*l.length
 | [],x,_=>by simp [plN]
 | a::l,x,h=>by
  have h1:=rn l (up4 x+arZ a) fun b hb=>h b (List.mem_cons_of_mem _ hb)
  have h2:=oX (h a List.mem_cons_self)
  have h3:=nV x
  simp only [plN,Hc]
  omega
theorem wk:∀ (l:List Ar) (x:Int),(∀ a∈l,wfA a=true)→∀ z∈plL x l,x≤z∧z≤x+260*l.length+3
 | [],x,_,z,hz=>by simp [plL] at hz
 | a::l,x,h,z,hz=>by
  have h2:=oX (h a List.mem_cons_self)
  have h3:=nV x
  simp only [plL,List.mem_cons,Hc] at hz ⊢
  rcases hz with rfl|hz
  ·omega
  ·have h1:=wk l (up4 x+arZ a) (fun b hb=>h b (List.mem_cons_of_mem _ hb)) z hz
   omega
theorem oo {p:Pr} {j:Nat} {a:Ar} (hl:p.arrays.length≤20) (hw:∀ a∈p.arrays,wfA a=true) (hj:p.arrays[j]?=some a):∃ z,(plW p)[j]?=some z∧0≤z∧z≤1000000000:=by
 have hlt:=(G9.1 hj).1
 have hlt2:j<(plW p).length:=by rw [plW,lI];exact hlt
 refine ⟨_,G7 hlt2,?_⟩
 have:=wk p.arrays 4096 hw _ (List.getElem_mem hlt2)
 omega
theorem w26 (p:Pr) (hl:p.arrays.length≤20) (hw:∀ a∈p.arrays,wfA a=true):Pure Tryz.prog 26 [.agg (prE p)] (cP (plW p)):=by
 refine Pure.own (e:=3) (eq _) fun nx=>AC.go aj is26 (by simp) ?_
 rw [ct]
 have la:=eV p.arrays
 simp -implicitDefEqProofs only [RA,aa,zp,↓reduceIte,reduceCtorEq,zq,zr,zs,zt,A26,Gi,la,↓bf,↓bc,↓be,↓ba]
 refine aq (fun q st=>∃ (i:Nat) (z:AV),q=p.arrays.length-i∧i≤p.arrays.length∧ab st.env 1=some (.op nx 0)∧ab st.env 3=some z∧ab st.env 4=some (.int .i64 (plN 4096 (p.arrays.take i)))∧ab st.env 5=some (.int .i64 i)∧af st.heap nx=some (.cells [bU p.arrays,bR p.funcs])∧aF 3 1 st.heap st.nx z ((plL 4096 (p.arrays.take i)).map inE)∧(∀ b,aw z=some b→nx<b)∧nx<st.nx∧st.dm=[]) (n:=p.arrays.length) aj
  ⟨0,.nilS,rfl,by omega,by simp [ab],by simp [ab],by simp [ab,plN],by simp [ab],by simp [af],.inl ⟨rfl,by simp [plL]⟩,by simp [aw],by simp,rfl⟩ ?_
 rintro q ⟨env,heap,nx',dm⟩ ⟨i,z,rfl,hi,g1,g3,g4,g5,gx,ho,hzb,hnx,hdm⟩
 simp only at g1 g3 g4 g5 gx ho hnx hdm
 subst hdm
 have f1:=wS (i:=i) (by omega)
 have hzn:aw z≠some nx:=fun e=>by have:=hzb nx e;omega
 have hwt:∀ a∈p.arrays.take i,wfA a=true:=fun a ha=>hw a (List.mem_of_mem_take ha)
 have hbd:=rn _ 4096 hwt
 have hlt:(p.arrays.take i).length≤p.arrays.length:=by rw [Hf];omega
 generalize hX:plN 4096 (p.arrays.take i)=X at g4 hbd
 by_cases hc:(i:Int)<(p.arrays.length:Int)
 case neg =>
  rw [show p.arrays.take i=p.arrays from Ha (by omega)] at ho
  simp -implicitDefEqProofs only [RA,aa,zp,↓reduceIte,reduceCtorEq,zq,zr,zs,zt,yi,sy,g1,g3,g5,hc,gx,la,R26]
  exact ⟨_,rfl,ho⟩
 have hr:=G7 (show i<p.arrays.length by omega)
 generalize p.arrays[i]=r at hr
 have hu:=nV X
 simp -implicitDefEqProofs only [RA,aa,zp,↓reduceIte,reduceCtorEq,zq,zr,zs,zt,yi,sy,g1,g3,g4,g5,gx,la,hc]
 refine aq (fun q st=>∃ (x:Int),q=(up4 X-x).toNat∧X≤x∧x≤up4 X∧ab st.env 1=some (.op nx 0)∧ab st.env 3=some z∧ab st.env 4=some (.int .i64 x)∧ab st.env 5=some (.int .i64 i)∧st.heap=heap∧st.nx=nx'∧st.dm=[]) (n:=(up4 X-X).toNat) aj
  ⟨X,rfl,by omega,by omega,by simp [ab,g1],by simp [ab,g3],by simp [ab,g4],by simp [ab,g5],rfl,rfl,rfl⟩ ?_
 clear g1 g3 g4 g5
 rintro q ⟨env,heap2,nx2,dm⟩ ⟨x,rfl,hx1,hx2,g1,g3,g4,g5,gh,gn,hdm⟩
 simp only at g1 g3 g4 g5 gh gn hdm
 subst hdm;subst gh;subst gn
 have r1:x.tmod 4=x % 4:=Int.tmod_eq_emod_of_nonneg (by omega)
 rcases ah (x % 4=0) with ⟨d1',d1⟩|⟨d1',d1⟩
 case inr =>
  have f2:IntKind.i64.wrap (x+1)=x+1:=by rw [w64 (by omega) (by omega)]
  simp -implicitDefEqProofs only [RA,aa,zp,↓reduceIte,reduceCtorEq,zq,zr,zs,zt,yj,sA,g1,g3,g4,g5,AJ _ _ 4 (by decide),r1,d1,f2]
  refine ⟨(up4 X-(x+1)).toNat,by omega,x+1,?_⟩
  repeat' apply And.intro
  all_goals first|assumption|rfl|omega|(simp [ab, *];done)
 obtain rfl:x=up4 X:=by unfold up4 at hx2 ⊢;omega
 have ix:=cO hr
 have ae:=dB r
 have hrw:=hw r (G8 hr)
 have hz:=oX hrw
 have t1:IntKind.i64.wrap (r.len*r.width)=r.len*r.width:=by rw [w64 (by omega) (by omega)]
 have t2:IntKind.i64.wrap ((r.len*r.width).tdiv 8)=arZ r:=by rw [Int.tdiv_eq_ediv_of_nonneg (by omega),w64 (by omega) (by omega)];rfl
 have t3:IntKind.i64.wrap (up4 X+arZ r)=up4 X+arZ r:=by rw [w64 (by omega) (by omega)]
 have hpl:=lI (p.arrays.take i) 4096
 obtain ⟨z',h3,n4,ea,ow,hn4,hk3,hb3⟩:=ho.grw (bytes:=8) (ns:=[inE (up4 X)]) (eq _) (by simp [inE]) (by simp only [He,Hc,Hd];omega) (by simp only [He,Hc,Hd,maxLen];omega)
 have ea':eC 3 1 8 heap2 nx2 z (.lst 1 [[.int .i64 (up4 X)]])=some (z',h3,n4):=ea
 have gx2:=hk3 nx _ hnx gx hzn
 simp -implicitDefEqProofs only [RA,aa,zp,↓reduceIte,reduceCtorEq,zq,zr,zs,zt,yj,sA,g1,g3,g4,g5,AJ _ _ 4 (by decide),r1,d1,gx2,ea',ix,ae,xt _ _ 8 (by decide),t1,t2,t3,f1]
 have how:aF 3 1 h3 n4 z' ((plL 4096 (p.arrays.take (i+1))).map inE):=by
  rw [az hr,ou,hX,Hk];exact ow
 have hpn:plN 4096 (p.arrays.take (i+1))=up4 X+arZ r:=by rw [az hr,ot,hX]
 have hzb2:∀ b,aw z'=some b→nx<b:=fun b hb=>by
  rcases hb3 b hb with h|h
  ·omega
  ·exact hzb b h
 refine ⟨p.arrays.length-(i+1),by omega,i+1,z',?_⟩
 rw [hpn]
 repeat' (first|exact how|apply And.intro)
 all_goals first|assumption|rfl|omega|(simp [ab, *];done)
theorem w51 (p:Pr) (v:AV) (nm:Nm) (ps:AV) (rs:Int) (bo out:AV) (op:Int) (ex:AV) (kn:List Pm) (c:Nat) (n:Nm) (h:Heap) (nx:Nat) (gc:af h c=some (.cells (mkr p v nm ps rs bo out op ex))) (hv:Rd h nx v kn) (hl:kn.length≤1000000) :
  AC Tryz.prog 51 [.op c 0,.str n] h nx fun y h' n'=>y=.ret (.int .i64 (kw kn n))∧h'=h∧nx≤n':=by
 refine AC.go aj is51 (by simp) ?_
 have lv:=hv.len
 simp only [mkr] at gc
 simp -implicitDefEqProofs only [RA,aa,zp,↓reduceIte,reduceCtorEq,zq,zr,zs,zt,A51,FT,gc,lv]
 refine aq (fun q st=>∃ i:Nat,q=kn.length-i∧i≤kn.length∧kw kn n=kw (kn.drop i) n∧ab st.env 0=some (.op c 0)∧ab st.env 1=some (.str n)∧ab st.env 5=some (.int .i64 i)∧st.heap=h∧nx≤st.nx∧st.dm=[]) (n:=kn.length) aj
  ⟨0,rfl,by omega,by simp,by simp [ab],by simp [ab],by simp [ab],rfl,by simp,rfl⟩ ?_
 rintro q ⟨env,heap,nx',dm⟩ ⟨i,rfl,hi,hk,g0,g1,g5,gh,hnx,hdm⟩
 simp only at g0 g1 g5 gh hnx hdm
 subst hdm;subst gh
 have f1:=wS (i:=i) (by omega)
 by_cases hc:(i:Int)<(kn.length:Int)
 case neg =>
  have:kn.drop i=[]:=List.drop_of_length_le (by omega)
  rw [this,kw] at hk
  simp -implicitDefEqProofs only [RA,aa,zp,↓reduceIte,reduceCtorEq,zq,zr,zs,zt,tY,po,g0,g5,gc,lv,hc,hk,R51]
  exact hnx
 have hr:=G7 (show i<kn.length by omega)
 generalize kn[i]=r at hr
 obtain ⟨q,q0,q1,r0,r1,i1,i2,i3,i4,i5⟩:=hv.cell hr
 rw [oI hr] at hk
 cases hv:(r.1==n) with
 | true =>
  rw [hv,if_pos rfl] at hk
  simp -implicitDefEqProofs only [RA,aa,zp,↓reduceIte,reduceCtorEq,zq,zr,zs,zt,tY,po,g0,g1,g5,gc,lv,hc,i1,i2,i3,i4,i5,aG,aU,hv,hk,R51]
  exact hnx
 | false =>
  rw [hv,if_neg (by simp)] at hk
  simp -implicitDefEqProofs only [RA,aa,zp,↓reduceIte,reduceCtorEq,zq,zr,zs,zt,tY,po,g0,g1,g5,gc,lv,hc,i1,i2,i3,i4,i5,aG,aU,hv,f1]
  refine ⟨kn.length-(i+1),by omega,i+1,?_⟩
  repeat' apply And.intro
  all_goals first|assumption|rfl|omega|(simp [ab, *];done)
def rsT (t:Tm) (w k:Int):Tm:=if t.width<w then fY k w [t] else if w<t.width then fY 21 w [t] else t
theorem w55 (t:Tm) (w k:Int):Pure Tryz.prog 55 [.agg (tmE t),.int .i64 w,.int .u8 k] (.agg (tmE (rsT t w k))):=by
 refine Pure.of fun nx=>AC.go aj is55 (by simp) ?_
 have n1:(nx+1=nx)=False:=eq_false (by omega)
 rw [cT t]
 unfold rsT
 rcases ah (t.width<w) with ⟨d1',d1⟩|⟨d1',d1⟩
 ·rw [if_pos d1']
  simp -implicitDefEqProofs only [RA,aa,zp,↓reduceIte,reduceCtorEq,zq,zr,zs,zt,A55,Ak,n1,d1,↓cw,↓cu]
  rw [← cT t]
  refine (w52 k w [t]).use fun n2 hn2=>?_
  rw [oF]
  simp -implicitDefEqProofs only [RA,aa,zp,↓reduceIte,reduceCtorEq,zq,zr,zs,zt,n1,↓cw,↓cu,R55]
 rw [if_neg d1']
 rcases ah (w<t.width) with ⟨d2',d2⟩|⟨d2',d2⟩
 ·rw [if_pos d2']
  simp -implicitDefEqProofs only [RA,aa,zp,↓reduceIte,reduceCtorEq,zq,zr,zs,zt,A55,Ak,n1,d1,d2,↓cw,↓cu]
  rw [← cT t]
  refine (w52 21 w [t]).use fun n2 hn2=>?_
  rw [oF]
  simp -implicitDefEqProofs only [RA,aa,zp,↓reduceIte,reduceCtorEq,zq,zr,zs,zt,n1,↓cw,↓cu,R55]
 rw [if_neg d2',cT t]
 simp -implicitDefEqProofs only [RA,aa,zp,↓reduceIte,reduceCtorEq,zq,zr,zs,zt,A55,Ak,n1,d1,d2,↓cw,↓cu,R55]
theorem w36' (p:Pr) (i:Int) (o:OkP p):Pure Tryz.prog 36 [.agg (prE p),.int .i64 i] (.tup [bw (vaW p i).2,.int .i64 (vaW p i).1]) :=
 Pure.frz fun nx=>(w36 p i o [] nx).mono fun y h' n' ⟨vv,e,ho,_,_⟩=>by
  obtain ⟨h2,hf⟩:=ho.frz (jj _)
  exact ⟨_,h2,e,hf.head⟩
theorem w23' (p:Pr) (i:Int) (o:OkP p):Pure Tryz.prog 23 [.agg (prE p),.int .i64 i] (.tup [bw (vaW p i).2,.int .i64 (vaW p i).1]) :=
 Pure.frz fun nx=>(w23 p i o [] nx).mono fun y h' n' ⟨vv,e,ho,_,_⟩=>by
  obtain ⟨h2,hf⟩:=ho.frz (jj _)
  exact ⟨_,h2,e,hf.head⟩
def vsW (p:Pr):List (List Pm):=p.funcs.map fun f=>(fnW p f).2
theorem vL {p:Pr} {j:Nat} {f:Fu} (h:ckE p=0) (hf:p.funcs[j]?=some f):vaW p (j:Int)=(0,(fnW p f).2):=by
 have hlt:=(G9.1 hf).1
 rw [vaW,if_pos h,if_pos (by omega)];simp [hf]
theorem mT {p:Pr} (h:ckE p=0):∀ a∈p.arrays,wfA a=true:=by
 unfold ckE at h
 split at h
 ·omega
 split at h
 ·rename_i hw
  unfold wfR at hw
  simp only [HR] at hw
  exact List.all_eq_true.1 hw.1.1
 ·omega
theorem an3 {x:Int} (h0:0≤x) (h1:x≤1000000000):iD .andNot .i64 x 3=some (x / 4*4):=by
 obtain ⟨m,rfl⟩:=Int.eq_ofNat_of_zero_le h0
 have e:(BitVec.ofInt 64 (m:Int) &&& ~~~(BitVec.ofInt 64 3)).toNat=m / 4*4:=by
  apply Nat.eq_of_testBit_eq
  intro i
  have e4:m / 4*4=m / 2 ^ 2*2 ^ 2:=rfl
  have e3:BitVec.ofInt 64 3=BitVec.ofNat 64 3:=rfl
  rw [BitVec.testBit_toNat,BitVec.ofInt_natCast,e3,e4,Nat.testBit_mul_two_pow,Nat.testBit_div_two_pow]
  simp only [BitVec.getLsbD_and,BitVec.getLsbD_not,BitVec.getLsbD_ofNat]
  have hm:64≤i→m.testBit i=false:=fun h=>Nat.testBit_lt_two_pow (H5 (show m<2 ^ 64 by omega) (Nat.pow_le_pow_right (by omega) h))
  have h3:2≤i→Nat.testBit 3 i=false:=fun h=>Nat.testBit_lt_two_pow (H5 (show 3<2 ^ 2 by omega) (Nat.pow_le_pow_right (by omega) h))
  by_cases h2:2≤i
  ·have:i-2+2=i:=by omega
   by_cases h6:i<64
   ·simp [h2,h6,h3 h2,this]
   ·simp [h2,h6,hm (by omega),this]
  ·have:i=0∨i=1:=by omega
   rcases this with rfl|rfl <;> simp (config:={ decide:=true })
 show some (IntKind.i64.wrap ((BitVec.ofInt 64 (m:Int) &&& ~~~(BitVec.ofInt 64 3)).toNat:Int))=_
 rw [e,w64 (by omega) (by omega)]
 simp
theorem w20e (p:Pr) (o:OkP p) (h:¬ ckE p=0):Pure Tryz.prog 20 [.agg (prE p)] (.tup [.nilP,.int .i64 (ckE p)]):=by
 refine Pure.of fun nx=>AC.go aj DG (by simp) ?_
 have c40:=w40 p o
 have d1:=eq_false h
 rw [ct] at c40 ⊢
 simp -implicitDefEqProofs only [RA,aa,zp,↓reduceIte,reduceCtorEq,zq,zr,zs,zt,A20,CU,↓bf,↓bc,↓be,↓ba]
 refine c40.use fun n2 hn2=>?_
 simp -implicitDefEqProofs only [RA,aa,zp,↓reduceIte,reduceCtorEq,zq,zr,zs,zt,d1,R20]
theorem w20 (p:Pr) (o:OkP p) (h:ckE p=0):Pure Tryz.prog 20 [.agg (prE p)] (.tup [.fp (unE p (plW p) (vsW p)),.int .i64 0]):=by
 refine Pure.frz fun nx=>AC.go aj DG (by simp) ?_
 have c40:=w40 p o
 have oal:=o.al
 have ofl:=o.fl
 have hwa:=mT h
 rw [h] at c40
 have c36:∀ (j:Nat) (f:Fu),p.funcs[j]?=some f→Pure Tryz.prog 36 [.agg [bU p.arrays,bR p.funcs],.int .i64 j] (.tup [bw (fnW p f).2,.int .i64 0]):=fun j f hf=>by
  have:=w36' p j o
  rw [vL h hf,ct] at this;exact this
 rw [ct] at c40 ⊢
 have la:=eV p.arrays
 have lf:=cZ p.funcs
 simp -implicitDefEqProofs only [RA,aa,zp,↓reduceIte,reduceCtorEq,zq,zr,zs,zt,A20,CU,la,lf,↓bf,↓bc,↓be,↓ba]
 refine c40.use fun n2 hn2=>?_
 have nn:(n2=nx)=False:=eq_false (by omega)
 have nn':(nx=n2)=False:=eq_false (by omega)
 simp -implicitDefEqProofs only [RA,aa,zp,↓reduceIte,reduceCtorEq,zq,zr,zs,zt,la,lf,nn,nn',↓bf,↓bc,↓be,↓ba]
 refine aq (fun q st=>∃ (i:Nat) (z:AV),q=p.arrays.length-i∧i≤p.arrays.length∧ab st.env 1=some (.op nx 0)∧ab st.env 5=some (.op n2 0)∧ab st.env 6=some (.int .i64 (plN 4096 (p.arrays.take i)))∧ab st.env 21=some (bU p.arrays)∧ab st.env 22=some (.int .i64 p.arrays.length)∧ab st.env 23=some (.int .i64 i)∧af st.heap nx=some (.cells [bU p.arrays,bR p.funcs])∧af st.heap n2=some (.cells [bU p.arrays,bR p.funcs,z,.nilS])∧aF 3 1 st.heap st.nx z ((plL 4096 (p.arrays.take i)).map inE)∧(∀ b,aw z=some b→n2<b)∧n2<st.nx∧st.dm=[]) (n:=p.arrays.length) aj
  ⟨0,.nilS,rfl,by omega,by simp [ab],by simp [ab],by simp [ab,plN],by simp [ab],by simp [ab],by simp [ab],by simp [af,nn],by simp [af],.inl ⟨rfl,by simp [plL]⟩,by simp [aw],by simp,rfl⟩ ?_
 rintro q ⟨env,heap,nx',dm⟩ ⟨i,z,rfl,hi,g1,g5,g6,g21,g22,g23,gx,gc,ho,hzb,hnx,hdm⟩
 simp only at g1 g5 g6 g21 g22 g23 gx gc ho hnx hdm
 subst hdm
 have f1:=wS (i:=i) (by omega)
 by_cases hc:(i:Int)<(p.arrays.length:Int)
 case pos =>
  have hr:=G7 (show i<p.arrays.length by omega)
  generalize p.arrays[i]=r at hr
  have ix:=cO hr
  have ae:=dB r
  have a1:(nx'=nx)=False:=eq_false (by omega)
  have a2:(nx'=n2)=False:=eq_false (by omega)
  have hwt:∀ a∈p.arrays.take i,wfA a=true:=fun a ha=>hwa a (List.mem_of_mem_take ha)
  have hbd:=rn _ 4096 hwt
  have hlt:(p.arrays.take i).length≤p.arrays.length:=by rw [Hf];omega
  generalize hX:plN 4096 (p.arrays.take i)=X at g6 hbd
  have hu:=nV X
  have hz:=oX (hwa r (G8 hr))
  have t0:IntKind.i64.wrap (X+3)=X+3:=by rw [w64 (by omega) (by omega)]
  have t4:iD .andNot .i64 (X+3) 3=some (up4 X):=an3 (by omega) (by omega)
  have t1:IntKind.i64.wrap (r.len*r.width)=r.len*r.width:=by rw [w64 (by omega) (by omega)]
  have t2:IntKind.i64.wrap ((r.len*r.width).tdiv 8)=arZ r:=by rw [Int.tdiv_eq_ediv_of_nonneg (by omega),w64 (by omega) (by omega)];rfl
  have t3:IntKind.i64.wrap (up4 X+arZ r)=up4 X+arZ r:=by rw [w64 (by omega) (by omega)]
  have hpl:=lI (p.arrays.take i) 4096
  have gk2:∀ b o,b<nx'→af heap b=some o→af ((nx',AO.cells [.str r.name,.int .i64 r.width,.int .i64 r.len])::(nx',.cells [.str [],.int .i64 0,.int .i64 0])::heap) b=some o:=fun b o hb ho=>by rw [ai,if_neg (by omega),ai,if_neg (by omega)];exact ho
  have ho2:aF 3 1 ((nx',AO.cells [.str r.name,.int .i64 r.width,.int .i64 r.len])::(nx',.cells [.str [],.int .i64 0,.int .i64 0])::heap) (nx'+1) z ((plL 4096 (p.arrays.take i)).map inE):=ho.keep (by omega) fun b o hb hg=>gk2 b o (ho.blk hb).2.2 hg
  obtain ⟨z',h3,n4,ea,ow,hn4,hk3,hb3⟩:=ho2.grw (bytes:=8) (ns:=[inE (up4 X)]) (eq _) (by simp [inE]) (by simp only [He,Hc,Hd];omega) (by simp only [He,Hc,Hd,maxLen];omega)
  have ea':eC 3 1 8 ((nx',AO.cells [.str r.name,.int .i64 r.width,.int .i64 r.len])::(nx',.cells [.str [],.int .i64 0,.int .i64 0])::heap) (nx'+1) z (.lst 1 [[.int .i64 (up4 X)]])=some (z',h3,n4):=ea
  have hz1:aw z≠some nx:=fun e=>by have:=hzb nx e;omega
  have hz2:aw z≠some n2:=fun e=>by have:=hzb n2 e;omega
  have hz3:aw z≠some nx':=fun e=>by have:=(ho.blk e).2.2;omega
  have gx3:=hk3 nx _ (by omega) (gk2 nx _ (by omega) gx) hz1
  have gc3:=hk3 n2 _ (by omega) (gk2 n2 _ (by omega) gc) hz2
  have gr3:=hk3 nx' (AO.cells [.str r.name,.int .i64 r.width,.int .i64 r.len]) (by omega) (by simp [af]) hz3
  have hzb2:∀ b,aw z'=some b→n2<b:=fun b hb=>by
   rcases hb3 b hb with h|h
   ·omega
   ·exact hzb b h
  have how:aF 3 1 ((n2,.cells [bU p.arrays,bR p.funcs,z',.nilS])::h3) n4 z' ((plL 4096 (p.arrays.take (i+1))).map inE):=by
   rw [az hr,ou,hX,Hk]
   exact ow.keep (H4 _) fun b o hb hg=>by have:=hzb2 b hb;rw [ai,if_neg (by omega)];exact hg
  have hpn:plN 4096 (p.arrays.take (i+1))=up4 X+arZ r:=by rw [az hr,ot,hX]
  obtain ⟨q1,q2⟩:=bE ow
  have a3:(n2=nx')=False:=eq_false (by omega)
  simp -implicitDefEqProofs only [RA,aa,zp,↓reduceIte,reduceCtorEq,zq,zr,zs,zt,yu,sI,g1,g5,g6,g21,g22,g23,gx,gc,hc,ix,ae,a1,a2,t0,xu,t4,Option.map_some,ea',gc3,gr3,gx3,t1,xt _ _ 8 (by decide),t2,t3,f1,q1,q2,a3,nn]
  refine ⟨p.arrays.length-(i+1),by omega,i+1,z',?_⟩
  rw [hpn]
  repeat' (first|exact how|apply And.intro)
  all_goals first|assumption|rfl|omega|(simp [ab, *];done)
 rw [show p.arrays.take i=p.arrays from Ha (by omega)] at ho
 have ho1:aF 3 1 heap nx' z ((plW p).map inE):=ho
 simp -implicitDefEqProofs only [RA,aa,zp,↓reduceIte,reduceCtorEq,zq,zr,zs,zt,yu,sI,g1,g5,g22,g23,gx,gc,hc,la,lf]
 obtain ⟨B,hB⟩:∃ B,B=nx':=⟨_,rfl⟩
 have hzB:∀ b,aw z=some b→b<B:=fun b hb=>by rw [hB];exact (ho1.blk hb).2.2
 refine aq (fun q st=>∃ (i:Nat) (y:AV),q=p.funcs.length-i∧i≤p.funcs.length∧ab st.env 1=some (.op nx 0)∧ab st.env 5=some (.op n2 0)∧ab st.env 50=some (bR p.funcs)∧ab st.env 51=some (.int .i64 p.funcs.length)∧ab st.env 52=some (.int .i64 i)∧af st.heap nx=some (.cells [bU p.arrays,bR p.funcs])∧af st.heap n2=some (.cells [bU p.arrays,bR p.funcs,z,y])∧aF 3 1 st.heap st.nx z ((plW p).map inE)∧aF 59 1 st.heap st.nx y ((p.funcs.take i).map fun f=>[bw (fnW p f).2])∧(∀ b,aw y=some b→B≤b)∧B≤st.nx∧st.dm=[]) (n:=p.funcs.length) aj
  ⟨0,.nilS,rfl,by omega,by simp [ab,g1],by simp [ab,g5],by simp [ab],by simp [ab],by simp [ab],gx,gc,ho1,.inl ⟨rfl,by simp⟩,by simp [aw],by simp [hB],rfl⟩ ?_
 clear g1 g5 g6 g21 g22 g23 gx gc ho ho1 hc f1 hi i
 rintro q ⟨env,heap,nx1,dm⟩ ⟨i,y,rfl,hi,g1,g5,g50,g51,g52,gx,gc,ho,hoy,hyb,hnx1,hdm⟩
 simp only at g1 g5 g50 g51 g52 gx gc ho hoy hnx1 hdm
 subst hdm
 have f1:=wS (i:=i) (by omega)
 by_cases hc:(i:Int)<(p.funcs.length:Int)
 case pos =>
  have hr:=G7 (show i<p.funcs.length by omega)
  generalize p.funcs[i]=r at hr
  simp -implicitDefEqProofs only [RA,aa,zp,↓reduceIte,reduceCtorEq,zq,zr,zs,zt,yr,sH,g1,g5,g50,g51,g52,gx,gc,hc]
  refine (c36 i r hr).use fun n3 hn3=>?_
  have hlt:(p.funcs.take i).length≤p.funcs.length:=by rw [Hf];omega
  have hll:∀ z∈(p.funcs.take i).map (fun f=>[bw (fnW p f).2]),z.length=1:=fun z hz=>by
   obtain ⟨r,_,rfl⟩:=Hg.1 hz;rfl
  obtain ⟨y',h3,n4,ea,ow,hn4,hk3,hb3⟩:=(hoy.mono hn3).grw (bytes:=24) (ns:=[[bw (fnW p r).2]]) hll (by simp) (by simp only [He,Hc,Hd];omega) (by simp only [He,Hc,Hd,maxLen];omega)
  have hy1:aw y≠some nx:=fun e=>by have:=hyb nx e;omega
  have hy2:aw y≠some n2:=fun e=>by have:=hyb n2 e;omega
  have gx3:=hk3 nx _ (by omega) gx hy1
  have gc3:=hk3 n2 _ (by omega) gc hy2
  obtain ⟨q1,q2⟩:=bE ow
  have hyb2:∀ b,aw y'=some b→B≤b:=fun b hb=>by
   rcases hb3 b hb with h|h
   ·omega
   ·exact hyb b h
  have how:aF 59 1 ((n2,.cells [bU p.arrays,bR p.funcs,z,y'])::h3) n4 y' ((p.funcs.take (i+1)).map fun f=>[bw (fnW p f).2]):=by
   rw [az hr,Hk]
   exact ow.keep (H4 _) fun b o hb hg=>by have:=hyb2 b hb;rw [ai,if_neg (by omega)];exact hg
  have hoz:aF 3 1 ((n2,.cells [bU p.arrays,bR p.funcs,z,y'])::h3) n4 z ((plW p).map inE):=ho.keep (by omega) fun b o hb hg=>by
   have h1:=hzB b hb
   have h2:=hzb b hb
   rw [ai,if_neg (by omega)]
   exact hk3 b o (by omega) hg fun e=>by have:=hyb b e;omega
  simp -implicitDefEqProofs only [RA,aa,zp,↓reduceIte,reduceCtorEq,zq,zr,zs,zt,g1,g5,g50,g51,g52,gx,gc,↓aY,↓aX,ea,gc3,gx3,f1,q1,q2,nn]
  refine ⟨p.funcs.length-(i+1),by omega,i+1,y',?_⟩
  repeat' (first|exact how|exact hoz|apply And.intro)
  all_goals first|assumption|rfl|omega|(simp [ab, *];done)
 rw [show p.funcs.take i=p.funcs from Ha (by omega)] at hoy
 simp -implicitDefEqProofs only [RA,aa,zp,↓reduceIte,reduceCtorEq,zq,zr,zs,zt,yr,sH,g1,g5,g51,g52,hc,R20]
 have hvs:(p.funcs.map fun f=>[bw (fnW p f).2])=(vsW p).map fun l=>[bw l]:=by simp [vsW]
 rw [hvs] at hoy
 have hlv:∀ z∈(vsW p).map (fun l=>[bw l]),z.length=1:=fun z hz=>by
  obtain ⟨r,_,rfl⟩:=Hg.1 hz;rfl
 have oz:aF 3 1 (dZ heap n2) nx1 z ((plW p).map inE):=ho.keep (H4 _) fun b o hb hg=>by have:=hzb b hb;rw [bY,if_neg (by omega)];exact hg
 have oy:aF 59 1 (dZ heap n2) nx1 y ((vsW p).map fun l=>[bw l]):=hoy.keep (H4 _) fun b o hb hg=>by have:=hyb b hb;rw [bY,if_neg (by omega)];exact hg
 obtain ⟨h1,fz1,k1⟩:=oz.frz2 (eq _)
 have oy1:aF 59 1 h1 nx1 y ((vsW p).map fun l=>[bw l]):=oy.keep (H4 _) fun b o hb hg=>k1 b o hg fun x e=>by
  have:=hyb b hb
  have:=hzB b (by rw [e];rfl)
  omega
 obtain ⟨h2,fz2⟩:=oy1.frz hlv
 exact ⟨_,h2,rfl,Frz.head (Frz.pt gc (.keep rfl (.keep rfl (.cons fz1 rfl (.cons fz2 rfl (.nil _))))))⟩
end Go.Proofs.YtgeieafamocnhaaGreatDoor
