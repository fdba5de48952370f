/- The term of an expression. -/
import Derived.Test.YtgeieafamocnhaaGreatDoorGP
namespace Go.Proofs.YtgeieafamocnhaaGreatDoor
open List renaming getElem?_eq_getElem → G7, mem_of_getElem? → G8, take_of_length_le → Ha, length_cons → Hc, length_nil → Hd, length_map → He, length_take → Hf, map_append → Hk, mem_cons → Hl, length_eq_one_iff → Hq, nil_append → Hs
open Int renaming reduceEq → Ie, reduceAdd → Ik, reduceSub → Il
set_option maxHeartbeats 64000000
open Go Go.Ab Go.Proofs
open Nat renaming reduceEqDiff → zp, reduceAdd → zq, reduceLeDiff → zr, reduceLT → zs, reduceBEq → zt
set_option linter.unusedVariables false
set_option linter.unusedSimpArgs false
set_option maxRecDepth 20000
def hdT (l:List Tm):Tm:=l.headD (dF 0 0)
def vr (p:Pr) (n:Nm):Ar:=(p.arrays[(arI p n).toNat]?).getD ⟨[],0,0⟩
def uJ (p:Pr) (n:Nm):Int:=((plW p)[(arI p n).toNat]?).getD 0
def vi (p:Pr) (kn:List Pm) (k w b:Int) (n:Nm) (op:Int) (l:List Tm):Tm :=
 if k=1 then dF w b
 else if k=2 then .mk 2 (kw kn n) 0 n 0 []
 else if k=3 then fY 24 (arW p n) [elT (uJ p n) (vr p n) (hdT l)]
 else if k=4 then fY 4 (hdT l).width l
 else if k=5 then fY 3 (hdT l).width l
 else if k=6 then fY op (if 16≤op then 1 else (hdT l).width) l
 else if k=7 then rsT (hdT l) w 22
 else rsT (hdT l) w 23
mutual
def exT (p:Pr) (kn:List Pm):Ex→Tm
 | .mk k w b n op s=>vi p kn k w b n op (xi p kn s)
def xi (p:Pr) (kn:List Pm):List Ex→List Tm
 | []=>[]
 | x::r=>exT p kn x::xi p kn r
end
theorem kb (p:Pr) (kn:List Pm):∀ l,xi p kn l=l.map (exT p kn)
 | []=>by simp [xi]
 | x::r=>by simp [xi,kb p kn r]
theorem nS {k w b:Int} {n:Nm} {op:Int} {s:List Ex} (h:wfE (.mk k w b n op s)=true):(k=1∨k=2∨k=3∨k=4∨k=5∨k=6∨k=7∨k=8)∧(k=7∨k=8→s.length=1)∧s.length≤2:=by
 rw [bZ,Bool.and_eq_true] at h
 have h1:=h.1
 unfold wfN at h1
 by_cases c1:k=1
 ·subst c1;simp at h1;obtain ⟨_,rfl⟩:=h1;simp
 by_cases c2:k=2
 ·subst c2;simp at h1;obtain ⟨_,rfl⟩:=h1;simp
 by_cases c3:k=3
 ·subst c3;simp at h1;omega
 by_cases c4:k=4
 ·subst c4;simp at h1;omega
 by_cases c5:k=5
 ·subst c5;simp at h1;omega
 by_cases c6:k=6
 ·subst c6;simp at h1;omega
 by_cases c7:k=7
 ·subst c7;simp at h1;omega
 by_cases c8:k=8
 ·subst c8;simp at h1;omega
 simp [c1,c2,c3,c4,c5,c6,c7,c8] at h1
theorem lO {p:Pr} {kn:List Pm} {k w b:Int} {n:Nm} {op:Int} {s:List Ex} (h:(exW p kn (.mk k w b n op s)).1=0):(∀ x∈s,(exW p kn x).1=0)∧(exK p kn k w n op (a9 p kn s).2).1=0:=by
 rw [exW] at h
 split at h
 ·rename_i h0
  refine ⟨?_,h⟩
  have key:∀ l:List Ex,(a9 p kn l).1=0→∀ x∈l,(exW p kn x).1=0:=by
   intro l
   induction l with
   | nil=>intro _ x hx;simp at hx
   | cons a r ih =>
    intro h x hx
    rw [a9] at h
    split at h
    ·rename_i h2
     rcases Hl.1 hx with rfl|hx
     ·exact h2
     ·exact ih h x hx
    ·rename_i h2;exact absurd h h2
  exact key s h0
 ·rename_i h0;exact absurd h h0
theorem Eu {p:Pr} {kn:List Pm} {w b:Int} {n:Nm} {op:Int} {s:List Ex} (h:(exW p kn (.mk 2 w b n op s)).1=0):¬ kw kn n=0:=fun e=>by
 have:=(lO h).2
 unfold exK at this
 rw [if_pos rfl,if_pos e] at this
 cases this
theorem AF {p:Pr} {kn:List Pm} {w b:Int} {n:Nm} {op:Int} {s:List Ex} (h:(exW p kn (.mk 3 w b n op s)).1=0):¬ arI p n<0:=fun e=>by
 have:=(lO h).2
 unfold exK at this
 rw [if_neg (by omega),if_pos rfl,if_pos e] at this
 cases this
theorem lT {p:Pr} {n:Nm} {j:Nat} {a:Ar} (e1:arI p n=(j:Int)) (hj:p.arrays[j]?=some a):vr p n=a:=by rw [vr,e1];simp [hj]
theorem lJ {p:Pr} {n:Nm} {j:Nat} {z:Int} (e1:arI p n=(j:Int)) (hj:(plW p)[j]?=some z):uJ p n=z:=by rw [uJ,e1];simp [hj]
theorem As (h:Heap) (w:Int) (n:Nm):jM h [.int .u8 2,.int .i64 w,.int .u64 0,.str n,.int .i64 0,.nilS] h (tmE (.mk 2 w 0 n 0 [])):=by
 rw [cT]
 exact .keep rfl (.keep rfl (.keep rfl (.keep rfl (.keep rfl (.cons (.nilS _ 6) rfl (.nil _))))))
theorem ek (t:Tm) (l:List Tm):idxA 6 (cg (t::l)) 0=some (.fp [.int .u8 t.kind,.int .i64 t.width,.int .u64 t.bits,.str t.name,.int .i64 t.low,cg t.sub]):=by
 rw [← cT];exact lE (l:=t::l) (n:=0) rfl
theorem nW (t u:Tm) (l:List Tm):idxA 6 (cg (t::u::l)) 1=some (.fp [.int .u8 u.kind,.int .i64 u.width,.int .u64 u.bits,.str u.name,.int .i64 u.low,cg u.sub]):=by
 rw [← cT];exact lE (l:=t::u::l) (n:=1) rfl
theorem w21 (p:Pr) (o:OkP p) (hck:ckE p=0) (f:Nat) (kn:List Pm) (hf:(vsW p)[f]?=some kn) (hl:kn.length≤1000000):∀ (m:Nat) (x:Ex),bM x≤m→bM x≤1000000→wfE x=true→(exW p kn x).1=0 →
  Pure Tryz.prog 21 [.fp (unE p (plW p) (vsW p)),.int .i64 f,.agg (exE x)] (.agg (tmE (exT p kn x))):=by
 intro m
 induction m with
 | zero=>intro x hx;have:=cV x;omega
 | succ m ih =>
  rintro ⟨k,w,b,n,op,s⟩ hm hB hwf hex
  obtain ⟨hk,hsl7,hs2⟩:=nS hwf
  have hsl:=nR hwf
  have hsub:=mc hwf
  have hes:=(lO hex).1
  simp only [bM] at hm hB
  have hlen:=aE s
  have oal:=o.al
  refine Pure.frz fun nx=>AC.go aj is21 (by simp) ?_
  have lv:=aP s
  rw [dE]
  have n1:(nx+1=nx)=False:=eq_false (by omega)
  simp -implicitDefEqProofs only [RA,aa,zp,↓reduceIte,reduceCtorEq,zq,zr,zs,zt,A21,Gm,lv,n1,↓aT,↓aS]
  refine fq (fun q st=>∃ (i:Nat) (z:AV),q=s.length-i∧i≤s.length∧ab st.env 0=some (.fp (unE p (plW p) (vsW p)))∧ab st.env 1=some (.int .i64 f)∧ab st.env 5=some (.op nx 0)∧ab st.env 6=some (.op (nx+1) 0)∧ab st.env 7=some z∧ab st.env 12=some (aR s)∧ab st.env 13=some (.int .i64 s.length)∧ab st.env 14=some (.int .i64 i)∧aF 34 6 st.heap st.nx z (((s.take i).map (exT p kn)).map tmE)∧(∀ b,aw z=some b→nx+1<b)∧af st.heap nx=some (.cells [.int .u8 k,.int .i64 w,.int .u64 b,.str n,.int .u8 op,aR s])∧af st.heap (nx+1)=some (.cells [.int .u8 0,.int .i64 0,.int .u64 0,.str [],.int .i64 0,.nilS])∧nx+1<st.nx∧st.dm=[]) 0
   (fun st=>∃ (z:AV),ab st.env 0=some (.fp (unE p (plW p) (vsW p)))∧ab st.env 1=some (.int .i64 f)∧ab st.env 5=some (.op nx 0)∧ab st.env 6=some (.op (nx+1) 0)∧ab st.env 7=some z∧aF 34 6 st.heap st.nx z ((s.map (exT p kn)).map tmE)∧(∀ b,aw z=some b→nx+1<b)∧af st.heap nx=some (.cells [.int .u8 k,.int .i64 w,.int .u64 b,.str n,.int .u8 op,aR s])∧af st.heap (nx+1)=some (.cells [.int .u8 0,.int .i64 0,.int .u64 0,.str [],.int .i64 0,.nilS])∧nx+1<st.nx∧st.dm=[]) (n:=s.length) aj
   ⟨0,.nilS,rfl,by omega,by simp [ab],by simp [ab],by simp [ab],by simp [ab],by simp [ab],by simp [ab],by simp [ab],by simp [ab],.inl ⟨rfl,by simp⟩,by simp [aw],by simp [af],by simp [af],by simp,rfl⟩ ?_ ?_
  ·rintro q ⟨env,heap,nx',dm⟩ ⟨i,z,rfl,hi,g0,g1,g5,g6,g7,g12,g13,g14,ho,hzb,gx,gt,hnx,hdm⟩
   simp only at g0 g1 g5 g6 g7 g12 g13 g14 ho gx gt hnx hdm
   subst hdm
   have f1:=wS (i:=i) (by omega)
   by_cases hc:(i:Int)<(s.length:Int)
   case pos =>
    have hr:=G7 (show i<s.length by omega)
    generalize s[i]=r at hr
    have ix:=bA hr
    have hmem:=G8 hr
    have m1:=bL hmem
    have rl:=bI r
    have rt:=bC r
    have nn:(nx'=nx)=False:=eq_false (by omega)
    have nn1:(nx'=nx+1)=False:=eq_false (by omega)
    rw [eT] at ix
    simp -implicitDefEqProofs only [RA,aa,zp,↓reduceIte,reduceCtorEq,zq,zr,zs,zt,cr,cL,cM,cN,yq,sG,g0,g1,g5,g6,g7,g12,g13,g14,hc,ix]
    rw [← eT]
    refine (ih r (by omega) (by omega) (hsub r hmem) (hes r hmem)).use fun n3 hn3=>?_
    have gk2:∀ b o,b<nx'→af heap b=some o→af ((nx',AO.cells (exE r))::(nx',.cells [.int .u8 0,.int .i64 0,.int .u64 0,.str [],.int .u8 0,.nilS])::heap) b=some o:=fun b o hb ho=>by rw [ai,if_neg (by omega),ai,if_neg (by omega)];exact ho
    have ho2:aF 34 6 ((nx',AO.cells (exE r))::(nx',.cells [.int .u8 0,.int .i64 0,.int .u64 0,.str [],.int .u8 0,.nilS])::heap) n3 z (((s.take i).map (exT p kn)).map tmE):=ho.keep (by omega) fun b o hb hg=>gk2 b o (ho.blk hb).2.2 hg
    have hlt:(s.take i).length≤s.length:=by rw [Hf];omega
    obtain ⟨z',h3,n4,ea,ow,hn4,hk3,hb3⟩:=ho2.grw (bytes:=72) (ns:=[tmE (exT p kn r)]) (gv _) (by simp [aV]) (by simp only [He,Hc,Hd];omega) (by simp only [He,Hc,Hd,maxLen];omega)
    have hz1:aw z≠some nx:=fun e=>by have:=hzb nx e;omega
    have hz2:aw z≠some (nx+1):=fun e=>by have:=hzb _ e;omega
    have gx3:=hk3 nx _ (by omega) (gk2 nx _ (by omega) gx) hz1
    have gt3:=hk3 (nx+1) _ (by omega) (gk2 _ _ (by omega) gt) hz2
    simp -implicitDefEqProofs only [RA,aa,zp,↓reduceIte,reduceCtorEq,zq,zr,zs,zt,cr,cL,cM,cN,g0,g1,g5,g6,g7,g12,g13,g14,aV,aQ,ea,f1]
    have how:aF 34 6 h3 n4 z' (((s.take (i+1)).map (exT p kn)).map tmE):=by
     rw [az hr,Hk,Hk];exact ow
    have hzb2:∀ b,aw z'=some b→nx+1<b:=fun b hb=>by
     rcases hb3 b hb with h|h
     ·omega
     ·exact hzb b h
    refine ⟨s.length-(i+1),by omega,i+1,z',?_⟩
    repeat' (first|exact how|apply And.intro)
    all_goals first|assumption|rfl|omega|(simp [ab, *];done)
   rw [show s.take i=s from Ha (by omega)] at ho
   simp -implicitDefEqProofs only [RA,aa,zp,↓reduceIte,reduceCtorEq,zq,zr,zs,zt,cr,cL,cM,cN,yq,sG,g0,g1,g5,g6,g7,g13,g14,hc]
   repeat' (first|exact ho|apply And.intro)
   all_goals first|assumption|rfl|omega|(simp [ab, *];done)
  rintro ⟨env,hp0,nx',dm⟩ ⟨z,g0,g1,g5,g6,g7,ho,hzb,gx0,gt0,hnx,hdm⟩
  simp only at g0 g1 g5 g6 g7 ho gx0 gt0 hnx hdm
  subst hdm
  obtain ⟨heap,hfz,hk4⟩:=ho.frz2 (gv _)
  have gx:=hk4 nx _ gx0 fun y e=>by
   have:=hzb nx (by rw [e];rfl)
   omega
  have gt:=hk4 (nx+1) _ gt0 fun y e=>by
   have:=hzb _ (by rw [e];rfl)
   omega
  refine ⟨7,z,cg (s.map (exT p kn)),heap,g7,hfz,?_⟩
  have hte:exT p kn (.mk k w b n op s)=vi p kn k w b n op (s.map (exT p kn)):=by rw [exT,kb]
  rw [hte]
  have hll:(s.map (exT p kn)).length=s.length:=He ..
  generalize s.map (exT p kn)=l at hll
  unfold vi
  rcases hk with rfl|rfl|rfl|rfl|rfl|rfl|rfl|rfl
  ·simp only [if_true]
   simp -implicitDefEqProofs only [RA,aa,zp,↓reduceIte,reduceCtorEq,zq,zr,zs,zt,g0,g1,g5,g6,gx,gt,Ie,Il,Ik]
   refine (w41 w b).use fun n3 hn3=>?_
   simp -implicitDefEqProofs only [RA,aa,zp,↓reduceIte,reduceCtorEq,zq,zr,zs,zt,g6,gt,aV,aQ,n1,R21]
   exact ⟨_,_,rfl,.refl _ _⟩
  ·simp only [Ie,if_true,if_false]
   obtain ⟨j,v,e1,e2,e3⟩:=DD (Eu hex)
   have c42:=w42 p (plW p) (vsW p) f kn n hf hl
   rw [e1] at c42
   have iv:idxA 1 (.lst 1 ((vsW p).map fun l=>[bw l])) (f:Int)=some (.fp [bw kn]):=cY (f:=fun l=>[bw l]) hf
   have ip:=dj e2
   have pe:=eu v
   rw [e3] at pe
   simp only [unE] at g0 c42
   simp -implicitDefEqProofs only [RA,aa,zp,↓reduceIte,reduceCtorEq,zq,zr,zs,zt,g0,g1,g5,g6,gx,gt,Ie,Il,Ik,iv]
   refine c42.use fun n3 hn3=>?_
   simp -implicitDefEqProofs only [RA,aa,zp,↓reduceIte,reduceCtorEq,zq,zr,zs,zt,g0,g1,g5,g6,gx,gt,Ie,Il,Ik,iv,ip,pe,n1,R21]
   exact ⟨_,_,rfl,Frz.agg (As _ _ _)⟩
  ·simp only [Ie,if_true,if_false]
   obtain ⟨t0,rfl⟩:∃ t0,l=[t0]:=Hq.1 (by have:=hsl.1 (.inl rfl);omega)
   obtain ⟨j,a,e1,e2,e3⟩:=iw (AF hex)
   have hwa:=mT hck
   obtain ⟨zz,e4,hz0,hz1⟩:=oo o.al hwa e2
   rw [lT e1 e2,lJ e1 e4,e3,show hdT [t0]=t0 from rfl]
   have c44:=w44 p (plW p) (vsW p) n (by omega)
   have c45:=w45 p (plW p) (vsW p) n t0 j a zz (by omega) e1 e2 e4 (hwa a (G8 e2)) hz0 hz1
   rw [e1] at c44
   have ix:=cO e2
   have ae:=dB a
   have i0:=ek t0 []
   simp only [unE] at g0 c44 c45
   rw [← cT] at i0
   simp -implicitDefEqProofs only [RA,aa,zp,↓reduceIte,reduceCtorEq,zq,zr,zs,zt,g0,g1,g5,g6,gx,gt,Ie,Il,Ik,i0,aV,aQ]
   refine c44.use fun n3 hn3=>?_
   simp -implicitDefEqProofs only [RA,aa,zp,↓reduceIte,reduceCtorEq,zq,zr,zs,zt,g0,g1,g5,g6,gx,gt,Ie,Il,Ik,i0,aV,aQ,ix,ae]
   refine c45.use fun n4 hn4=>?_
   simp -implicitDefEqProofs only [RA,aa,zp,↓reduceIte,reduceCtorEq,zq,zr,zs,zt,g0,g1,g5,g6,gx,gt,Ie,Il,Ik,aV,aQ]
   refine (w43 24 a.width [elT zz a t0]).use fun n5 hn5=>?_
   simp -implicitDefEqProofs only [RA,aa,zp,↓reduceIte,reduceCtorEq,zq,zr,zs,zt,g6,gt,aV,aQ,n1,R21]
   exact ⟨_,_,rfl,.refl _ _⟩
  ·simp only [Ie,if_true,if_false]
   obtain ⟨t0,rfl⟩:∃ t0,l=[t0]:=Hq.1 (by have:=hsl.1 (.inr (.inl rfl));omega)
   rw [show hdT [t0]=t0 from rfl]
   have i0:=ek t0 []
   have v1:IntKind.u8.wrap 4=4:=rfl
   simp -implicitDefEqProofs only [RA,aa,zp,↓reduceIte,reduceCtorEq,zq,zr,zs,zt,g0,g1,g5,g6,gx,gt,Ie,Il,Ik,i0,v1]
   refine (w43 4 t0.width [t0]).use fun n5 hn5=>?_
   simp -implicitDefEqProofs only [RA,aa,zp,↓reduceIte,reduceCtorEq,zq,zr,zs,zt,g6,gt,aV,aQ,n1,R21]
   exact ⟨_,_,rfl,.refl _ _⟩
  ·simp only [Ie,if_true,if_false]
   obtain ⟨t0,rfl⟩:∃ t0,l=[t0]:=Hq.1 (by have:=hsl.1 (.inr (.inr rfl));omega)
   rw [show hdT [t0]=t0 from rfl]
   have i0:=ek t0 []
   have v1:IntKind.u8.wrap 3=3:=rfl
   simp -implicitDefEqProofs only [RA,aa,zp,↓reduceIte,reduceCtorEq,zq,zr,zs,zt,g0,g1,g5,g6,gx,gt,Ie,Il,Ik,i0,v1]
   refine (w43 3 t0.width [t0]).use fun n5 hn5=>?_
   simp -implicitDefEqProofs only [RA,aa,zp,↓reduceIte,reduceCtorEq,zq,zr,zs,zt,g6,gt,aV,aQ,n1,R21]
   exact ⟨_,_,rfl,.refl _ _⟩
  ·simp only [Ie,if_true,if_false]
   obtain ⟨t0,t1,rfl⟩:∃ t0 t1,l=[t0,t1]:=by
    have:=hsl.2 rfl
    match l,(by omega:l.length=2) with
    | [a,b],_=>exact ⟨a,b,rfl⟩
   rw [show hdT [t0,t1]=t0 from rfl]
   have i0:=ek t0 [t1]
   rcases ah ((16:Int)≤op) with ⟨d1',d1⟩|⟨d1',d1⟩
   ·rw [if_pos d1']
    simp -implicitDefEqProofs only [RA,aa,zp,↓reduceIte,reduceCtorEq,zq,zr,zs,zt,g0,g1,g5,g6,gx,gt,Ie,Il,Ik,i0,d1]
    refine (w43 op 1 [t0,t1]).use fun n5 hn5=>?_
    simp -implicitDefEqProofs only [RA,aa,zp,↓reduceIte,reduceCtorEq,zq,zr,zs,zt,g6,gt,aV,aQ,n1,R21]
    exact ⟨_,_,rfl,.refl _ _⟩
   ·rw [if_neg d1']
    simp -implicitDefEqProofs only [RA,aa,zp,↓reduceIte,reduceCtorEq,zq,zr,zs,zt,g0,g1,g5,g6,gx,gt,Ie,Il,Ik,i0,d1]
    refine (w43 op t0.width [t0,t1]).use fun n5 hn5=>?_
    simp -implicitDefEqProofs only [RA,aa,zp,↓reduceIte,reduceCtorEq,zq,zr,zs,zt,g6,gt,aV,aQ,n1,R21]
    exact ⟨_,_,rfl,.refl _ _⟩
  all_goals
   simp only [Ie,if_true,if_false]
   obtain ⟨t0,rfl⟩:∃ t0,l=[t0]:=Hq.1 (by have:=hsl7 (by simp);omega)
   rw [show hdT [t0]=t0 from rfl]
   have i0:=ek t0 []
   unfold rsT
   rcases ah (w=t0.width) with ⟨d1',d1⟩|⟨d1',d1⟩
   ·rw [if_neg (by omega),if_neg (by omega)]
    have et:=cT t0
    rw [et]
    simp -implicitDefEqProofs only [RA,aa,zp,↓reduceIte,reduceCtorEq,zq,zr,zs,zt,g0,g1,g5,g6,gx,gt,Ie,Il,Ik,i0,d1,n1,R21]
    exact ⟨_,_,rfl,.refl _ _⟩
   rcases ah (w<t0.width) with ⟨d2',d2⟩|⟨d2',d2⟩
   ·rw [if_neg (by omega),if_pos d2']
    simp -implicitDefEqProofs only [RA,aa,zp,↓reduceIte,reduceCtorEq,zq,zr,zs,zt,g0,g1,g5,g6,gx,gt,Ie,Il,Ik,i0,d1,d2]
    refine (w43 21 w [t0]).use fun n5 hn5=>?_
    simp -implicitDefEqProofs only [RA,aa,zp,↓reduceIte,reduceCtorEq,zq,zr,zs,zt,g6,gt,aV,aQ,n1,R21]
    exact ⟨_,_,rfl,.refl _ _⟩
   rw [if_pos (by omega)]
   have v1:IntKind.u8.wrap 29=29:=rfl
   have v2:IntKind.u8.wrap 30=30:=rfl
   have v3:IntKind.u8.wrap 22=22:=rfl
   have v4:IntKind.u8.wrap 23=23:=rfl
   simp -implicitDefEqProofs only [RA,aa,zp,↓reduceIte,reduceCtorEq,zq,zr,zs,zt,g0,g1,g5,g6,gx,gt,Ie,Il,Ik,i0,d1,d2,v1,v2,v3,v4]
   refine (w43 _ w [t0]).use fun n5 hn5=>?_
   simp -implicitDefEqProofs only [RA,aa,zp,↓reduceIte,reduceCtorEq,zq,zr,zs,zt,g6,gt,aV,aQ,n1,R21]
   exact ⟨_,_,rfl,.refl _ _⟩
theorem w54 (p:Pr) (v:AV) (nm:Nm) (ps:AV) (rs:Int) (bo out:AV) (op:Int) (ex:AV) (n:Nm) (t:Tm) (j:Nat) (a:Ar) (z:Int) (hl:p.arrays.length≤20) (hwa:∀ a∈p.arrays,wfA a=true) (e1:arI p n=(j:Int)) (hj:p.arrays[j]?=some a) (hq:(plW p)[j]?=some z) (hz0:0≤z) (hz1:z≤1000000000)
  (c:Nat) (h:Heap) (nx:Nat) (gc:af h c=some (.cells (mkr p v nm ps rs bo out op ex))) (hcn:c<nx) :
  AC Tryz.prog 54 [.op c 0,.str n,.agg (tmE t)] h nx fun y h' n'=>y=.ret (.agg (tmE (elT z a t)))∧h'=h∧nx≤n':=by
 refine dI (AC.go aj is54 (by simp) ?_)
 obtain ⟨hw,hl1,hl2⟩:=qY (hwa a (G8 hj))
 have c53:=w53 p n (by omega)
 rw [e1,ct] at c53
 have c26:=w26 p hl hwa
 rw [ct] at c26
 have ix:=cO hj
 have ae:=dB a
 have iq:=gC hq
 have ie:inE z=[.int .i64 z]:=rfl
 have f1:IntKind.i64.wrap (a.len-1)=a.len-1:=by rw [w64 (by omega) (by omega)]
 have f2:IntKind.u64.wrap (a.len-1)=a.len-1:=ul (by omega) (by omega)
 have f3:IntKind.u64.wrap z=z:=ul hz0 hz1
 have b1:(nx=c)=False:=eq_false (by omega)
 have b2:(nx+1=c)=False:=eq_false (by omega)
 have a3:(nx+1=nx)=False:=eq_false (by omega)
 simp only [mkr] at gc
 simp -implicitDefEqProofs only [RA,aa,zp,↓reduceIte,reduceCtorEq,zq,zr,zs,zt,A54,FQ,gc,b1,b2,a3]
 refine c53.use fun n2 hn2=>?_
 have a1:(n2=nx)=False:=eq_false (by omega)
 have a2:(n2=nx+1)=False:=eq_false (by omega)
 have a4:(n2=c)=False:=eq_false (by omega)
 have key:∀ (sv:Int),a.width / 16=sv→tmE (elT z a t)=tmE (fY 5 32 [dF 32 z,fY 11 32 [fY 8 32 [t,dF 32 (a.len-1)],dF 32 sv]]):=fun sv e=>by rw [← e];rfl
 rcases hw with e|e|e
 have d1:(a.width=16)=False:=eq_false (by omega)
 have d2:(a.width=32)=False:=eq_false (by omega)
 rw [key 0 (by rw [e];rfl)]
 rotate_left
 have d1:(a.width=16)=True:=eq_true e
 have d2:(a.width=32)=False:=eq_false (by omega)
 rw [key 1 (by rw [e];rfl)]
 rotate_left
 have d1:(a.width=16)=False:=eq_false (by omega)
 have d2:(a.width=32)=True:=eq_true e
 rw [key 2 (by rw [e];rfl)]
 rotate_left
 all_goals
  simp -implicitDefEqProofs only [RA,aa,zp,↓reduceIte,reduceCtorEq,zq,zr,zs,zt,gc,ix,ae,aV,aQ,f1,f2,a1,a2,a3,a4,b1,b2,d1,d2]
  refine (w50 32 (a.len-1)).use fun n3 hn3=>?_
  intro _
  simp -implicitDefEqProofs only [RA,aa,zp,↓reduceIte,reduceCtorEq,zq,zr,zs,zt,Hs,gc,aV,aQ,a1,a2,a3,a4,b1,b2]
  refine (w52 8 32 [t,dF 32 (a.len-1)]).use fun n4 hn4=>?_
  intro _
  have a5:(n4=n2)=False:=eq_false (by omega)
  have a6:(n4=nx+1)=False:=eq_false (by omega)
  have a7:(n4=nx)=False:=eq_false (by omega)
  have a8:(n4=c)=False:=eq_false (by omega)
  simp -implicitDefEqProofs only [RA,aa,zp,↓reduceIte,reduceCtorEq,zq,zr,zs,zt,Hs,gc,aV,aQ,a1,a2,a3,a4,a5,a6,a7,a8,b1,b2]
  refine c26.use fun n5 hn5=>?_
  simp -implicitDefEqProofs only [RA,aa,zp,↓reduceIte,reduceCtorEq,zq,zr,zs,zt,gc,aV,aQ,a1,a2,a3,a4,a5,a6,a7,a8,b1,b2,iq,ie,f3]
  refine (w50 32 z).use fun n6 hn6=>?_
  simp -implicitDefEqProofs only [RA,aa,zp,↓reduceIte,reduceCtorEq,zq,zr,zs,zt,gc,aV,aQ,a1,a2,a3,a4,a5,a6,a7,a8,b1,b2]
  refine (w50 32 _).use fun n7 hn7=>?_
  simp -implicitDefEqProofs only [RA,aa,zp,↓reduceIte,reduceCtorEq,zq,zr,zs,zt,gc,aV,aQ,a1,a2,a3,a4,a5,a6,a7,a8,b1,b2]
  refine (w52 11 32 [fY 8 32 [t,dF 32 (a.len-1)],dF 32 _]).use fun n8 hn8=>?_
  simp -implicitDefEqProofs only [RA,aa,zp,↓reduceIte,reduceCtorEq,zq,zr,zs,zt,gc,aV,aQ,a1,a2,a3,a4,a5,a6,a7,a8,b1,b2]
  refine (w52 5 32 [dF 32 z,fY 11 32 [fY 8 32 [t,dF 32 (a.len-1)],dF 32 _]]).use fun n9 hn9=>?_
  simp -implicitDefEqProofs only [RA,aa,zp,↓reduceIte,reduceCtorEq,zq,zr,zs,zt,gc,aV,aQ,a1,a2,a3,a4,a5,a6,a7,a8,b1,b2,R54]
  intro b o hb ho
  repeat rw [if_neg (by omega)]
  exact ho
theorem w24 (p:Pr) (o:OkP p) (hck:ckE p=0) (v:AV) (nm:Nm) (ps:AV) (rs:Int) (bo out:AV) (mo:Int) (ex:AV) (kn:List Pm) (c:Nat) (hl:kn.length≤1000000):∀ (m:Nat) (x:Ex),bM x≤m→bM x≤1000000→wfE x=true→(exW p kn x).1=0→∀ (h:Heap) (nx:Nat),af h c=some (.cells (mkr p v nm ps rs bo out mo ex))→c<nx→Rd h nx v kn →
  AC Tryz.prog 24 [.op c 0,.agg (exE x)] h nx fun y h' n'=>y=.ret (.agg (tmE (exT p kn x)))∧h'=h∧nx≤n':=by
 intro m
 induction m with
 | zero=>intro x hx;have:=cV x;omega
 | succ m ih =>
  rintro ⟨k,w,b,n,op,s⟩ hm hB hwf hex h nx gc hcn hv
  obtain ⟨hk,hsl7,hs2⟩:=nS hwf
  have hsl:=nR hwf
  have hsub:=mc hwf
  have hes:=(lO hex).1
  simp only [bM] at hm hB
  have hlen:=aE s
  have oal:=o.al
  refine dI (AC.frz (AC.go aj is24 (by simp) ?_))
  have lv:=aP s
  rw [dE]
  have n1:(nx+1=nx)=False:=eq_false (by omega)
  simp -implicitDefEqProofs only [RA,aa,zp,↓reduceIte,reduceCtorEq,zq,zr,zs,zt,A24,Gk,lv,n1,↓aT,↓aS]
  refine fq (fun q st=>∃ (i:Nat) (z:AV),q=s.length-i∧i≤s.length∧ab st.env 0=some (.op c 0)∧ab st.env 3=some (.op nx 0)∧ab st.env 4=some (.op (nx+1) 0)∧ab st.env 5=some z∧ab st.env 6=some (.int .i64 i)∧aF 34 6 st.heap st.nx z (((s.take i).map (exT p kn)).map tmE)∧(∀ b,aw z=some b→nx+1<b)∧af st.heap nx=some (.cells [.int .u8 k,.int .i64 w,.int .u64 b,.str n,.int .u8 op,aR s])∧af st.heap (nx+1)=some (.cells [.int .u8 0,.int .i64 0,.int .u64 0,.str [],.int .i64 0,.nilS])∧(∀ b o,b<nx→af h b=some o→af st.heap b=some o)∧nx+1<st.nx∧st.dm=[]) 0
   (fun st=>∃ (z:AV),ab st.env 0=some (.op c 0)∧ab st.env 3=some (.op nx 0)∧ab st.env 4=some (.op (nx+1) 0)∧ab st.env 5=some z∧aF 34 6 st.heap st.nx z ((s.map (exT p kn)).map tmE)∧(∀ b,aw z=some b→nx+1<b)∧af st.heap nx=some (.cells [.int .u8 k,.int .i64 w,.int .u64 b,.str n,.int .u8 op,aR s])∧af st.heap (nx+1)=some (.cells [.int .u8 0,.int .i64 0,.int .u64 0,.str [],.int .i64 0,.nilS])∧(∀ b o,b<nx→af h b=some o→af st.heap b=some o)∧nx+1<st.nx∧st.dm=[]) (n:=s.length) aj
   ⟨0,.nilS,rfl,by omega,by simp [ab],by simp [ab],by simp [ab],by simp [ab],by simp [ab],.inl ⟨rfl,by simp⟩,by simp [aw],by simp [af],by simp [af],fun b o hb ho=>by rw [ai,if_neg (by omega),ai,if_neg (by omega)];exact ho,by simp,rfl⟩ ?_ ?_
  ·rintro q ⟨env,heap,nx',dm⟩ ⟨i,z,rfl,hi,g0,g3,g4,g5,g6,ho,hzb,gx,gt,gk,hnx,hdm⟩
   simp only at g0 g3 g4 g5 g6 ho gx gt gk hnx hdm
   subst hdm
   have f1:=wS (i:=i) (by omega)
   by_cases hc:(i:Int)<(s.length:Int)
   case pos =>
    have hr:=G7 (show i<s.length by omega)
    generalize s[i]=r at hr
    have ix:=bA hr
    have hmem:=G8 hr
    have m1:=bL hmem
    have gc2:=gk c _ hcn gc
    have hv2:=hv.keep (nx':=nx') (by omega) gk
    have rl:=bI r
    have rt:=bC r
    simp -implicitDefEqProofs only [RA,aa,zp,↓reduceIte,reduceCtorEq,zq,zr,zs,zt,cr,cL,cM,cN,yp,sF,g0,g3,g4,g5,g6,gx,lv,hc,ix,rl,rt]
    refine (ih r (by omega) (by omega) (hsub r hmem) (hes r hmem) heap nx' gc2 (by omega) hv2).mono ?_
    rintro y h2 n3 ⟨rfl,rfl,hn3⟩
    have hlt:(s.take i).length≤s.length:=by rw [Hf];omega
    obtain ⟨z',h3,n4,ea,ow,hn4,hk3,hb3⟩:=(ho.mono hn3).grw (bytes:=72) (ns:=[tmE (exT p kn r)]) (gv _) (by simp [aV]) (by simp only [He,Hc,Hd];omega) (by simp only [He,Hc,Hd,maxLen];omega)
    have hz1:aw z≠some nx:=fun e=>by have:=hzb nx e;omega
    have hz2:aw z≠some (nx+1):=fun e=>by have:=hzb _ e;omega
    have gx3:=hk3 nx _ (by omega) gx hz1
    have gt3:=hk3 (nx+1) _ (by omega) gt hz2
    simp -implicitDefEqProofs only [RA,aa,zp,↓reduceIte,reduceCtorEq,zq,zr,zs,zt,cr,cL,cM,cN,g0,g3,g4,g5,g6,aV,aQ,ea,f1]
    have how:aF 34 6 h3 n4 z' (((s.take (i+1)).map (exT p kn)).map tmE):=by
     rw [az hr,Hk,Hk];exact ow
    have hzb2:∀ b,aw z'=some b→nx+1<b:=fun b hb=>by
     rcases hb3 b hb with h|h
     ·omega
     ·exact hzb b h
    have gk3:∀ b o,b<nx→af h b=some o→af h3 b=some o:=fun b o hb hg=>hk3 b o (by omega) (gk b o hb hg) fun e=>by have:=hzb b e;omega
    refine ⟨s.length-(i+1),by omega,i+1,z',?_⟩
    repeat' (first|exact how|exact gk3|apply And.intro)
    all_goals first|assumption|rfl|omega|(simp [ab, *];done)
   rw [show s.take i=s from Ha (by omega)] at ho
   simp -implicitDefEqProofs only [RA,aa,zp,↓reduceIte,reduceCtorEq,zq,zr,zs,zt,cr,cL,cM,cN,yp,sF,g0,g3,g4,g5,g6,gx,lv,hc]
   repeat' (first|exact ho|exact gk|apply And.intro)
   all_goals first|assumption|rfl|omega|(simp [ab, *];done)
  rintro ⟨env,hp0,nx',dm⟩ ⟨z,g0,g3,g4,g5,ho,hzb,gx0,gt0,gk0,hnx,hdm⟩
  simp only at g0 g3 g4 g5 ho gx0 gt0 gk0 hnx hdm
  subst hdm
  obtain ⟨heap,hfz,hk4⟩:=ho.frz2 (gv _)
  have gk:∀ b o,b<nx→af h b=some o→af heap b=some o:=fun b o hb hg=>hk4 b o (gk0 b o hb hg) fun y e=>by
   have:=hzb b (by rw [e];rfl)
   omega
  have gx:=hk4 nx _ gx0 fun y e=>by
   have:=hzb nx (by rw [e];rfl)
   omega
  have gt:=hk4 (nx+1) _ gt0 fun y e=>by
   have:=hzb _ (by rw [e];rfl)
   omega
  have gc2:=gk c _ hcn gc
  have hv2:=hv.keep (nx':=nx') (by omega) gk
  have fin:∀ cs:List AV,∀ b o,b<nx→af h b=some o→af ((nx+1,AO.cells cs)::heap) b=some o:=fun cs b o hb hg=>by rw [ai,if_neg (by omega)];exact gk b o hb hg
  refine ⟨5,z,cg (s.map (exT p kn)),heap,g5,hfz,?_⟩
  have hte:exT p kn (.mk k w b n op s)=vi p kn k w b n op (s.map (exT p kn)):=by rw [exT,kb]
  rw [hte]
  have hll:(s.map (exT p kn)).length=s.length:=He ..
  generalize s.map (exT p kn)=l at hll
  unfold vi
  rcases hk with rfl|rfl|rfl|rfl|rfl|rfl|rfl|rfl
  ·simp only [if_true]
   simp -implicitDefEqProofs only [RA,aa,zp,↓reduceIte,reduceCtorEq,zq,zr,zs,zt,g0,g3,g4,gx,gt,Ie]
   refine (w50 w b).use fun n3 hn3=>?_
   simp -implicitDefEqProofs only [RA,aa,zp,↓reduceIte,reduceCtorEq,zq,zr,zs,zt,g4,gt,aV,aQ,n1,R24]
   exact ⟨_,_,.refl _ _,rfl,fin _⟩
  ·simp only [Ie,if_true,if_false]
   simp -implicitDefEqProofs only [RA,aa,zp,↓reduceIte,reduceCtorEq,zq,zr,zs,zt,g0,g3,g4,gx,gt,Ie]
   refine (w51 p v nm ps rs bo out mo ex kn c n heap nx' gc2 hv2 hl).mono ?_
   rintro y h2 n3 ⟨rfl,rfl,hn3⟩
   simp -implicitDefEqProofs only [RA,aa,zp,↓reduceIte,reduceCtorEq,zq,zr,zs,zt,g0,g3,g4,gx,gt,n1,R24]
   exact ⟨_,_,Frz.agg (As _ _ _),rfl,fin _⟩
  ·simp only [Ie,if_true,if_false]
   obtain ⟨t0,rfl⟩:∃ t0,l=[t0]:=Hq.1 (by have:=hsl.1 (.inl rfl);omega)
   obtain ⟨j,a,e1,e2,e3⟩:=iw (AF hex)
   have hwa:=mT hck
   obtain ⟨zz,e4,hz0,hz1⟩:=oo o.al hwa e2
   rw [lT e1 e2,lJ e1 e4,e3,show hdT [t0]=t0 from rfl]
   have c53:=w53 p n (by omega)
   rw [e1,ct] at c53
   have ix:=cO e2
   have ae:=dB a
   have i0:=ek t0 []
   rw [← cT] at i0
   have gc3:=gc2
   simp only [mkr] at gc3
   simp -implicitDefEqProofs only [RA,aa,zp,↓reduceIte,reduceCtorEq,zq,zr,zs,zt,g0,g3,g4,gx,gt,gc3,i0,aV,aQ,Ie]
   refine c53.use fun n3 hn3=>?_
   simp -implicitDefEqProofs only [RA,aa,zp,↓reduceIte,reduceCtorEq,zq,zr,zs,zt,g0,g3,g4,gx,gt,gc3,i0,aV,aQ,ix,ae]
   refine (w54 p v nm ps rs bo out mo ex n t0 j a zz o.al hwa e1 e2 e4 hz0 hz1 c heap n3 gc2 (by omega)).mono ?_
   rintro y h2 n4 ⟨rfl,rfl,hn4⟩
   simp -implicitDefEqProofs only [RA,aa,zp,↓reduceIte,reduceCtorEq,zq,zr,zs,zt,g0,g3,g4,gx,gt,gc3,aV,aQ]
   refine (w52 24 a.width [elT zz a t0]).use fun n5 hn5=>?_
   simp -implicitDefEqProofs only [RA,aa,zp,↓reduceIte,reduceCtorEq,zq,zr,zs,zt,g4,gt,aV,aQ,n1,R24]
   exact ⟨_,_,.refl _ _,rfl,fin _⟩
  ·simp only [Ie,if_true,if_false]
   obtain ⟨t0,rfl⟩:∃ t0,l=[t0]:=Hq.1 (by have:=hsl.1 (.inr (.inl rfl));omega)
   rw [show hdT [t0]=t0 from rfl]
   have i0:=ek t0 []
   simp -implicitDefEqProofs only [RA,aa,zp,↓reduceIte,reduceCtorEq,zq,zr,zs,zt,g0,g3,g4,gx,gt,i0,Ie]
   rw [← cT]
   refine (w52 4 t0.width [t0]).use fun n5 hn5=>?_
   simp -implicitDefEqProofs only [RA,aa,zp,↓reduceIte,reduceCtorEq,zq,zr,zs,zt,g4,gt,aV,aQ,n1,R24]
   exact ⟨_,_,.refl _ _,rfl,fin _⟩
  ·simp only [Ie,if_true,if_false]
   obtain ⟨t0,rfl⟩:∃ t0,l=[t0]:=Hq.1 (by have:=hsl.1 (.inr (.inr rfl));omega)
   rw [show hdT [t0]=t0 from rfl]
   have i0:=ek t0 []
   simp -implicitDefEqProofs only [RA,aa,zp,↓reduceIte,reduceCtorEq,zq,zr,zs,zt,g0,g3,g4,gx,gt,i0,Ie]
   rw [← cT]
   refine (w52 3 t0.width [t0]).use fun n5 hn5=>?_
   simp -implicitDefEqProofs only [RA,aa,zp,↓reduceIte,reduceCtorEq,zq,zr,zs,zt,g4,gt,aV,aQ,n1,R24]
   exact ⟨_,_,.refl _ _,rfl,fin _⟩
  ·simp only [Ie,if_true,if_false]
   obtain ⟨t0,t1,rfl⟩:∃ t0 t1,l=[t0,t1]:=by
    have:=hsl.2 rfl
    match l,(by omega:l.length=2) with
    | [a,b],_=>exact ⟨a,b,rfl⟩
   rw [show hdT [t0,t1]=t0 from rfl]
   have i0:=ek t0 [t1]
   have i1:=nW t0 t1 []
   rcases ah ((16:Int)≤op) with ⟨d1',d1⟩|⟨d1',d1⟩
   ·rw [if_pos d1']
    simp -implicitDefEqProofs only [RA,aa,zp,↓reduceIte,reduceCtorEq,zq,zr,zs,zt,g0,g3,g4,gx,gt,i0,i1,d1,Ie]
    rw [← cT,← cT]
    refine (w52 op 1 [t0,t1]).use fun n5 hn5=>?_
    simp -implicitDefEqProofs only [RA,aa,zp,↓reduceIte,reduceCtorEq,zq,zr,zs,zt,g4,gt,aV,aQ,n1,R24]
    exact ⟨_,_,.refl _ _,rfl,fin _⟩
   ·rw [if_neg d1']
    simp -implicitDefEqProofs only [RA,aa,zp,↓reduceIte,reduceCtorEq,zq,zr,zs,zt,g0,g3,g4,gx,gt,i0,i1,d1,Ie]
    rw [← cT,← cT]
    refine (w52 op t0.width [t0,t1]).use fun n5 hn5=>?_
    simp -implicitDefEqProofs only [RA,aa,zp,↓reduceIte,reduceCtorEq,zq,zr,zs,zt,g4,gt,aV,aQ,n1,R24]
    exact ⟨_,_,.refl _ _,rfl,fin _⟩
  all_goals
   simp only [Ie,if_true,if_false]
   obtain ⟨t0,rfl⟩:∃ t0,l=[t0]:=Hq.1 (by have:=hsl7 (by simp);omega)
   rw [show hdT [t0]=t0 from rfl]
   have i0:=ek t0 []
   rw [← cT] at i0
   simp -implicitDefEqProofs only [RA,aa,zp,↓reduceIte,reduceCtorEq,zq,zr,zs,zt,g0,g3,g4,gx,gt,i0,aV,aQ,Ie]
   refine (w55 t0 w _).use fun n5 hn5=>?_
   simp -implicitDefEqProofs only [RA,aa,zp,↓reduceIte,reduceCtorEq,zq,zr,zs,zt,g4,gt,aV,aQ,n1,R24]
   exact ⟨_,_,.refl _ _,rfl,fin _⟩
mutual
def kI:Tm→Nat
 | .mk _ _ _ _ _ s=>lK s+1
def lK:List Tm→Nat
 | []=>0
 | x::r=>kI x+lK r
end
mutual
def okT:Tm→Prop
 | .mk _ _ _ _ _ s=>s.length≤10∧rx s
def rx:List Tm→Prop
 | []=>True
 | x::r=>okT x∧rx r
end
theorem mI:∀ {l:List Tm} {x:Tm},x∈l→kI x≤lK l
 | [],x,h=>by simp at h
 | y::r,x,h=>by
  simp only [lK]
  rcases Hl.1 h with rfl|h
  ·omega
  ·have:=mI h;omega
theorem tC:∀ {l:List Tm} {x:Tm},rx l→x∈l→okT x
 | [],x,_,h=>by simp at h
 | y::r,x,ho,h=>by
  rcases Hl.1 h with rfl|h
  ·exact ho.1
  ·exact tC ho.2 h
theorem oD:∀ {l:List Tm},(∀ x∈l,okT x)→rx l
 | [],_=>trivial
 | y::r,h=>⟨h y (by simp),oD fun x hx=>h x (by simp [hx])⟩
theorem ry (x:Tm):0<kI x:=by cases x;simp [kI]
theorem hO (w b:Int):okT (dF w b):=⟨by simp,trivial⟩
theorem hY {k w:Int} {s:List Tm} (hl:s.length≤10) (h:rx s):okT (fY k w s):=⟨hl,h⟩
theorem wo {q:Int} {a:Ar} {t:Tm} (h:okT t):okT (elT q a t) :=
 hY (by simp) ⟨hO _ _,hY (by simp) ⟨hY (by simp) ⟨h,hO _ _,trivial⟩,hO _ _,trivial⟩,trivial⟩
theorem ru {l:List Tm} (h:rx l):okT (hdT l):=by
 cases l with
 | nil=>exact hO _ _
 | cons a r=>exact h.1
theorem B7 {t:Tm} {w k:Int} (h:okT t):okT (rsT t w k):=by
 unfold rsT
 split
 ·exact hY (by simp) ⟨h,trivial⟩
 ·split
  ·exact hY (by simp) ⟨h,trivial⟩
  ·exact h
theorem Cj (p:Pr) (kn:List Pm):∀ (m:Nat) (x:Ex),bM x≤m→wfE x=true→okT (exT p kn x):=by
 intro m
 induction m with
 | zero=>intro x hx;have:=cV x;omega
 | succ m ih =>
  rintro ⟨k,w,b,n,op,s⟩ hm hwf
  have h2:=(nS hwf).2.2
  have hsub:=mc hwf
  simp only [bM] at hm
  have hl:rx (s.map (exT p kn)):=oD fun t ht=>by
   obtain ⟨x,hx,rfl⟩:=List.mem_map.1 ht
   exact ih x (by have:=bL hx;omega) (hsub x hx)
  have hle:(s.map (exT p kn)).length≤10:=by rw [He];omega
  rw [exT,kb]
  generalize s.map (exT p kn)=l at hl hle
  unfold vi
  repeat' split
  all_goals first
   | exact hO _ _
   | exact hY (by simp) ⟨wo (ru hl),trivial⟩
   | exact hY hle hl
   | exact B7 (ru hl)
   | exact ⟨by simp,trivial⟩
theorem w11:∀ (m:Nat) (t:Tm),kI t≤m→okT t→Pure Tryz.prog 11 [.agg (tmE t),.agg (tmE t)] (.bool true):=by
 intro m
 induction m with
 | zero=>intro x hx;have:=ry x;omega
 | succ m ih =>
  rintro ⟨k,w,b,n,lo,s⟩ hm hok
  refine Pure.of fun nx=>AC.go aj is11 (by simp) ?_
  simp only [kI] at hm
  have hsl:s.length≤10:=hok.1
  have e0:tmE (.mk k w b n lo s)=[.int .u8 k,.int .i64 w,.int .u64 b,.str n,.int .i64 lo,cg s]:=by rw [cT];rfl
  rw [e0]
  have lv:=tg s
  have n1:(nx+1=nx)=False:=eq_false (by omega)
  have bn:(n==n)=true:=by simp
  simp -implicitDefEqProofs only [RA,aa,zp,↓reduceIte,reduceCtorEq,zq,zr,zs,zt,A11,GR,n1,lv,↓cw,↓cu,aG,aU,bn]
  refine aq (fun q st=>∃ i:Nat,q=s.length-i∧i≤s.length∧ab st.env 2=some (.op nx 0)∧ab st.env 3=some (.op (nx+1) 0)∧ab st.env 5=some (.int .i64 i)∧af st.heap nx=some (.cells [.int .u8 k,.int .i64 w,.int .u64 b,.str n,.int .i64 lo,cg s])∧af st.heap (nx+1)=some (.cells [.int .u8 k,.int .i64 w,.int .u64 b,.str n,.int .i64 lo,cg s])∧st.dm=[]) (n:=s.length) aj
   ⟨0,rfl,by omega,by simp [ab],by simp [ab],by simp [ab],by simp [af],by simp [af],rfl⟩ ?_
  rintro q ⟨env,heap,nx',dm⟩ ⟨i,rfl,hi,g2,g3,g5,gx,gy,hdm⟩
  simp only at g2 g3 g5 gx gy hdm
  subst hdm
  have f1:=wS (i:=i) (by omega)
  by_cases hc:(i:Int)<(s.length:Int)
  case neg =>
   simp -implicitDefEqProofs only [RA,aa,zp,↓reduceIte,reduceCtorEq,zq,zr,zs,zt,yH,sW,g2,g3,g5,gx,gy,lv,hc,R11]
  have hr:=G7 (show i<s.length by omega)
  generalize s[i]=r at hr
  have hmem:=G8 hr
  have m1:=mI hmem
  have ix:=lE hr
  simp -implicitDefEqProofs only [RA,aa,zp,↓reduceIte,reduceCtorEq,zq,zr,zs,zt,yH,sW,g2,g3,g5,gx,gy,lv,hc,ix,aV,aQ]
  refine (ih r (by omega) (tC hok.2 hmem)).use fun n3 hn3=>?_
  simp -implicitDefEqProofs only [RA,aa,zp,↓reduceIte,reduceCtorEq,zq,zr,zs,zt,g2,g3,g5,gx,gy,unA,f1]
  refine ⟨s.length-(i+1),by omega,i+1,?_⟩
  repeat' apply And.intro
  all_goals first|assumption|rfl|omega|(simp [ab, *];done)
end Go.Proofs.YtgeieafamocnhaaGreatDoor
