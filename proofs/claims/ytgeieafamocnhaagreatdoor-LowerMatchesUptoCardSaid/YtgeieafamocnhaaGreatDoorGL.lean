/- Rules of statements. -/
import Derived.Test.YtgeieafamocnhaaGreatDoorGK
namespace Go.Proofs.YtgeieafamocnhaaGreatDoor
open List renaming getElem?_eq_getElem → G7, mem_of_getElem? → G8, getElem?_eq_some_iff → G9, take_of_length_le → Ha, drop_of_length_le → Hb, length_cons → Hc, length_nil → Hd, length_map → He, length_take → Hf, all_eq_true → Hh, length_append → Hj, map_append → Hk, length_eq_one_iff → Hq
open Bool renaming false_eq_true → HQ, and_eq_true → HR
open Nat renaming le_refl → H4
open Int renaming reduceEq → Ie
set_option maxHeartbeats 64000000
open Go Go.Ab Go.Proofs
open Nat renaming reduceEqDiff → zp, reduceAdd → zq, reduceLeDiff → zr, reduceLT → zs, reduceBEq → zt
set_option linter.unusedVariables false
set_option linter.unusedSimpArgs false
set_option maxRecDepth 20000
def nh (p:Pr) (n:Nm):Fu:=(p.funcs[(fuI p n).toNat]?).getD ⟨[],[],0,[]⟩
def gT (p:Pr) (kn:List Pm) (n fn:Nm) (ws:List Int):Int :=
 if fuI p fn<0 then 16
 else if ws=(nh p fn).params.map (·.2) then (if (n==[])=true then 0 else if kw kn n=0 then 16 else if kw kn n=(nh p fn).result then 0 else 14)
 else 14
def rlE (p:Pr) (res:Int) (kn:List Pm) (k:Int) (n fn:Nm) (w:Int) (ws:List Int) (loop:Bool):Int × List Pm :=
 if k=1 then (if df p kn n=0 then (if ws.getD 0 0=w then 0 else 14,kn++[(n,w)]) else (df p kn n,kn))
 else if k=2 then (if kw kn n=0 then 16 else if ws.getD 0 0=kw kn n then 0 else 14,kn)
 else if k=3 then (if arI p n<0 then 16 else if ws.getD 0 0=32∧ws.getD 1 0=arW p n then 0 else 14,kn)
 else if k=4∨k=5 then (if ws.getD 0 0=1 then 0 else 14,kn)
 else if k=6 then (if loop=true then 0 else 12,kn)
 else if k=8 then (if (ws.length=0∧res=0)∨(ws.length=1∧ws.getD 0 0=res) then 0 else 14,kn)
 else if k=9 then (gT p kn n fn ws,kn)
 else (0,kn)
theorem xd {p:Pr} {n:Nm} (h:¬ fuI p n<0):∃ (j:Nat),fuI p n=(j:Int)∧p.funcs[j]?=some (nh p n):=by
 obtain ⟨j,a,e1,e2⟩:=xf _ _ _ (show 0≤fi (fun f:Fu=>f.name==n) p.funcs 0 by have:fuI p n=_:=rfl;rw [← fuI];omega)
 have e3:fuI p n=(j:Int):=by rw [fuI,e1];omega
 exact ⟨j,e3,by rw [nh,e3];simp [e2]⟩
theorem yO {l:List Pm} {i:Nat} {r:Pm} (h:l[i]?=some r):(l.take (i+1)).map (·.2)=(l.take i).map (·.2)++[r.2]:=by
 rw [az h,Hk];rfl
theorem fV (l:List Int):cellsOf (cP l)=[cP l]:=rfl
theorem fR (l:List Int):(cP l).plain=true:=rfl
theorem w144 (p:Pr) (f:Fu) (v:AV) (kn:List Pm) (c:Nat) (k w:Int) (n fn:Nm) (l:List Ex) (bo el:List Sm) (ws:List Int) (h:Heap) (nx:Nat) (gc:af h c=some (.cells (chk p f v))) (hcn:c<nx) (hv:Rd h nx v kn) (hl:kn.length≤1000000) (hfl:p.funcs.length≤4611686018427387904) (hpl:∀ g∈p.funcs,g.params.length≤1000000) (hwl:ws.length≤1000000) :
  AC Tryz.prog 144 [.op c 0,.agg (smE (.mk k n fn w l bo el)),cP ws] h nx fun y h' n'=>y=.ret (.int .i64 (gT p kn n fn ws))∧h'=h∧nx≤n':=by
 refine dI (AC.go aj DM (by simp) ?_)
 rw [cH]
 have nc:(nx=c)=False:=eq_false (by omega)
 have gc2:=gc
 simp only [chk] at gc2
 have gk0:∀ b o,b<nx→af h b=some o→af ((nx,AO.cells [.int .u8 k,.str n,.str fn,.int .i64 w,aR l,ay bo,ay el])::h) b=some o:=fun b o hb ho=>by rw [ai,if_neg (by omega)];exact ho
 have lf:=cZ p.funcs
 simp -implicitDefEqProofs only [RA,aa,zp,↓reduceIte,reduceCtorEq,zq,zr,zs,zt,Gw,AP,nc,gc2,↓aT,↓aS,↓aB,↓aA,↓fV,↓fR]
 refine (w147 p fn hfl).use fun n2 hn2=>?_
 rcases ah (fuI p fn<0) with ⟨d1',d1⟩|⟨d1',d1⟩
 case inl =>
  have ee:gT p kn n fn ws=16:=by rw [gT,if_pos d1']
  simp -implicitDefEqProofs only [RA,aa,zp,↓reduceIte,reduceCtorEq,zq,zr,zs,zt,gc2,d1,nc,ee,rY]
  exact gk0
 obtain ⟨j,e1,e2⟩:=xd d1'
 have ee:gT p kn n fn ws=if ws=(nh p fn).params.map (·.2) then (if (n==[])=true then 0 else if kw kn n=0 then 16 else if kw kn n=(nh p fn).result then 0 else 14) else 14:=by rw [gT,if_neg d1']
 rw [ee]
 generalize nh p fn=g at e2
 rw [e1] at d1
 have ix:=cJ e2
 have fe:=dG g
 have lp:=cq g.params
 have gpl:=hpl g (G8 e2)
 have m2:(n2=c)=False:=eq_false (by omega)
 have m3:(n2=nx)=False:=eq_false (by omega)
 simp -implicitDefEqProofs only [RA,aa,zp,↓reduceIte,reduceCtorEq,zq,zr,zs,zt,gc2,d1,nc,e1,ix,fe,lp,↓aY,↓aX,↓aB,↓aA]
 refine aq (fun q st=>∃ (i:Nat) (z:AV),q=g.params.length-i∧i≤g.params.length∧ab st.env 0=some (.op c 0)∧ab st.env 2=some (cP ws)∧ab st.env 4=some (.op nx 0)∧ab st.env 8=some (.op n2 0)∧ab st.env 9=some z∧ab st.env 30=some (bw g.params)∧ab st.env 31=some (.int .i64 g.params.length)∧ab st.env 32=some (.int .i64 i)∧aF 3 1 st.heap st.nx z (((g.params.take i).map (·.2)).map inE)∧(∀ b,aw z=some b→n2<b)∧af st.heap nx=some (.cells [.int .u8 k,.str n,.str fn,.int .i64 w,aR l,ay bo,ay el])∧af st.heap n2=some (.cells [.str g.name,bw g.params,.int .i64 g.result,ay g.body])∧(∀ b o,b<nx→af h b=some o→af st.heap b=some o)∧n2<st.nx∧st.dm=[]) (n:=g.params.length) aj
  ⟨0,.nilS,rfl,by omega,by simp [ab],by simp [ab],by simp [ab],by simp [ab],by simp [ab],by simp [ab],by simp [ab],by simp [ab],.inl ⟨rfl,by simp⟩,by simp [aw],by simp [af,m3],by simp [af],fun b o hb ho=>by rw [ai,if_neg (by omega),ai,if_neg (by omega)];exact gk0 b o hb ho,by simp,rfl⟩ ?_
 rintro q ⟨env,heap,nx',dm⟩ ⟨i,z,rfl,hi,g0,g2,g4,g8,g9,g30,g31,g32,ho,hzb,gx,gg,gk,hnx,hdm⟩
 simp only at g0 g2 g4 g8 g9 g30 g31 g32 ho gx gg gk hnx hdm
 subst hdm
 have f1:=wS (i:=i) (by omega)
 by_cases hc:(i:Int)<(g.params.length:Int)
 case pos =>
  have hr:=G7 (show i<g.params.length by omega)
  generalize g.params[i]=r at hr
  have ixp:=dj hr
  have re:=eu r
  have wt:=yO hr
  have gk2:∀ b o,b<nx'→af heap b=some o→af ((nx',AO.cells [.str r.1,.int .i64 r.2])::(nx',.cells [.str [],.int .i64 0])::heap) b=some o:=fun b o hb ho=>by rw [ai,if_neg (by omega),ai,if_neg (by omega)];exact ho
  have ho2:aF 3 1 ((nx',AO.cells [.str r.1,.int .i64 r.2])::(nx',.cells [.str [],.int .i64 0])::heap) (nx'+1) z (((g.params.take i).map (·.2)).map inE):=ho.keep (by omega) fun b o hb hg=>gk2 b o (ho.blk hb).2.2 hg
  have hlt:(g.params.take i).length≤g.params.length:=by rw [Hf];omega
  obtain ⟨z',h3,n3,ea,ow,hn3,hk3,hb3⟩:=ho2.grw (bytes:=8) (ns:=[inE r.2]) (eq _) (by simp [inE]) (by simp only [He,Hc,Hd];omega) (by simp only [He,Hc,Hd,maxLen];omega)
  have ea':eC 3 1 8 ((nx',AO.cells [.str r.1,.int .i64 r.2])::(nx',.cells [.str [],.int .i64 0])::heap) (nx'+1) z (.lst 1 [[.int .i64 r.2]])=some (z',h3,n3):=ea
  simp -implicitDefEqProofs only [RA,aa,zp,↓reduceIte,reduceCtorEq,zq,zr,zs,zt,sQ,pF,g0,g2,g4,g8,g9,g30,g31,g32,hc,ixp,re,ea',f1]
  have how:aF 3 1 h3 n3 z' (((g.params.take (i+1)).map (·.2)).map inE):=by
   rw [wt,Hk];exact ow
  have hz1:aw z≠some nx:=fun e=>by have:=hzb nx e;omega
  have hz2:aw z≠some n2:=fun e=>by have:=hzb n2 e;omega
  have gx2:=hk3 nx _ (by omega) (gk2 nx _ (by omega) gx) hz1
  have gg2:=hk3 n2 _ (by omega) (gk2 n2 _ (by omega) gg) hz2
  have gk3:∀ b o,b<nx→af h b=some o→af h3 b=some o:=fun b o hb hg=>hk3 b o (by omega) (gk2 b o (by omega) (gk b o hb hg)) fun e=>by have:=hzb b e;omega
  have hzb2:∀ b,aw z'=some b→n2<b:=fun b hb=>by
   rcases hb3 b hb with h|h
   ·omega
   ·exact hzb b h
  refine ⟨g.params.length-(i+1),by omega,i+1,z',?_⟩
  repeat' apply And.intro
  all_goals first|assumption|rfl|omega|(simp [ab, *];done)
 have hti:g.params.take i=g.params:=Ha (by omega)
 rw [hti] at ho
 simp -implicitDefEqProofs only [RA,aa,zp,↓reduceIte,reduceCtorEq,zq,zr,zs,zt,sQ,pF,g0,g2,g4,g8,g9,g31,g32,hc]
 obtain ⟨h4,hfz,hk4⟩:=ho.frz2 (eq _)
 have hgk4:∀ b o,b≤n2→af heap b=some o→af h4 b=some o:=fun b o hb hg=>hk4 b o hg fun y e=>by
  have:=hzb b (by rw [e];rfl)
  omega
 refine AC.arg [cP ws] [] hfz ?_
 refine (w148 ws (g.params.map (·.2)) (by omega)).use fun n5 hn5=>?_
 have gx4:=hgk4 nx _ (by omega) gx
 have gg4:=hgk4 n2 _ (by omega) gg
 have gk4:∀ b o,b<nx→af h b=some o→af h4 b=some o:=fun b o hb hg=>hgk4 b o (by omega) (gk b o hb hg)
 have gc4:=gk4 c _ hcn gc
 have gc5:=gc4
 simp only [chk] at gc5
 have hv4:=hv.keep (nx':=n5) (by omega) gk4
 rcases ah (ws=g.params.map (·.2)) with ⟨d2',d2⟩|⟨d2',d2⟩
 case inr =>
  rw [if_neg d2']
  simp -implicitDefEqProofs only [RA,aa,zp,↓reduceIte,reduceCtorEq,zq,zr,zs,zt,g4,d2,unA,rY]
  exact gk4
 rw [if_pos d2']
 cases hn:(n==[]) with
 | true =>
  simp only [if_true]
  simp -implicitDefEqProofs only [RA,aa,zp,↓reduceIte,reduceCtorEq,zq,zr,zs,zt,g4,d2,unA,gx4,aG,aU,hn,eR,rY]
  exact gk4
 | false =>
  simp only [if_false,HQ]
  simp -implicitDefEqProofs only [RA,aa,zp,↓reduceIte,reduceCtorEq,zq,zr,zs,zt,g0,g4,d2,unA,gx4,aG,aU,hn,eR]
  refine (w82 p f v kn c n h4 n5 gc4 (by omega) hv4 (by omega)).mono ?_
  rintro y h6 n6 ⟨rfl,rfl,hn6⟩
  rcases ah (kw kn n=0) with ⟨d3',d3⟩|⟨d3',d3⟩
  case inl =>
   rw [if_pos d3']
   simp -implicitDefEqProofs only [RA,aa,zp,↓reduceIte,reduceCtorEq,zq,zr,zs,zt,g0,g4,gx4,d3,rY]
   exact gk4
  rw [if_neg d3']
  simp -implicitDefEqProofs only [RA,aa,zp,↓reduceIte,reduceCtorEq,zq,zr,zs,zt,g0,g4,g8,gx4,gg4,d3]
  refine (w82 p f v kn c n _ n6 gc4 (by omega) (hv4.keep hn6 fun b o _ ho=>ho) (by omega)).mono ?_
  rintro y h7 n7 ⟨rfl,rfl,hn7⟩
  rcases ah (kw kn n=g.result) with ⟨d4',d4⟩|⟨d4',d4⟩
  ·rw [if_pos d4']
   simp -implicitDefEqProofs only [RA,aa,zp,↓reduceIte,reduceCtorEq,zq,zr,zs,zt,g0,g4,g8,gx4,gg4,d4]
   refine (mf true).use fun n8 hn8=>?_
   simp -implicitDefEqProofs only [RA,aa,zp,↓reduceIte,reduceCtorEq,zq,zr,zs,zt,if_true,rY]
   exact gk4
  ·rw [if_neg d4']
   simp -implicitDefEqProofs only [RA,aa,zp,↓reduceIte,reduceCtorEq,zq,zr,zs,zt,g0,g4,g8,gx4,gg4,d4]
   refine (mf false).use fun n8 hn8=>?_
   simp -implicitDefEqProofs only [RA,aa,zp,↓reduceIte,reduceCtorEq,zq,zr,zs,zt,if_false,HQ,rY]
   exact gk4
theorem CkS.toP {cells:AV→List AV} {c:Nat} {kn:List Pm} {h h':Heap} {nx n':Nat} {v:AV} (hs:CkS cells c kn h nx v) (hle:nx≤n') (hk:∀ k o,k<nx→af h k=some o→af h' k=some o):CkP cells c v h nx kn h' n':=⟨v,hs.over hle hk,Kp.over hle hk⟩
theorem CkP.pre {cells:AV→List AV} {c:Nat} {kn:List Pm} {h h1 h':Heap} {nx n1 n':Nat} {v:AV} (hp:CkP cells c v h1 n1 kn h' n') (hle:nx≤n1) (hk:∀ k o,k<nx→af h k=some o→af h1 k=some o):CkP cells c v h nx kn h' n':=by
 obtain ⟨v',a,b⟩:=hp
 exact ⟨v',a,b.pre hle hk⟩
theorem CkP.post {cells:AV→List AV} {c:Nat} {kn:List Pm} {h h1 h':Heap} {nx n1 n':Nat} {v:AV} (hp:CkP cells c v h nx kn h1 n1) (hle:n1≤n') (hk:∀ k o,k<n1→af h1 k=some o→af h' k=some o):CkP cells c v h nx kn h' n':=by
 obtain ⟨v',a,b⟩:=hp
 exact ⟨v',a.over hle hk,b.trans (Kp.over hle hk)⟩
theorem td {k w:Int} {n fn:Nm} {l:List Ex} {bo el:List Sm} (h:wfS (.mk k n fn w l bo el)=true):((k=1∨k=2∨k=4∨k=5)→l.length=1)∧(k=3→l.length=2)∧(k=8→l.length≤1):=by
 rw [bQ,HR,HR,HR] at h
 have h1:=h.1.1.1
 unfold wfM at h1
 refine ⟨fun hk=>?_,fun hk=>?_,fun hk=>?_⟩
 ·rcases hk with rfl|rfl|rfl|rfl <;> simp at h1 <;> omega
 ·subst hk;simp at h1;omega
 ·subst hk;simp at h1;omega
theorem fh (a:Int) (r:List Int):idxA 1 (cP (a::r)) 0=some (.fp [.int .i64 a]):=gC (l:=a::r) (n:=0) rfl
theorem wV (a b:Int) (r:List Int):idxA 1 (cP (a::b::r)) 1=some (.fp [.int .i64 b]):=gC (l:=a::b::r) (n:=1) rfl
theorem w134 (p:Pr) (f:Fu) (v:AV) (kn:List Pm) (c:Nat) (k w:Int) (n fn:Nm) (l:List Ex) (bo el:List Sm) (ws:List Int) (loop:Bool) (h:Heap) (nx:Nat) (hs:CkS (chk p f) c kn h nx v) (hl:kn.length≤1000000) (hal:p.arrays.length≤4611686018427387904) (hfl:p.funcs.length≤4611686018427387904) (hpl:∀ g∈p.funcs,g.params.length≤1000000) (hwl:ws.length=l.length) (hll:l.length≤1000000) (hwf:wfS (.mk k n fn w l bo el)=true) :
  AC Tryz.prog 134 [.op c 0,.agg (smE (.mk k n fn w l bo el)),cP ws,.bool loop] h nx fun y h' n'=>y=.ret (.int .i64 (rlE p f.result kn k n fn w ws loop).1)∧CkP (chk p f) c v h nx (rlE p f.result kn k n fn w ws loop).2 h' n':=by
 refine AC.go aj DW (by simp) ?_
 obtain ⟨w1,w2,w3⟩:=td hwf
 rw [cH]
 have hcn:=hs.2.2.2
 have nc:(nx=c)=False:=eq_false (by omega)
 have gk0:∀ b o,b<nx→af h b=some o→af ((nx,AO.cells [.int .u8 k,.str n,.str fn,.int .i64 w,aR l,ay bo,ay el])::h) b=some o:=fun b o hb ho=>by rw [ai,if_neg (by omega)];exact ho
 have hs1:=hs.over (n':=nx+1) (by omega) gk0
 have gc2:=hs.1
 simp only [chk] at gc2
 have hvn:aw v≠some nx:=fun e=>by have:=(hs.2.1.blk e).2.2;omega
 generalize hre:rlE p f.result kn k n fn w ws loop=re
 unfold rlE at hre
 have same:∀ n',nx≤n'→re.2=kn→CkP (chk p f) c v h nx re.2 ((nx,AO.cells [.int .u8 k,.str n,.str fn,.int .i64 w,aR l,ay bo,ay el])::h) n':=fun n' hn e=>by
  rw [e];exact hs.toP hn gk0
 by_cases h1:k=1
 case pos =>
  subst h1
  have hs1':=w1 (.inl rfl)
  obtain ⟨a,rfl⟩:∃ a,ws=[a]:=Hq.1 (by omega)
  have i0:=fh a []
  simp only [Ie,if_true,List.getD_cons_zero] at hre
  simp -implicitDefEqProofs only [RA,aa,zp,↓reduceIte,reduceCtorEq,zq,zr,zs,zt,kT,gW,↓aT,↓aS,↓aB,↓aA,↓fV,↓fR,Ie]
  refine (Ds p f v kn c n w _ (nx+1) hs1 hl hal).mono ?_
  rintro y h2 n2 ⟨rfl,hp⟩
  rcases ah (df p kn n=0) with ⟨d1',d1⟩|⟨d1',d1⟩
  case inr =>
   rw [if_neg d1'] at hre hp
   have e1:df p kn n=re.1:=by rw [← hre]
   simp -implicitDefEqProofs only [RA,aa,zp,↓reduceIte,reduceCtorEq,zq,zr,zs,zt,d1,← e1,ja]
   rw [show re.2=kn by rw [← hre]]
   exact hp.pre (by omega) gk0
  rw [if_pos d1'] at hre hp
  obtain ⟨v',hs2,hk2⟩:=hp
  have gx2:=hk2.2.1 nx (.cells [.int .u8 1,.str n,.str fn,.int .i64 w,aR l,ay bo,ay el]) (by omega) (by omega) hvn (by simp [af])
  simp -implicitDefEqProofs only [RA,aa,zp,↓reduceIte,reduceCtorEq,zq,zr,zs,zt,d1,i0,gx2]
  refine (mf (decide (a=w))).use fun n3 hn3=>?_
  have e1:(if decide (a=w)=true then (0:Int) else 14)=re.1:=by rw [← hre];simp only [decide_eq_true_eq]
  simp -implicitDefEqProofs only [RA,aa,zp,↓reduceIte,reduceCtorEq,zq,zr,zs,zt,e1,ja]
  rw [show re.2=kn++[(n,w)] by rw [← hre]]
  exact (CkP.pre ⟨v',hs2,hk2⟩ (by omega) gk0).post hn3 fun k o _ ho=>ho
 have k1:(k=1)=False:=eq_false h1
 rw [if_neg h1] at hre
 by_cases h2:k=2
 case pos =>
  subst h2
  have hs1':=w1 (.inr (.inl rfl))
  obtain ⟨a,rfl⟩:∃ a,ws=[a]:=Hq.1 (by omega)
  have i0:=fh a []
  simp only [Ie,if_true,List.getD_cons_zero] at hre
  simp -implicitDefEqProofs only [RA,aa,zp,↓reduceIte,reduceCtorEq,zq,zr,zs,zt,kT,gW,↓aT,↓aS,↓aB,↓aA,↓fV,↓fR,Ie]
  refine (w82 p f v kn c n _ (nx+1) hs1.1 (by omega) (.inr hs1.2.1) (by omega)).mono ?_
  rintro y h2 n2 ⟨rfl,rfl,hn2⟩
  rcases ah (kw kn n=0) with ⟨d1',d1⟩|⟨d1',d1⟩
  case inl =>
   rw [if_pos d1'] at hre
   have e1:(16:Int)=re.1:=by rw [← hre]
   simp -implicitDefEqProofs only [RA,aa,zp,↓reduceIte,reduceCtorEq,zq,zr,zs,zt,d1,← e1,ja]
   exact same _ (by omega) (by rw [← hre])
  rw [if_neg d1'] at hre
  simp -implicitDefEqProofs only [RA,aa,zp,↓reduceIte,reduceCtorEq,zq,zr,zs,zt,d1,i0]
  refine (mf (decide (a=kw kn n))).use fun n3 hn3=>?_
  have e1:(if decide (a=kw kn n)=true then (0:Int) else 14)=re.1:=by rw [← hre];simp only [decide_eq_true_eq]
  simp -implicitDefEqProofs only [RA,aa,zp,↓reduceIte,reduceCtorEq,zq,zr,zs,zt,e1,ja]
  exact same _ (by omega) (by rw [← hre])
 have k2:(k=2)=False:=eq_false h2
 rw [if_neg h2] at hre
 by_cases h3:k=3
 case pos =>
  subst h3
  have hs1':=w2 rfl
  obtain ⟨a,d,rfl⟩:∃ a d,ws=[a,d]:=wL (by omega)
  have i0:=fh a [d]
  have i1:=wV a d []
  simp only [Ie,if_true,List.getD_cons_zero,List.getD_cons_succ] at hre
  simp -implicitDefEqProofs only [RA,aa,zp,↓reduceIte,reduceCtorEq,zq,zr,zs,zt,kT,gW,↓aT,↓aS,↓aB,↓aA,↓fV,↓fR,Ie,gc2,nc]
  refine (w83 p n hal).use fun n2 hn2=>?_
  rcases ah (arI p n<0) with ⟨d1',d1⟩|⟨d1',d1⟩
  case inl =>
   rw [if_pos d1'] at hre
   have e1:(16:Int)=re.1:=by rw [← hre]
   simp -implicitDefEqProofs only [RA,aa,zp,↓reduceIte,reduceCtorEq,zq,zr,zs,zt,d1,gc2,nc,← e1,ja]
   exact same _ (by omega) (by rw [← hre])
  rw [if_neg d1'] at hre
  obtain ⟨j,ar,q1,q2,q3⟩:=iw d1'
  have ix:=cO q2
  have ae:=dB ar
  simp -implicitDefEqProofs only [RA,aa,zp,↓reduceIte,reduceCtorEq,zq,zr,zs,zt,d1,gc2,nc,i0]
  refine (C4 _ _).mono ?_
  rintro y h3 n3 ⟨bm,rfl,hn3,hbm,hk3⟩
  have hg2:=hk3 c _ (by rw [ai,if_neg (by omega)];exact gc2)
  have lk:fB h3 .str (.int .i64 0) false (.mp bm) (.str [119,111,114,100])=some (.int .i64 32):=by
   simp [fB,jx,hbm,ci,eI,dk,eqC]
  have last:CkP (chk p f) c v h nx kn h3 n3:=hs.toP (by omega) fun b o hb ho=>hk3 b o (gk0 b o hb ho)
  rcases ah (a=32) with ⟨d2',d2⟩|⟨d2',d2⟩
  case inr =>
   simp -implicitDefEqProofs only [RA,aa,zp,↓reduceIte,reduceCtorEq,zq,zr,zs,zt,lk,d2,eR]
   refine (mf false).use fun n4 hn4=>?_
   have e1:(14:Int)=re.1:=by rw [← hre,if_neg (fun h=>d2' h.1)]
   simp -implicitDefEqProofs only [RA,aa,zp,↓reduceIte,reduceCtorEq,zq,zr,zs,zt,if_false,HQ,← e1,ja]
   rw [show re.2=kn by rw [← hre]]
   exact last.post hn4 fun k o _ ho=>ho
  simp -implicitDefEqProofs only [RA,aa,zp,↓reduceIte,reduceCtorEq,zq,zr,zs,zt,lk,d2,eR,i1,hg2,q1,ix,ae]
  refine (mf (decide (d=ar.width))).use fun n4 hn4=>?_
  have e1:(if decide (d=ar.width)=true then (0:Int) else 14)=re.1:=by rw [← hre];simp only [decide_eq_true_eq,d2',true_and,q3]
  simp -implicitDefEqProofs only [RA,aa,zp,↓reduceIte,reduceCtorEq,zq,zr,zs,zt,e1,ja]
  rw [show re.2=kn by rw [← hre]]
  exact last.post hn4 fun k o _ ho=>ho
 have k3:(k=3)=False:=eq_false h3
 rw [if_neg h3] at hre
 by_cases h4:k=4
 case pos =>
  subst h4
  have hs1':=w1 (.inr (.inr (.inl rfl)))
  obtain ⟨a,rfl⟩:∃ a,ws=[a]:=Hq.1 (by omega)
  have i0:=fh a []
  simp only [Ie,if_true,List.getD_cons_zero,true_or] at hre
  simp -implicitDefEqProofs only [RA,aa,zp,↓reduceIte,reduceCtorEq,zq,zr,zs,zt,kT,gW,↓aT,↓aS,↓aB,↓aA,↓fV,↓fR,Ie,i0]
  refine (mf (decide (a=1))).use fun n3 hn3=>?_
  have e1:(if decide (a=1)=true then (0:Int) else 14)=re.1:=by rw [← hre];simp only [decide_eq_true_eq]
  simp -implicitDefEqProofs only [RA,aa,zp,↓reduceIte,reduceCtorEq,zq,zr,zs,zt,e1,ja]
  exact same _ (by omega) (by rw [← hre])
 have k4:(k=4)=False:=eq_false h4
 by_cases h5:k=5
 case pos =>
  subst h5
  have hs1':=w1 (.inr (.inr (.inr rfl)))
  obtain ⟨a,rfl⟩:∃ a,ws=[a]:=Hq.1 (by omega)
  have i0:=fh a []
  simp only [Ie,if_true,List.getD_cons_zero,or_true] at hre
  simp -implicitDefEqProofs only [RA,aa,zp,↓reduceIte,reduceCtorEq,zq,zr,zs,zt,kT,gW,↓aT,↓aS,↓aB,↓aA,↓fV,↓fR,Ie,i0]
  refine (mf (decide (a=1))).use fun n3 hn3=>?_
  have e1:(if decide (a=1)=true then (0:Int) else 14)=re.1:=by rw [← hre];simp only [decide_eq_true_eq]
  simp -implicitDefEqProofs only [RA,aa,zp,↓reduceIte,reduceCtorEq,zq,zr,zs,zt,e1,ja]
  exact same _ (by omega) (by rw [← hre])
 have k5:(k=5)=False:=eq_false h5
 rw [if_neg (by omega)] at hre
 by_cases h6:k=6
 case pos =>
  subst h6
  simp only [Ie,if_true] at hre
  cases loop with
  | true =>
   have e1:(0:Int)=re.1:=by rw [← hre];rfl
   simp -implicitDefEqProofs only [RA,aa,zp,↓reduceIte,reduceCtorEq,zq,zr,zs,zt,kT,gW,↓aT,↓aS,↓aB,↓aA,↓fV,↓fR,Ie,unA,← e1,ja]
   exact same _ (by omega) (by rw [← hre])
  | false =>
   have e1:(12:Int)=re.1:=by rw [← hre];rfl
   simp -implicitDefEqProofs only [RA,aa,zp,↓reduceIte,reduceCtorEq,zq,zr,zs,zt,kT,gW,↓aT,↓aS,↓aB,↓aA,↓fV,↓fR,Ie,unA,← e1,ja]
   exact same _ (by omega) (by rw [← hre])
 have k6:(k=6)=False:=eq_false h6
 rw [if_neg h6] at hre
 by_cases h8:k=8
 case pos =>
  subst h8
  have hs1':=w3 rfl
  simp only [if_true] at hre
  match ws,hwl with
  | [],_ =>
   have lw:dt (cP [])=some 0:=rfl
   have z0:(((0:Nat):Int)=0)=True:=eq_true rfl
   have z1:(((0:Nat):Int)=1)=False:=eq_false (by omega)
   rcases ah (f.result=0) with ⟨d1',d1⟩|⟨d1',d1⟩
   ·simp -implicitDefEqProofs only [RA,aa,zp,↓reduceIte,reduceCtorEq,zq,zr,zs,zt,kT,gW,↓aT,↓aS,↓aB,↓aA,↓fV,↓fR,Ie,lw,z0,z1,gc2,nc,d1]
    refine (mf true).use fun n3 hn3=>?_
    have e1:(0:Int)=re.1:=by rw [← hre];simp [d1']
    simp -implicitDefEqProofs only [RA,aa,zp,↓reduceIte,reduceCtorEq,zq,zr,zs,zt,if_true,← e1,ja]
    exact same _ (by omega) (by rw [← hre])
   ·simp -implicitDefEqProofs only [RA,aa,zp,↓reduceIte,reduceCtorEq,zq,zr,zs,zt,kT,gW,↓aT,↓aS,↓aB,↓aA,↓fV,↓fR,Ie,lw,z0,z1,gc2,nc,d1]
    refine (mf false).use fun n3 hn3=>?_
    have e1:(14:Int)=re.1:=by rw [← hre];simp [d1']
    simp -implicitDefEqProofs only [RA,aa,zp,↓reduceIte,reduceCtorEq,zq,zr,zs,zt,if_false,HQ,← e1,ja]
    exact same _ (by omega) (by rw [← hre])
  | [a],_ =>
   have lw:dt (cP [a])=some 1:=rfl
   have z0:(((1:Nat):Int)=0)=False:=eq_false (by omega)
   have z1:(((1:Nat):Int)=1)=True:=eq_true rfl
   have i0:=fh a []
   simp -implicitDefEqProofs only [RA,aa,zp,↓reduceIte,reduceCtorEq,zq,zr,zs,zt,kT,gW,↓aT,↓aS,↓aB,↓aA,↓fV,↓fR,Ie,lw,z0,z1,gc2,nc,i0]
   refine (mf (decide (a=f.result))).use fun n3 hn3=>?_
   have e1:(if decide (a=f.result)=true then (0:Int) else 14)=re.1:=by rw [← hre];simp
   simp -implicitDefEqProofs only [RA,aa,zp,↓reduceIte,reduceCtorEq,zq,zr,zs,zt,e1,ja]
   exact same _ (by omega) (by rw [← hre])
  | _::_::_,hwl=>simp only [Hc] at hwl;omega
 have k8:(k=8)=False:=eq_false h8
 rw [if_neg h8] at hre
 by_cases h9:k=9
 case pos =>
  subst h9
  simp only [if_true] at hre
  have hm:=cH 9 n fn w l bo el
  simp -implicitDefEqProofs only [RA,aa,zp,↓reduceIte,reduceCtorEq,zq,zr,zs,zt,kT,gW,↓aT,↓aS,↓aB,↓aA,↓fV,↓fR,Ie]
  have c81:=w144 p f v kn c 9 w n fn l bo el ws _ (nx+1) hs1.1 (by omega) (.inr hs1.2.1) hl hfl hpl (by omega)
  rw [hm] at c81
  refine c81.mono ?_
  rintro y h2 n2 ⟨rfl,rfl,hn2⟩
  have e1:gT p kn n fn ws=re.1:=by rw [← hre]
  simp -implicitDefEqProofs only [RA,aa,zp,↓reduceIte,reduceCtorEq,zq,zr,zs,zt,e1,ja]
  exact same _ (by omega) (by rw [← hre])
 have k9:(k=9)=False:=eq_false h9
 rw [if_neg h9] at hre
 have e1:(0:Int)=re.1:=by rw [← hre]
 simp -implicitDefEqProofs only [RA,aa,zp,↓reduceIte,reduceCtorEq,zq,zr,zs,zt,kT,gW,↓aT,↓aS,↓aB,↓aA,↓fV,↓fR,k1,k2,k3,k4,k5,k6,k8,k9,← e1,ja]
 exact same _ (by omega) (by rw [← hre])
mutual
def szE:Ex→Nat
 | .mk _ _ _ n _ s=>1+n.length+cD s
def cD:List Ex→Nat
 | []=>0
 | x::r=>szE x+cD r
end
mutual
def szS:Sm→Nat
 | .mk _ n f _ l b e=>1+n.length+f.length+cD l+bS b+bS e
def bS:List Sm→Nat
 | []=>0
 | x::r=>szS x+bS r
end
mutual
theorem mH:∀ x:Ex,bM x≤szE x
 | .mk _ _ _ n _ s=>by have:=fM s;simp only [bM,szE];omega
theorem fM:∀ l:List Ex,aN l≤cD l
 | []=>by simp [aN]
 | x::r=>by have:=mH x;have:=fM r;simp only [aN,cD];omega
end
mutual
theorem mw:∀ x:Sm,ff x≤szS x
 | .mk _ n f _ l b e=>by have:=cF b;have:=cF e;simp only [ff,szS];omega
theorem cF:∀ l:List Sm,aL l≤bS l
 | []=>by simp [aL]
 | x::r=>by have:=mw x;have:=cF r;simp only [aL,bS];omega
end
mutual
theorem BZ:∀ x:Ex,szE x≤100000→shE x
 | .mk _ _ _ n _ s,h=>by simp only [szE] at h;exact ⟨by omega,oe s (by omega)⟩
theorem oe:∀ l:List Ex,cD l≤100000→uH l
 | [],_=>trivial
 | x::r,h=>by simp only [cD] at h;exact ⟨BZ x (by omega),oe r (by omega)⟩
end
mutual
theorem rh:∀ x:Sm,szS x≤100000→shS x
 | .mk _ n f _ l b e,h=>by
  simp only [szS] at h
  have:=fM l
  exact ⟨by omega,by omega,oe l (by omega),by omega,lG b (by omega),lG e (by omega)⟩
theorem lG:∀ l:List Sm,bS l≤100000→kD l
 | [],_=>trivial
 | x::r,h=>by simp only [bS] at h;exact ⟨rh x (by omega),lG r (by omega)⟩
end
theorem bH:∀ {l:List Sm} {x:Sm},x∈l→szS x≤bS l
 | [],x,h=>by simp at h
 | y::r,x,h=>by
  simp only [bS]
  rcases List.mem_cons.1 h with rfl|h
  ·omega
  ·have:=bH h;omega
theorem lF (x:Sm):1≤szS x:=by cases x;simp only [szS];omega
theorem nT {k w:Int} {n fn:Nm} {l:List Ex} {bo el:List Sm} (h:wfS (.mk k n fn w l bo el)=true):(∀ x∈l,wfE x=true)∧(∀ x∈bo,wfS x=true)∧(∀ x∈el,wfS x=true):=by
 rw [bQ,HR,HR,HR] at h
 exact ⟨Hh.1 h.1.1.2,Hh.1 h.1.2,Hh.1 h.2⟩
mutual
def stW (p:Pr) (res:Int):Sm→List Pm→Bool→Int × List Pm
 | .mk k n fn w l bo el,kn,loop =>
  if (a9 p kn l).1=0 then
   (if (rlE p res kn k n fn w (a9 p kn l).2 loop).1=0 then
    (if (blW p res bo (rlE p res kn k n fn w (a9 p kn l).2 loop).2 (loop||decide (k=5))).1=0 then
     blW p res el (blW p res bo (rlE p res kn k n fn w (a9 p kn l).2 loop).2 (loop||decide (k=5))).2 loop
    else blW p res bo (rlE p res kn k n fn w (a9 p kn l).2 loop).2 (loop||decide (k=5)))
   else rlE p res kn k n fn w (a9 p kn l).2 loop)
  else ((a9 p kn l).1,kn)
def blW (p:Pr) (res:Int):List Sm→List Pm→Bool→Int × List Pm
 | [],kn,_=>(0,kn)
 | x::r,kn,loop=>if (stW p res x kn loop).1=0 then blW p res r (stW p res x kn loop).2 loop else stW p res x kn loop
end
theorem oh (p:Pr) (res:Int) (kn:List Pm) (k:Int) (n fn:Nm) (w:Int) (ws:List Int) (loop:Bool):(rlE p res kn k n fn w ws loop).2.length≤kn.length+(if k=1 then 1 else 0):=by
 unfold rlE
 by_cases h1:k=1
 ·simp only [h1,if_true]
  split <;> simp
 ·simp only [h1,if_false]
  repeat' split
  all_goals simp
mutual
theorem tj (p:Pr) (res:Int):∀ (x:Sm) (kn:List Pm) (loop:Bool),(stW p res x kn loop).2.length≤kn.length+vars x
 | .mk k n fn w l bo el,kn,loop=>by
  have h1:=oh p res kn k n fn w (a9 p kn l).2 loop
  have h2:=bD p res bo (rlE p res kn k n fn w (a9 p kn l).2 loop).2 (loop||decide (k=5))
  have h3:=bD p res el (blW p res bo (rlE p res kn k n fn w (a9 p kn l).2 loop).2 (loop||decide (k=5))).2 loop
  rw [stW,vars]
  split at h1
  all_goals
   split
   ·split
    ·split
     ·omega
     ·omega
    ·omega
   ·simp only;omega
theorem bD (p:Pr) (res:Int):∀ (l:List Sm) (kn:List Pm) (loop:Bool),(blW p res l kn loop).2.length≤kn.length+bg l
 | [],kn,loop=>by simp [blW]
 | x::r,kn,loop=>by
  have h1:=tj p res x kn loop
  have h2:=bD p res r (stW p res x kn loop).2 loop
  rw [blW,bg]
  split <;> omega
end
theorem vh {p:Pr} {kn:List Pm} {l:List Ex} {i:Nat} {x:Ex} (hx:l[i]?=some x) (h:(a9 p kn (l.take i)).1=0) (he:(exW p kn x).1≠0):(a9 p kn l).1≠0∧(exW p kn x).1=(a9 p kn l).1:=by
 rw [qC hx h he];exact ⟨he,rfl⟩
theorem w109 (p:Pr) (f:Fu) (c:Nat) (hal:p.arrays.length≤4611686018427387904) (hfl:p.funcs.length≤4611686018427387904) (hpl:∀ g∈p.funcs,g.params.length≤1000000):∀ (m:Nat) (l:List Sm),bS l≤m→bS l≤5000→(∀ x∈l,wfS x=true)→∀ (kn:List Pm) (loop:Bool) (v:AV) (h:Heap) (nx:Nat),kn.length+bg l≤100000→CkS (chk p f) c kn h nx v →
  AC Tryz.prog 109 [.op c 0,ay l,.bool loop] h nx fun y h' n'=>y=.ret (.int .i64 (blW p f.result l kn loop).1)∧CkP (chk p f) c v h nx (blW p f.result l kn loop).2 h' n':=by
 intro m
 induction m with
 | zero =>
  intro l hl0 hB hwf kn loop v h nx hkn hs
  have:l.length≤0:=by have:=bW l;have:=cF l;omega
  have:l=[]:=List.eq_nil_of_length_eq_zero (by omega)
  subst this
  refine AC.go aj Az (by simp) ?_
  have lv:=aO []
  simp -implicitDefEqProofs only [RA,aa,zp,↓reduceIte,reduceCtorEq,zq,zr,zs,zt,C2,yL,lv]
  refine aq (fun q st=>st.heap=h∧nx≤st.nx∧ab st.env 16=some (.int .i64 0)∧ab st.env 17=some (.int .i64 0)∧st.dm=[]) (n:=0) aj ⟨rfl,by simp,by simp [ab],by simp [ab],rfl⟩ ?_
  rintro q ⟨env,heap,nx',dm⟩ ⟨h1,h2,g9,g10,hdm⟩
  simp only at h1 h2 g9 g10 hdm
  subst hdm;subst h1
  have e:blW p f.result [] kn loop=(0,kn):=by rw [blW]
  rw [e]
  simp -implicitDefEqProofs only [RA,aa,zp,↓reduceIte,reduceCtorEq,zq,zr,zs,zt,pN,l0,g9,g10,Int.lt_irrefl,pf]
  exact CkP.refl hs h2
 | succ m ih =>
  intro l hlm hB hwf kn loop v h nx hkn hs
  refine AC.go aj Az (by simp) ?_
  have lv:=aO l
  have hlen:=bW l
  have hsz:=cF l
  simp -implicitDefEqProofs only [RA,aa,zp,↓reduceIte,reduceCtorEq,zq,zr,zs,zt,C2,yL,lv]
  refine aq (fun q st=>∃ (i:Nat) (k1:List Pm),q=l.length-i∧i≤l.length∧blW p f.result l kn loop=blW p f.result (l.drop i) k1 loop∧k1.length+bg (l.drop i)≤100000∧ab st.env 0=some (.op c 0)∧ab st.env 2=some (.bool loop)∧ab st.env 15=some (ay l)∧ab st.env 16=some (.int .i64 l.length)∧ab st.env 17=some (.int .i64 i)∧CkP (chk p f) c v h nx k1 st.heap st.nx∧st.dm=[]) (n:=l.length) aj
   ⟨0,kn,rfl,by omega,by simp,by simpa using hkn,by simp [ab],by simp [ab],by simp [ab],by simp [ab],by simp [ab],CkP.refl hs (by simp),rfl⟩ ?_
  rintro q ⟨env,heap,nx',dm⟩ ⟨i,k1,rfl,hi,hb,hk1,g0,g2,g15,g16,g17,hp,hdm⟩
  simp only at g0 g2 g15 g16 g17 hp hdm
  subst hdm
  have f1:=wS (i:=i) (by omega)
  by_cases hc:(i:Int)<(l.length:Int)
  case neg =>
   have:l.drop i=[]:=Hb (by omega)
   rw [this,blW] at hb
   rw [hb]
   simp -implicitDefEqProofs only [RA,aa,zp,↓reduceIte,reduceCtorEq,zq,zr,zs,zt,pN,l0,g16,g17,hc,pf]
   exact hp
  have hr:=G7 (show i<l.length by omega)
  generalize l[i]=s at hr
  have hmem:=G8 hr
  have ix:=eQ hr
  have hws:=hwf s hmem
  have hss:=bH hmem
  rw [cG hr] at hb hk1
  rw [bg] at hk1
  rw [blW] at hb
  obtain ⟨k,n,fn,w,ex,bo,el⟩:=s
  obtain ⟨wx,wb,we⟩:=nT hws
  have hrl:=oh p f.result k1 k n fn w (a9 p k1 ex).2 loop
  obtain ⟨v1,hs1,kp1⟩:=hp
  have hcn1:=hs1.2.2.2
  rw [cH] at ix
  have le:=aP ex
  have hze:=fM ex
  have hzl:=aE ex
  rw [szS] at hss
  rw [vars] at hk1
  obtain ⟨S,hS⟩:∃ S,stW p f.result (.mk k n fn w ex bo el) k1 loop=S:=⟨_,rfl⟩
  rw [hS] at hb
  rw [stW] at hS
  obtain ⟨t,ht⟩:∃ t:Nat,(if k=1 then 1 else 0)=t:=⟨_,rfl⟩
  rw [ht] at hrl hk1
  have hvn:aw v1≠some nx':=fun e=>by have:=(hs1.2.1.blk e).2.2;omega
  simp -implicitDefEqProofs only [RA,aa,zp,↓reduceIte,reduceCtorEq,zq,zr,zs,zt,pN,l0,g0,g2,g15,g16,g17,hc,ix,le,↓aT,↓aS,↓aB,↓aA]
  refine aq (fun q st=>∃ (j:Nat) (z:AV),q=ex.length-j∧j≤ex.length∧(a9 p k1 (ex.take j)).1=0∧ab st.env 0=some (.op c 0)∧ab st.env 2=some (.bool loop)∧ab st.env 8=some (.op nx' 0)∧ab st.env 9=some z∧ab st.env 15=some (ay l)∧ab st.env 16=some (.int .i64 l.length)∧ab st.env 17=some (.int .i64 i)∧ab st.env 22=some (aR ex)∧ab st.env 23=some (.int .i64 ex.length)∧ab st.env 24=some (.int .i64 j)∧aF 3 1 st.heap st.nx z ((a9 p k1 (ex.take j)).2.map inE)∧(∀ b,aw z=some b→nx'<b)∧af st.heap nx'=some (.cells [.int .u8 k,.str n,.str fn,.int .i64 w,aR ex,ay bo,ay el])∧(∀ b o,b<nx'→af heap b=some o→af st.heap b=some o)∧nx'<st.nx∧st.dm=[]) (n:=ex.length) aj
   ⟨0,.nilS,rfl,by omega,by simp [a9],by simp [ab,g0],by simp [ab,g2],by simp [ab],by simp [ab],by simp [ab,g15],by simp [ab,g16],by simp [ab,g17],by simp [ab],by simp [ab],by simp [ab],.inl ⟨rfl,by simp [a9]⟩,by simp [aw],by simp [af],fun b o hb ho=>by rw [ai,if_neg (by omega),ai,if_neg (by omega)];exact ho,by simp,rfl⟩ ?_
  clear g0 g2 g15 g16 g17 env
  rintro q ⟨env,hp2,nx2,dm⟩ ⟨j,z,rfl,hj,hz,g0,g2,g8,g9,g15,g16,g17,g22,g23,g24,ho,hzb,gx,gk,hnx2,hdm⟩
  simp only at g0 g2 g8 g9 g15 g16 g17 g22 g23 g24 ho gx gk hnx2 hdm
  subst hdm
  have j1:=wS (i:=j) (by omega)
  have hs2:=hs1.over (n':=nx2) (by omega) gk
  by_cases hcj:(j:Int)<(ex.length:Int)
  case pos =>
   have hrx:=G7 (show j<ex.length by omega)
   generalize ex[j]=x at hrx
   have ixx:=bA hrx
   have hmx:=G8 hrx
   have m1:=bL hmx
   rw [eT] at ixx
   have gk2:∀ b o,b<nx2→af hp2 b=some o→af ((nx2,AO.cells (exE x))::(nx2,.cells [.int .u8 0,.int .i64 0,.int .u64 0,.str [],.int .u8 0,.nilS])::hp2) b=some o:=fun b o hb ho=>by rw [ai,if_neg (by omega),ai,if_neg (by omega)];exact ho
   simp -implicitDefEqProofs only [RA,aa,zp,↓reduceIte,reduceCtorEq,zq,zr,zs,zt,sX,pO,g0,g2,g8,g9,g15,g16,g17,g22,g23,g24,hcj,ixx]
   rw [← eT]
   have hs3:=hs2.over (n':=nx2+1) (by omega) gk2
   refine (w39 p f v1 k1 c (by omega) hal _ x (H4 _) (by omega) (wx x hmx) _ (nx2+1) hs3.1 hs3.2.2.2 (.inr hs3.2.1)).mono ?_
   rintro y h2 n2 ⟨rfl,rfl,hn2⟩
   rcases ah ((exW p k1 x).1=0) with ⟨he',he⟩|⟨he',he⟩
   case inr =>
    obtain ⟨hbad,hbe⟩:=vh hrx hz he'
    rw [if_neg hbad] at hS
    have e1:S.1=(exW p k1 x).1:=by rw [← hS,hbe]
    rw [if_neg (by rw [e1];exact he')] at hb
    rw [hb,e1,show S.2=k1 by rw [← hS]]
    simp -implicitDefEqProofs only [RA,aa,zp,↓reduceIte,reduceCtorEq,zq,zr,zs,zt,he,pf]
    exact (CkP.post ⟨v1,hs1,kp1⟩ (by omega) gk).post (by omega) gk2
   have ok:=lP hrx hz he'
   have ho2:aF 3 1 ((nx2,AO.cells (exE x))::(nx2,.cells [.int .u8 0,.int .i64 0,.int .u64 0,.str [],.int .u8 0,.nilS])::hp2) n2 z ((a9 p k1 (ex.take j)).2.map inE):=ho.keep (by omega) fun b o hb hg=>gk2 b o (ho.blk hb).2.2 hg
   have hll:=iY p k1 _ hz
   have hlt:(ex.take j).length≤ex.length:=by rw [Hf];omega
   obtain ⟨z',h3,n3,ea,ow,hn3,hk3,hb3⟩:=ho2.grw (bytes:=8) (ns:=[inE (exW p k1 x).2]) (eq _) (by simp [inE]) (by simp only [He,Hc,Hd];omega) (by simp only [He,Hc,Hd,maxLen];omega)
   have ea':eC 3 1 8 ((nx2,AO.cells (exE x))::(nx2,.cells [.int .u8 0,.int .i64 0,.int .u64 0,.str [],.int .u8 0,.nilS])::hp2) n2 z (.lst 1 [[.int .i64 (exW p k1 x).2]])=some (z',h3,n3):=ea
   simp -implicitDefEqProofs only [RA,aa,zp,↓reduceIte,reduceCtorEq,zq,zr,zs,zt,g0,g2,g8,g9,g15,g16,g17,g22,g23,g24,he,j1,ea']
   have hzn:aw z≠some nx':=fun e=>by have:=hzb nx' e;omega
   have hz2:(a9 p k1 (ex.take (j+1))).1=0:=by rw [ok]
   have how:aF 3 1 h3 n3 z' ((a9 p k1 (ex.take (j+1))).2.map inE):=by
    rw [ok];simp only [Hk,List.map_cons,List.map_nil];exact ow
   have gx2:=hk3 nx' _ (by omega) (gk2 nx' _ (by omega) gx) hzn
   have gk3:∀ b o,b<nx'→af heap b=some o→af h3 b=some o:=fun b o hb hg=>hk3 b o (by omega) (gk2 b o (by omega) (gk b o hb hg)) fun e=>by have:=hzb b e;omega
   have hzb2:∀ b,aw z'=some b→nx'<b:=fun b hb=>by
    rcases hb3 b hb with h|h
    ·omega
    ·exact hzb b h
   refine ⟨ex.length-(j+1),by omega,j+1,z',?_⟩
   repeat' apply And.intro
   all_goals first|assumption|rfl|omega|(simp [ab, *];done)
  have htj:ex.take j=ex:=Ha (by omega)
  rw [htj] at hz ho
  rw [if_pos hz] at hS
  have hll:=iY p k1 ex hz
  generalize (a9 p k1 ex).2=ws at ho hll hS hrl
  simp -implicitDefEqProofs only [RA,aa,zp,↓reduceIte,reduceCtorEq,zq,zr,zs,zt,sX,pO,g0,g2,g8,g9,g15,g16,g17,g23,g24,hcj,gx]
  obtain ⟨h4,hfz,hk4⟩:=ho.frz2 (eq _)
  have hgk4:∀ b o,b≤nx'→af hp2 b=some o→af h4 b=some o:=fun b o hb hg=>hk4 b o hg fun y e=>by
   have:=hzb b (by rw [e];rfl)
   omega
  have gx4:=hgk4 nx' _ (H4 _) gx
  have hs4:=hs1.over (n':=nx2) (h':=h4) (by omega) fun b o hb hg=>hgk4 b o (by omega) (gk b o hb hg)
  have c59:=w134 p f v1 k1 c k w n fn ex bo el ws loop h4 nx2 hs4 (by omega) hal hfl hpl hll (by omega) hws
  rw [cH] at c59
  refine AC.arg [.op c 0,.agg [.int .u8 k,.str n,.str fn,.int .i64 w,aR ex,ay bo,ay el]] [.bool loop] hfz ?_
  refine c59.mono ?_
  rintro y h5 n5 ⟨rfl,v2,hs5,kp5⟩
  generalize hr:rlE p f.result k1 k n fn w ws loop=r at hS hrl hs5
  have gx5:=kp5.2.1 nx' _ (by omega) (by omega) hvn gx4
  have hvn2:aw v2≠some nx':=fun e=>by
   rcases kp5.2.2 nx' e with h|h
   ·omega
   ·exact hvn h
  have kpA:Kp c v h nx v2 h5 n5:=kp1.trans (kp5.pre (by omega) fun b o hb hg=>hgk4 b o (by omega) (gk b o hb hg))
  rcases ah (r.1=0) with ⟨d1',d1⟩|⟨d1',d1⟩
  case inr =>
   rw [if_neg d1'] at hS
   subst hS
   rw [if_neg d1'] at hb
   rw [hb]
   simp -implicitDefEqProofs only [RA,aa,zp,↓reduceIte,reduceCtorEq,zq,zr,zs,zt,g0,g2,g8,g9,g15,g16,g17,d1,pf]
   exact ⟨v2,hs5,kpA⟩
  rw [if_pos d1'] at hS
  obtain ⟨lp,hlp⟩:∃ lp,(loop||decide (k=5))=lp:=⟨_,rfl⟩
  rw [hlp] at hS
  have c29:=ih bo (by omega) (by omega) wb r.2 lp v2 h5 n5 (by omega) hs5
  have hbl:=bD p f.result bo r.2 lp
  cases loop with
  | true =>
   have hlp':true=lp:=by rw [← hlp];rfl
   subst hlp'
   simp -implicitDefEqProofs only [RA,aa,zp,↓reduceIte,reduceCtorEq,zq,zr,zs,zt,g0,g2,g8,g9,g15,g16,g17,d1,gx5]
   refine c29.mono ?_
   rintro y h6 n6 ⟨rfl,v3,hs6,kp6⟩
   generalize hB:blW p f.result bo r.2 true=B at hS hbl hs6
   have gx6:=kp6.2.1 nx' _ (by have:=kp5.1;omega) (by omega) hvn2 gx5
   have kpB:=kpA.trans kp6
   rcases ah (B.1=0) with ⟨d2',d2⟩|⟨d2',d2⟩
   case inr =>
    rw [if_neg d2'] at hS
    subst hS
    rw [if_neg d2'] at hb
    rw [hb]
    simp -implicitDefEqProofs only [RA,aa,zp,↓reduceIte,reduceCtorEq,zq,zr,zs,zt,g0,g2,g8,g9,g15,g16,g17,d1,d2,pf]
    exact ⟨v3,hs6,kpB⟩
   rw [if_pos d2'] at hS
   have cE:=ih el (by omega) (by omega) we B.2 true v3 h6 n6 (by omega) hs6
   have hel:=bD p f.result el B.2 true
   simp -implicitDefEqProofs only [RA,aa,zp,↓reduceIte,reduceCtorEq,zq,zr,zs,zt,g0,g2,g8,g9,g15,g16,g17,d1,d2,gx6]
   refine cE.mono ?_
   rintro y h7 n7 ⟨rfl,v4,hs7,kp7⟩
   have kpC:=kpB.trans kp7
   generalize hE:blW p f.result el B.2 true=E at hS hel hs7
   subst hS
   rcases ah (E.1=0) with ⟨d3',d3⟩|⟨d3',d3⟩
   case inr =>
    rw [if_neg d3'] at hb
    rw [hb]
    simp -implicitDefEqProofs only [RA,aa,zp,↓reduceIte,reduceCtorEq,zq,zr,zs,zt,g0,g2,g8,g9,g15,g16,g17,d1,d2,d3,pf]
    exact ⟨v4,hs7,kpC⟩
   rw [if_pos d3'] at hb
   simp -implicitDefEqProofs only [RA,aa,zp,↓reduceIte,reduceCtorEq,zq,zr,zs,zt,g0,g2,g8,g9,g15,g16,g17,d1,d2,d3,f1]
   have hlast:E.2.length+bg (l.drop (i+1))≤100000:=by omega
   have hCk:CkP (chk p f) c v h nx E.2 h7 n7:=⟨v4,hs7,kpC⟩
   refine ⟨l.length-(i+1),by omega,i+1,E.2,?_⟩
   repeat' apply And.intro
   all_goals first|assumption|rfl|omega|(simp [ab, *];done)
  | false =>
   have hlp':decide (k=5)=lp:=by rw [← hlp];simp
   simp -implicitDefEqProofs only [RA,aa,zp,↓reduceIte,reduceCtorEq,zq,zr,zs,zt,g0,g2,g8,g9,g15,g16,g17,d1,gx5,hlp']
   refine c29.mono ?_
   rintro y h6 n6 ⟨rfl,v3,hs6,kp6⟩
   generalize hB:blW p f.result bo r.2 lp=B at hS hbl hs6
   have gx6:=kp6.2.1 nx' _ (by have:=kp5.1;omega) (by omega) hvn2 gx5
   have kpB:=kpA.trans kp6
   rcases ah (B.1=0) with ⟨d2',d2⟩|⟨d2',d2⟩
   case inr =>
    rw [if_neg d2'] at hS
    subst hS
    rw [if_neg d2'] at hb
    rw [hb]
    simp -implicitDefEqProofs only [RA,aa,zp,↓reduceIte,reduceCtorEq,zq,zr,zs,zt,g0,g2,g8,g9,g15,g16,g17,d1,d2,pf]
    exact ⟨v3,hs6,kpB⟩
   rw [if_pos d2'] at hS
   have cE:=ih el (by omega) (by omega) we B.2 false v3 h6 n6 (by omega) hs6
   have hel:=bD p f.result el B.2 false
   simp -implicitDefEqProofs only [RA,aa,zp,↓reduceIte,reduceCtorEq,zq,zr,zs,zt,g0,g2,g8,g9,g15,g16,g17,d1,d2,gx6]
   refine cE.mono ?_
   rintro y h7 n7 ⟨rfl,v4,hs7,kp7⟩
   have kpC:=kpB.trans kp7
   generalize hE:blW p f.result el B.2 false=E at hS hel hs7
   subst hS
   rcases ah (E.1=0) with ⟨d3',d3⟩|⟨d3',d3⟩
   case inr =>
    rw [if_neg d3'] at hb
    rw [hb]
    simp -implicitDefEqProofs only [RA,aa,zp,↓reduceIte,reduceCtorEq,zq,zr,zs,zt,g0,g2,g8,g9,g15,g16,g17,d1,d2,d3,pf]
    exact ⟨v4,hs7,kpC⟩
   rw [if_pos d3'] at hb
   simp -implicitDefEqProofs only [RA,aa,zp,↓reduceIte,reduceCtorEq,zq,zr,zs,zt,g0,g2,g8,g9,g15,g16,g17,d1,d2,d3,f1]
   have hlast:E.2.length+bg (l.drop (i+1))≤100000:=by omega
   have hCk:CkP (chk p f) c v h nx E.2 h7 n7:=⟨v4,hs7,kpC⟩
   refine ⟨l.length-(i+1),by omega,i+1,E.2,?_⟩
   repeat' apply And.intro
   all_goals first|assumption|rfl|omega|(simp [ab, *];done)
def prW (p:Pr):List Pm→List Pm→Int × List Pm
 | [],kn=>(0,kn)
 | q::r,kn=>if df p kn q.1=0 then prW p r (kn++[(q.1,q.2)]) else (df p kn q.1,kn)
def fnW (p:Pr) (f:Fu):Int × List Pm:=if (prW p f.params []).1=0 then blW p f.result f.body (prW p f.params []).2 false else ((prW p f.params []).1,[])
theorem lH (p:Pr):∀ (l kn:List Pm),(prW p l kn).2.length≤kn.length+l.length
 | [],kn=>by simp [prW]
 | q::r,kn=>by
  have:=lH p r (kn++[(q.1,q.2)])
  rw [prW]
  simp only [Hj,Hc,Hd] at this ⊢
  split
  ·omega
  ·simp only;omega
def FnP (r:Int × List Pm) (h:Heap) (nx:Nat) (y:AE) (h':Heap) (n':Nat):Prop:=∃ (vv:AV) (kn':List Pm),y=.ret (.tup [vv,.int .i64 r.1])∧aF 64 2 h' n' vv (kn'.map pmE)∧(r.1=0→kn'=r.2)∧nx≤n'∧(∀ k o,k<nx→af h k=some o→af h' k=some o)
theorem w76 (p:Pr) (f:Fu) (hal:p.arrays.length≤4611686018427387904) (hfl:p.funcs.length≤4611686018427387904) (hpl:∀ g∈p.funcs,g.params.length≤1000000) (hfp:f.params.length≤1000) (hsz:bS f.body≤5000) (hwf:∀ x∈f.body,wfS x=true) (h:Heap) (nx:Nat) :
  AC Tryz.prog 76 [.agg (prE p),.agg (fuE f)] h nx (FnP (fnW p f) h nx):=by
 refine AC.go aj is76 (by simp) ?_
 rw [ct,dG]
 have lp:=cq f.params
 have hvl:=dD f.body
 have hst:=cF f.body
 have hplen:=lH p f.params []
 have n1:(nx+1=nx)=False:=eq_false (by omega)
 have n2:(nx+1+1=nx)=False:=eq_false (by omega)
 have n3:(nx+1+1=nx+1)=False:=eq_false (by omega)
 obtain ⟨h0,hh0⟩:∃ h0:Heap,h0=(nx+1+1,AO.cells (chk p f .nilS))::(nx+1,AO.cells [.str f.name,bw f.params,.int .i64 f.result,ay f.body])::(nx,.cells [bU p.arrays,bR p.funcs])::h:=⟨_,rfl⟩
 have hs0:CkS (chk p f) (nx+1+1) [] h0 (nx+1+1+1) .nilS:=⟨by rw [hh0];simp [af],.inl ⟨rfl,rfl⟩,by simp [aw],by omega⟩
 have hgf:af h0 (nx+1)=some (.cells [.str f.name,bw f.params,.int .i64 f.result,ay f.body]):=by rw [hh0];simp [af]
 have hgk:∀ k o,k<nx→af h k=some o→af h0 k=some o:=fun k o hk ho=>by rw [hh0,ai,if_neg (by omega),ai,if_neg (by omega),ai,if_neg (by omega)];exact ho
 simp -implicitDefEqProofs only [RA,aa,zp,↓reduceIte,reduceCtorEq,zq,zr,zs,zt,A76,Fz,lp,n1,n2,n3,↓bf,↓bc,↓be,↓ba,↓aY,↓aX,↓aB,↓aA]
 refine aq (fun q st=>∃ (i:Nat) (kn:List Pm),q=f.params.length-i∧i≤f.params.length∧prW p f.params []=prW p (f.params.drop i) kn∧kn.length≤i∧ab st.env 3=some (.op (nx+1) 0)∧ab st.env 6=some (.op (nx+1+1) 0)∧ab st.env 16=some (bw f.params)∧ab st.env 17=some (.int .i64 f.params.length)∧ab st.env 18=some (.int .i64 i)∧CkP (chk p f) (nx+1+1) .nilS h0 (nx+1+1+1) kn st.heap st.nx∧st.dm=[]) (n:=f.params.length) aj
  ⟨0,[],rfl,by omega,by simp,by simp,by simp [ab],by simp [ab],by simp [ab],by simp [ab],by simp [ab],by rw [hh0] at hs0 ⊢;exact CkP.refl hs0 (H4 _),rfl⟩ ?_
 rintro q ⟨env,heap,nx',dm⟩ ⟨i,kn,rfl,hi,hb,hk1,g3,g6,g16,g17,g18,⟨v1,hs1,kp1⟩,hdm⟩
 simp only at g3 g6 g16 g17 g18 hs1 kp1 hdm
 subst hdm
 have f1:=wS (i:=i) (by omega)
 have hcn1:=hs1.2.2.2
 by_cases hc:(i:Int)<(f.params.length:Int)
 case pos =>
  have hr:=G7 (show i<f.params.length by omega)
  generalize f.params[i]=r at hr
  have ix:=dj hr
  have re:=eu r
  rw [cG hr,prW] at hb
  have gk2:∀ b o,b<nx'→af heap b=some o→af ((nx',AO.cells [.str r.1,.int .i64 r.2])::(nx',.cells [.str [],.int .i64 0])::heap) b=some o:=fun b o hb ho=>by rw [ai,if_neg (by omega),ai,if_neg (by omega)];exact ho
  have hs2:=hs1.over (n':=nx'+1) (by omega) gk2
  simp -implicitDefEqProofs only [RA,aa,zp,↓reduceIte,reduceCtorEq,zq,zr,zs,zt,xU,sb,g3,g6,g16,g17,g18,hc,ix,re]
  refine (Ds p f v1 kn (nx+1+1) r.1 r.2 _ (nx'+1) hs2 (by omega) hal).mono ?_
  rintro y h2 m2 ⟨rfl,hp⟩
  rcases ah (df p kn r.1=0) with ⟨d1',d1⟩|⟨d1',d1⟩
  case inr =>
   rw [if_neg d1'] at hb
   have e1:fnW p f=(df p kn r.1,[]):=by rw [fnW,hb,if_neg d1']
   rw [e1]
   simp -implicitDefEqProofs only [RA,aa,zp,↓reduceIte,reduceCtorEq,zq,zr,zs,zt,g3,g6,g16,g17,g18,d1,R76]
   obtain ⟨v2,hs3,kp3⟩:=hp
   refine ⟨.nilS,[],rfl,.inl ⟨rfl,rfl⟩,fun h=>absurd h d1',by have:=kp3.1;omega,fun k o hk ho=>?_⟩
   exact (kp1.trans (kp3.pre (by omega) gk2)).2.1 k o (by omega) (by omega) (by simp [aw]) (hgk k o hk ho)
  rw [if_pos d1'] at hb hp
  simp -implicitDefEqProofs only [RA,aa,zp,↓reduceIte,reduceCtorEq,zq,zr,zs,zt,g3,g6,g16,g17,g18,d1,f1]
  have hlast:CkP (chk p f) (nx+1+1) .nilS h0 (nx+1+1+1) (kn++[(r.1,r.2)]) h2 m2:=by
   obtain ⟨v2,hs3,kp3⟩:=hp
   exact ⟨v2,hs3,kp1.trans (kp3.pre (by omega) gk2)⟩
  have hkl:(kn++[(r.1,r.2)]).length≤i+1:=by simp only [Hj,Hc,Hd];omega
  refine ⟨f.params.length-(i+1),by omega,i+1,kn++[(r.1,r.2)],?_⟩
  repeat' apply And.intro
  all_goals first|assumption|rfl|omega|(simp [ab, *];done)
 have:f.params.drop i=[]:=Hb (by omega)
 rw [this,prW] at hb
 have e1:fnW p f=blW p f.result f.body kn false:=by rw [fnW,hb,if_pos rfl]
 rw [e1]
 have gf1:=kp1.2.1 (nx+1) _ (by omega) (by omega) (by simp [aw]) hgf
 simp -implicitDefEqProofs only [RA,aa,zp,↓reduceIte,reduceCtorEq,zq,zr,zs,zt,xU,sb,g3,g6,g16,g17,g18,hc,gf1]
 refine (w109 p f (nx+1+1) hal hfl hpl _ f.body (H4 _) hsz hwf kn false v1 heap nx' (by omega) hs1).mono ?_
 rintro y h2 m2 ⟨rfl,v2,hs3,kp3⟩
 have gc3:=hs3.1
 simp only [chk] at gc3
 simp -implicitDefEqProofs only [RA,aa,zp,↓reduceIte,reduceCtorEq,zq,zr,zs,zt,g3,g6,g16,g17,g18,gc3,R76]
 have kp:=kp1.trans kp3
 exact ⟨v2,_,rfl,hs3.2.1,fun _=>rfl,by have:=kp.1;omega,fun k o hk ho=>kp.2.1 k o (by omega) (by omega) (by simp [aw]) (hgk k o hk ho)⟩
theorem dU (p:Pr) (i:Int) (v:AV) (kn:List Pm) (e x:Int) (b:Bool) (c:Nat) (h:Heap) (nx:Nat) (hs:CkS (fun v=>scp p i v e) c kn h nx v) :
  AC Tryz.prog 99 [.op c 0,.bool b,.int .i64 x] h nx fun y h' n'=>y=.ret (.tup [])∧n'=nx∧CkS (fun v=>scp p i v (if b=true∧e=0 then x else e)) c kn h' nx v∧∀ k o,k≠c→af h k=some o→af h' k=some o:=by
 refine (w99 p i v e x b c h nx hs.1).mono ?_
 rintro y h' n' ⟨h1,h2,h3,h4⟩
 refine ⟨h1,h2,⟨h3,?_,hs.2.2.1,hs.2.2.2⟩,h4⟩
 refine hs.2.1.keep (H4 _) fun b o hb' hg=>h4 b o ?_ hg
 rintro rfl;exact hs.2.2.1 hb'
def ErP (p:Pr) (i:Int) (v:AV) (c:Nat) (kn:List Pm) (e:Int) (h:Heap) (nx:Nat) (y:AE) (h':Heap) (n':Nat):Prop :=
 y=.ret (.tup [])∧CkS (fun v=>scp p i v e) c kn h' n' v∧nx≤n'∧∀ k o,k<nx→k≠c→af h k=some o→af h' k=some o
def pwE (ws vs:List Int) (k:Nat):Int:=if ws.length=vs.length∧ws.take k=vs.take k then 0 else 14
theorem yS {ws vs:List Int} {k:Nat} {a b:Int} (ha:ws[k]?=some a) (hb:vs[k]?=some b):(ws.take (k+1)=vs.take (k+1))↔(ws.take k=vs.take k∧a=b):=by
 rw [az ha,az hb]
 constructor
 ·intro h
  have hl:(ws.take k).length=(vs.take k).length:=by
   have:=(G9.1 ha).1
   have:=(G9.1 hb).1
   simp only [Hf];omega
  have:=List.append_inj h hl
  exact ⟨this.1,by simpa using this.2⟩
 ·rintro ⟨h1,rfl⟩;rw [h1]
theorem Dn (p:Pr) (i0:Int) (v:AV) (kn:List Pm) (c:Nat) (k w:Int) (n fn:Nm) (l:List Ex) (bo el:List Sm) (ws:List Int) (h:Heap) (nx:Nat) (hs:CkS (fun v=>scp p i0 v 0) c kn h nx v) (hl:kn.length≤1000000) (hfl:p.funcs.length≤4611686018427387904) (hpl:∀ g∈p.funcs,g.params.length≤1000000) (hwl:ws.length≤1000000) :
  AC Tryz.prog 142 [.op c 0,.agg (smE (.mk k n fn w l bo el)),cP ws] h nx (ErP p i0 v c kn (gT p kn n fn ws) h nx):=by
 refine AC.go aj DO (by simp) ?_
 rw [cH]
 have hcn:=hs.2.2.2
 have nc:(nx=c)=False:=eq_false (by omega)
 have gc2:=hs.1
 simp only [scp] at gc2
 have gk0:∀ b o,b<nx→af h b=some o→af ((nx,AO.cells [.int .u8 k,.str n,.str fn,.int .i64 w,aR l,ay bo,ay el])::h) b=some o:=fun b o hb ho=>by rw [ai,if_neg (by omega)];exact ho
 have hs1:=hs.over (n':=nx+1) (by omega) gk0
 have lf:=cZ p.funcs
 have lw:=jY ws
 simp -implicitDefEqProofs only [RA,aa,zp,↓reduceIte,reduceCtorEq,zq,zr,zs,zt,Gx,AQ,nc,gc2,↓aT,↓aS,↓aB,↓aA,↓fV,↓fR]
 refine (w146 p fn hfl).use fun n2 hn2=>?_
 rcases ah (fuI p fn<0) with ⟨d1',d1⟩|⟨d1',d1⟩
 case inl =>
  have ee:gT p kn n fn ws=16:=by rw [gT,if_pos d1']
  rw [ee]
  simp -implicitDefEqProofs only [RA,aa,zp,↓reduceIte,reduceCtorEq,zq,zr,zs,zt,gc2,d1,nc]
  refine (dU p i0 v kn 0 16 true c _ n2 (hs1.over (n':=n2) hn2 fun _ _ _ h=>h)).mono ?_
  rintro y h3 n3 ⟨rfl,rfl,hs3,hk3⟩
  simp -implicitDefEqProofs only [RA,aa,zp,↓reduceIte,reduceCtorEq,zq,zr,zs,zt,vy]
  exact ⟨rfl,hs3,by omega,fun k o hk hkc ho=>hk3 k o hkc (gk0 k o hk ho)⟩
 obtain ⟨j,e1,e2⟩:=xd d1'
 have ee:gT p kn n fn ws=if ws=(nh p fn).params.map (·.2) then (if (n==[])=true then 0 else if kw kn n=0 then 16 else if kw kn n=(nh p fn).result then 0 else 14) else 14:=by rw [gT,if_neg d1']
 rw [ee]
 generalize nh p fn=g at e2
 rw [e1] at d1
 have ix:=cJ e2
 have fe:=dG g
 have lp:=cq g.params
 have gpl:=hpl g (G8 e2)
 have m2:(n2=c)=False:=eq_false (by omega)
 have m3:(n2=nx)=False:=eq_false (by omega)
 simp -implicitDefEqProofs only [RA,aa,zp,↓reduceIte,reduceCtorEq,zq,zr,zs,zt,gc2,d1,nc,e1,ix,fe,lp,lw,↓aY,↓aX,↓aB,↓aA]
 have hh1:∀ b o,b<n2→af ((nx,AO.cells [.int .u8 k,.str n,.str fn,.int .i64 w,aR l,ay bo,ay el])::h) b=some o→af ((n2,AO.cells [.str g.name,bw g.params,.int .i64 g.result,ay g.body])::(n2,.cells [.str [],.nilS,.int .i64 0,.nilS])::(nx,AO.cells [.int .u8 k,.str n,.str fn,.int .i64 w,aR l,ay bo,ay el])::h) b=some o:=fun b o hb ho=>by rw [ai,if_neg (by omega),ai,if_neg (by omega)];exact ho
 refine (dU p i0 v kn 0 14 (!decide ((ws.length:Int)=(g.params.length:Int))) c _ (n2+1) (hs1.over (n':=n2+1) (by omega) fun b o hb ho=>hh1 b o (by omega) ho)).mono ?_
 rintro y h3 n3 ⟨rfl,rfl,hs3,hk3⟩
 have gx3:=hk3 nx (.cells [.int .u8 k,.str n,.str fn,.int .i64 w,aR l,ay bo,ay el]) (by omega) (by simp [af,m3])
 have gg3:=hk3 n2 (.cells [.str g.name,bw g.params,.int .i64 g.result,ay g.body]) (by omega) (by simp [af])
 have gk3:∀ b o,b<nx→b≠c→af h b=some o→af h3 b=some o:=fun b o hb hbc ho=>hk3 b o hbc (hh1 b o (by omega) (gk0 b o hb ho))
 have hvl:(g.params.map (·.2)).length=g.params.length:=by simp
 generalize hvs:g.params.map (·.2)=vs at hvl
 have e0:(if (!decide ((ws.length:Int)=(g.params.length:Int)))=true∧(0:Int)=0 then (14:Int) else 0)=pwE ws vs 0:=by
  unfold pwE
  by_cases hq:ws.length=vs.length
  ·have:(ws.length:Int)=(g.params.length:Int):=by omega
   simp [this,hq,hvl]
  ·have:¬ (ws.length:Int)=(g.params.length:Int):=by omega
   simp [this,hq]
 rw [e0] at hs3
 clear hh1 e0 hk3
 simp -implicitDefEqProofs only [RA,aa,zp,↓reduceIte,reduceCtorEq,zq,zr,zs,zt]
 refine aq (fun q st=>∃ (i:Nat),q=g.params.length-i∧i≤g.params.length∧i≤ws.length∧ab st.env 0=some (.op c 0)∧ab st.env 2=some (cP ws)∧ab st.env 4=some (.op nx 0)∧ab st.env 7=some (.op n2 0)∧ab st.env 8=some (.int .i64 i)∧CkS (fun v=>scp p i0 v (pwE ws vs i)) c kn st.heap st.nx v∧af st.heap nx=some (.cells [.int .u8 k,.str n,.str fn,.int .i64 w,aR l,ay bo,ay el])∧af st.heap n2=some (.cells [.str g.name,bw g.params,.int .i64 g.result,ay g.body])∧(∀ b o,b<nx→b≠c→af h b=some o→af st.heap b=some o)∧n2<st.nx∧st.dm=[]) (n:=g.params.length) aj
  ⟨0,rfl,by omega,by omega,by simp [ab],by simp [ab],by simp [ab],by simp [ab],by simp [ab],hs3,gx3,gg3,gk3,by simp,rfl⟩ ?_
 rintro q ⟨env,heap,nx',dm⟩ ⟨i,rfl,hi,hiw,g0,g2,g4,g7,g8,hs4,gx,gg,gk,hnx,hdm⟩
 simp only at g0 g2 g4 g7 g8 hs4 gx gg gk hnx hdm
 subst hdm
 have f1:=wS (i:=i) (by omega)
 by_cases hc1:(i:Int)<(ws.length:Int)∧(i:Int)<(g.params.length:Int)
 case pos =>
  have hca:=eq_true hc1.1
  have hcb:=eq_true hc1.2
  have hra:=G7 (show i<ws.length by omega)
  generalize ws[i]=a at hra
  have hrb:=G7 (show i<g.params.length by omega)
  generalize g.params[i]=r at hrb
  have ia:=gC hra
  have ib:=dj hrb
  have ea:=rI a
  have eb:=eu r
  have hrv:vs[i]?=some r.2:=by rw [← hvs,List.getElem?_map,hrb];rfl
  simp -implicitDefEqProofs only [RA,aa,zp,↓reduceIte,reduceCtorEq,zq,zr,zs,zt,kS,jp,g0,g2,g4,g7,g8,lw,lp,gg,hca,hcb,ia,ib,ea,eb]
  refine (dU p i0 v kn _ 14 (!decide (a=r.2)) c _ nx' hs4).mono ?_
  rintro y h5 n5 ⟨rfl,rfl,hs5,hk5⟩
  have e1:(if (!decide (a=r.2))=true∧pwE ws vs i=0 then 14 else pwE ws vs i)=pwE ws vs (i+1):=by
   unfold pwE
   have ht:=yS hra hrv
   by_cases hq:ws.length=vs.length <;> by_cases hq2:ws.take i=vs.take i <;> by_cases hq3:a=r.2 <;> simp [hq,hq2,hq3,ht]
  rw [e1] at hs5
  simp -implicitDefEqProofs only [RA,aa,zp,↓reduceIte,reduceCtorEq,zq,zr,zs,zt,g0,g2,g4,g7,g8,f1]
  have gx5:=hk5 nx _ (by omega) gx
  have gg5:=hk5 n2 _ (by omega) gg
  have gk5:∀ b o,b<nx→b≠c→af h b=some o→af h5 b=some o:=fun b o hb hbc ho=>hk5 b o hbc (gk b o hb hbc ho)
  refine ⟨g.params.length-(i+1),by omega,i+1,?_⟩
  repeat' (first|exact hs5|apply And.intro)
  all_goals first|assumption|rfl|omega|(simp [ab, *];done)
 have e1:pwE ws vs i=if ws=vs then 0 else 14:=by
  unfold pwE
  by_cases hq:ws.length=vs.length
  ·have h1:ws.take i=ws:=Ha (by omega)
   have h2:vs.take i=vs:=Ha (by omega)
   simp only [hq,h1,h2,true_and]
  ·have:¬ ws=vs:=fun e=>hq (by rw [e])
   simp [hq,this]
 rw [e1] at hs4
 have hcA:((i:Int)<(ws.length:Int))=True∧((i:Int)<(g.params.length:Int))=False∨((i:Int)<(ws.length:Int))=False:=by
  by_cases ha:(i:Int)<(ws.length:Int)
  ·exact .inl ⟨eq_true ha,eq_false fun hb=>hc1 ⟨ha,hb⟩⟩
  ·exact .inr (eq_false ha)
 have fin:∀ (e:Int) (h':Heap) (n':Nat),CkS (fun v=>scp p i0 v e) c kn h' n' v→nx'≤n'→(∀ b o,b≠c→af heap b=some o→af h' b=some o)→ErP p i0 v c kn e h nx (.ret (.tup [])) h' n':=fun e h' n' a b d=>⟨rfl,a,by omega,fun k o hk hkc ho=>d k o hkc (gk k o hk hkc ho)⟩
 rcases hcA with ⟨hca,hcb⟩|hca
 case inl =>
  cases hn:(n==[]) with
  | true =>
   simp only [if_true]
   simp -implicitDefEqProofs only [RA,aa,zp,↓reduceIte,reduceCtorEq,zq,zr,zs,zt,kS,jp,g0,g2,g4,g7,g8,lw,lp,gx,gg,hca,hcb,aG,aU,hn,eR,vy]
   exact fin _ _ _ hs4 (H4 _) fun _ _ _ h=>h
  | false =>
   simp only [if_false,HQ]
   simp -implicitDefEqProofs only [RA,aa,zp,↓reduceIte,reduceCtorEq,zq,zr,zs,zt,kS,jp,g0,g2,g4,g7,g8,lw,lp,gx,gg,hca,hcb,aG,aU,hn,eR]
   refine (mg p i0 v _ kn c n heap nx' hs4.1 (.inr hs4.2.1) (by omega)).mono ?_
   rintro y h6 n6 ⟨rfl,rfl,hn6⟩
   simp -implicitDefEqProofs only [RA,aa,zp,↓reduceIte,reduceCtorEq,zq,zr,zs,zt,g0,g2,g4,g7,g8,lw,lp,gx,gg,hca,hcb]
   refine (dU p i0 v kn _ 16 (decide (kw kn n=0)) c _ n6 (hs4.over hn6 fun _ _ _ h=>h)).mono ?_
   rintro y h7 n7 ⟨rfl,rfl,hs7,hk7⟩
   have gx7:=hk7 nx _ (by omega) gx
   have gg7:=hk7 n2 _ (by omega) gg
   simp -implicitDefEqProofs only [RA,aa,zp,↓reduceIte,reduceCtorEq,zq,zr,zs,zt,g0,g2,g4,g7,g8,gx7,gg7]
   refine (mg p i0 v _ kn c n h7 n7 hs7.1 (.inr hs7.2.1) (by omega)).mono ?_
   rintro y h8 n8 ⟨rfl,rfl,hn8⟩
   simp -implicitDefEqProofs only [RA,aa,zp,↓reduceIte,reduceCtorEq,zq,zr,zs,zt,g0,g2,g4,g7,g8,gx7,gg7]
   refine (dU p i0 v kn _ 14 (!decide (kw kn n=g.result)) c _ n8 (hs7.over hn8 fun _ _ _ h=>h)).mono ?_
   rintro y h9 n9 ⟨rfl,rfl,hs9,hk9⟩
   have e2:(if (!decide (kw kn n=g.result))=true∧(if decide (kw kn n=0)=true∧(if ws=vs then (0:Int) else 14)=0 then 16 else (if ws=vs then (0:Int) else 14))=0 then 14 else (if decide (kw kn n=0)=true∧(if ws=vs then (0:Int) else 14)=0 then 16 else (if ws=vs then (0:Int) else 14)))=(if ws=vs then (if kw kn n=0 then 16 else if kw kn n=g.result then 0 else 14) else 14):=by
    by_cases hq:ws=vs <;> by_cases hq2:kw kn n=0 <;> by_cases hq3:kw kn n=g.result <;> simp [hq,hq2,hq3]
   rw [e2] at hs9
   simp -implicitDefEqProofs only [RA,aa,zp,↓reduceIte,reduceCtorEq,zq,zr,zs,zt,vy]
   exact fin _ _ _ hs9 (by omega) fun b o hbc ho=>hk9 b o hbc (hk7 b o hbc ho)
 case inr =>
  cases hn:(n==[]) with
  | true =>
   simp only [if_true]
   simp -implicitDefEqProofs only [RA,aa,zp,↓reduceIte,reduceCtorEq,zq,zr,zs,zt,kS,jp,g0,g2,g4,g7,g8,lw,lp,gx,gg,hca,aG,aU,hn,eR,vy]
   exact fin _ _ _ hs4 (H4 _) fun _ _ _ h=>h
  | false =>
   simp only [if_false,HQ]
   simp -implicitDefEqProofs only [RA,aa,zp,↓reduceIte,reduceCtorEq,zq,zr,zs,zt,kS,jp,g0,g2,g4,g7,g8,lw,lp,gx,gg,hca,aG,aU,hn,eR]
   refine (mg p i0 v _ kn c n heap nx' hs4.1 (.inr hs4.2.1) (by omega)).mono ?_
   rintro y h6 n6 ⟨rfl,rfl,hn6⟩
   simp -implicitDefEqProofs only [RA,aa,zp,↓reduceIte,reduceCtorEq,zq,zr,zs,zt,g0,g2,g4,g7,g8,lw,lp,gx,gg,hca]
   refine (dU p i0 v kn _ 16 (decide (kw kn n=0)) c _ n6 (hs4.over hn6 fun _ _ _ h=>h)).mono ?_
   rintro y h7 n7 ⟨rfl,rfl,hs7,hk7⟩
   have gx7:=hk7 nx _ (by omega) gx
   have gg7:=hk7 n2 _ (by omega) gg
   simp -implicitDefEqProofs only [RA,aa,zp,↓reduceIte,reduceCtorEq,zq,zr,zs,zt,g0,g2,g4,g7,g8,gx7,gg7]
   refine (mg p i0 v _ kn c n h7 n7 hs7.1 (.inr hs7.2.1) (by omega)).mono ?_
   rintro y h8 n8 ⟨rfl,rfl,hn8⟩
   simp -implicitDefEqProofs only [RA,aa,zp,↓reduceIte,reduceCtorEq,zq,zr,zs,zt,g0,g2,g4,g7,g8,gx7,gg7]
   refine (dU p i0 v kn _ 14 (!decide (kw kn n=g.result)) c _ n8 (hs7.over hn8 fun _ _ _ h=>h)).mono ?_
   rintro y h9 n9 ⟨rfl,rfl,hs9,hk9⟩
   have e2:(if (!decide (kw kn n=g.result))=true∧(if decide (kw kn n=0)=true∧(if ws=vs then (0:Int) else 14)=0 then 16 else (if ws=vs then (0:Int) else 14))=0 then 14 else (if decide (kw kn n=0)=true∧(if ws=vs then (0:Int) else 14)=0 then 16 else (if ws=vs then (0:Int) else 14)))=(if ws=vs then (if kw kn n=0 then 16 else if kw kn n=g.result then 0 else 14) else 14):=by
    by_cases hq:ws=vs <;> by_cases hq2:kw kn n=0 <;> by_cases hq3:kw kn n=g.result <;> simp [hq,hq2,hq3]
   rw [e2] at hs9
   simp -implicitDefEqProofs only [RA,aa,zp,↓reduceIte,reduceCtorEq,zq,zr,zs,zt,vy]
   exact fin _ _ _ hs9 (by omega) fun b o hbc ho=>hk9 b o hbc (hk7 b o hbc ho)
end Go.Proofs.YtgeieafamocnhaaGreatDoor
