/- The reference's statements. -/
import Derived.Test.YtgeieafamocnhaaGreatDoorGL
namespace Go.Proofs.YtgeieafamocnhaaGreatDoor
open List renaming getElem?_eq_getElem → G7, mem_of_getElem? → G8, drop_of_length_le → Hb, length_cons → Hc, length_nil → Hd, length_map → He, length_append → Hj, length_eq_one_iff → Hq
open Nat renaming le_refl → H4
open Int renaming reduceEq → Ie
set_option maxHeartbeats 64000000
open Go Go.Ab Go.Proofs
open Nat renaming reduceEqDiff → zp, reduceAdd → zq, reduceLeDiff → zr, reduceLT → zs, reduceBEq → zt
set_option linter.unusedVariables false
set_option linter.unusedSimpArgs false
set_option maxRecDepth 20000
def CkR (p:Pr) (i:Int) (c:Nat) (v:AV) (h:Heap) (nx:Nat) (r:Int × List Pm) (y:AE) (h':Heap) (n':Nat):Prop:=y=.ret (.tup [])∧∃ kn',(r.1=0→kn'=r.2)∧CkP (fun v=>scp p i v r.1) c v h nx kn' h' n'
def blR (p:Pr) (res:Int) (l:List Sm) (e:Int) (kn:List Pm) (loop:Bool):Int × List Pm:=if e=0 then blW p res l kn loop else (e,kn)
def C33 (p:Pr) (i0:Int) (res:Int) (c:Nat) (l:List Sm):Prop:=∀ (loop:Bool) (e:Int) (kn:List Pm) (v:AV) (h:Heap) (nx:Nat),(e=0→kn.length+bg l≤100000)→CkS (fun v=>scp p i0 v e) c kn h nx v→AC Tryz.prog 102 [.op c 0,ay l,.bool loop] h nx (CkR p i0 c v h nx (blR p res l e kn loop))
theorem CkS.wd {p:Pr} {i0:Int} {e e':Int} {c:Nat} {kn:List Pm} {h h':Heap} {nx n':Nat} {v:AV} (hs:CkS (fun v=>scp p i0 v e) c kn h nx v) (hle:nx≤n') (hc:af h' c=some (.cells (scp p i0 v e'))) (hk:∀ b o,b<nx→b≠c→af h b=some o→af h' b=some o):CkS (fun v=>scp p i0 v e') c kn h' n' v :=
 ⟨hc,hs.2.1.keep hle fun b o hb hg=>hk b o (hs.2.1.blk hb).2.2 (fun e=>hs.2.2.1 (by rw [← e];exact hb)) hg,hs.2.2.1,by have:=hs.2.2.2;omega⟩
theorem Kp.wd {c:Nat} {v:AV} {h h':Heap} {nx n':Nat} (hle:nx≤n') (hk:∀ b o,b<nx→b≠c→af h b=some o→af h' b=some o):Kp c v h nx v h' n':=⟨hle,fun k o k1 k2 _ k4=>hk k o k1 k2 k4,fun b hb=>.inr hb⟩
theorem stR (p:Pr) (res:Int) (k w:Int) (n fn:Nm) (l:List Ex) (bo el:List Sm) (kn:List Pm) (loop:Bool) (hz:(a9 p kn l).1=0) (er:Int) (kn2 kn3 kn4:List Pm) (lp:Bool) (hlp:(loop||decide (k=5))=lp)
  (h1:er=(rlE p res kn k n fn w (a9 p kn l).2 loop).1) (h2:er=0→kn2=(rlE p res kn k n fn w (a9 p kn l).2 loop).2) (h3:(blR p res bo er kn2 lp).1=0→kn3=(blR p res bo er kn2 lp).2) (h4:(blR p res el (blR p res bo er kn2 lp).1 kn3 loop).1=0→kn4=(blR p res el (blR p res bo er kn2 lp).1 kn3 loop).2) :
  (blR p res el (blR p res bo er kn2 lp).1 kn3 loop).1=(stW p res (.mk k n fn w l bo el) kn loop).1∧((stW p res (.mk k n fn w l bo el) kn loop).1=0→kn4=(stW p res (.mk k n fn w l bo el) kn loop).2):=by
 rw [stW,if_pos hz,hlp]
 generalize rlE p res kn k n fn w (a9 p kn l).2 loop=r at h1 h2
 subst h1
 by_cases hr:r.1=0
 ·have e2:=h2 hr
  subst e2
  rw [if_pos hr]
  have eb:blR p res bo r.1 r.2 lp=blW p res bo r.2 lp:=by rw [blR,if_pos hr]
  rw [eb] at h3 h4 ⊢
  by_cases hb:(blW p res bo r.2 lp).1=0
  ·have e3:=h3 hb
   subst e3
   have ec:blR p res el (blW p res bo r.2 lp).1 (blW p res bo r.2 lp).2 loop=blW p res el (blW p res bo r.2 lp).2 loop:=by rw [blR,if_pos hb]
   rw [ec] at h4 ⊢
   rw [if_pos hb]
   exact ⟨rfl,h4⟩
  ·rw [if_neg hb]
   have ec:blR p res el (blW p res bo r.2 lp).1 kn3 loop=((blW p res bo r.2 lp).1,kn3):=by rw [blR,if_neg hb]
   rw [ec]
   exact ⟨rfl,fun h=>absurd h hb⟩
 ·rw [if_neg hr]
  have eb:blR p res bo r.1 kn2 lp=(r.1,kn2):=by rw [blR,if_neg hr]
  rw [eb]
  have ec:blR p res el (r.1,kn2).1 kn3 loop=(r.1,kn3):=by rw [blR,if_neg hr]
  rw [ec]
  exact ⟨rfl,fun h=>absurd h hr⟩
theorem w130 (p:Pr) (j0:Nat) (f:Fu) (hfi:p.funcs[j0]?=some f) (kn:List Pm) (v:AV) (c:Nat) (k w:Int) (n fn:Nm) (l:List Ex) (bo el:List Sm) (loop:Bool) (h:Heap) (nx:Nat) (hs:CkS (fun v=>scp p j0 v 0) c kn h nx v) (hal:p.arrays.length≤4611686018427387904) (hfl:p.funcs.length≤4611686018427387904) (hpl:∀ g∈p.funcs,g.params.length≤1000000) (hll:l.length≤1000000) (hnl:aN l≤1000000) (hkn:kn.length+vars (.mk k n fn w l bo el)≤100000) (hwf:wfS (.mk k n fn w l bo el)=true)
  (cB:C33 p j0 f.result c bo) (cE:C33 p j0 f.result c el) :
  AC Tryz.prog 130 [.op c 0,.agg (smE (.mk k n fn w l bo el)),.bool loop] h nx (CkR p j0 c v h nx (stW p f.result (.mk k n fn w l bo el) kn loop)):=by
 refine AC.go aj DZ (by simp) ?_
 obtain ⟨w1,w2,w3⟩:=td hwf
 obtain ⟨wx,wb,we⟩:=nT hwf
 have hm:=cH k n fn w l bo el
 rw [hm]
 have hcn:=hs.2.2.2
 have nc:(nx=c)=False:=eq_false (by omega)
 have gk0:∀ b o,b<nx→af h b=some o→af ((nx,AO.cells [.int .u8 k,.str n,.str fn,.int .i64 w,aR l,ay bo,ay el])::h) b=some o:=fun b o hb ho=>by rw [ai,if_neg (by omega)];exact ho
 have hs1:=hs.over (n':=nx+1) (by omega) gk0
 have hvn:aw v≠some nx:=fun e=>by have:=(hs.2.1.blk e).2.2;omega
 have le:=aP l
 have hfx:=cJ hfi
 have fe:=dG f
 rw [vars] at hkn
 obtain ⟨t,ht⟩:∃ t:Nat,(if k=1 then 1 else 0)=t:=⟨_,rfl⟩
 rw [ht] at hkn
 obtain ⟨S,hS⟩:∃ S,stW p f.result (.mk k n fn w l bo el) kn loop=S:=⟨_,rfl⟩
 rw [hS]
 simp -implicitDefEqProofs only [RA,aa,zp,↓reduceIte,reduceCtorEq,zq,zr,zs,zt,GH,A7,↓aT,↓aS,↓aB,↓aA]
 refine fq (fun q st=>∃ (i:Nat) (z:AV) (ws:List Int),q=l.length-i∧i≤l.length∧ws.length=i∧((a9 p kn (l.take i)).1=0→ws=(a9 p kn (l.take i)).2)∧ab st.env 0=some (.op c 0)∧ab st.env 2=some (.bool loop)∧ab st.env 4=some (.op nx 0)∧ab st.env 6=some z∧ab st.env 7=some (.int .i64 i)∧aF 3 1 st.heap st.nx z (ws.map inE)∧(∀ b,aw z=some b→nx<b)∧af st.heap nx=some (.cells [.int .u8 k,.str n,.str fn,.int .i64 w,aR l,ay bo,ay el])∧af st.heap c=some (.cells (scp p j0 v (a9 p kn (l.take i)).1))∧(∀ b o,b<nx→b≠c→af h b=some o→af st.heap b=some o)∧nx<st.nx∧st.dm=[]) 0
  (fun st=>∃ (z:AV) (ws:List Int),ws.length=l.length∧((a9 p kn l).1=0→ws=(a9 p kn l).2)∧ab st.env 0=some (.op c 0)∧ab st.env 2=some (.bool loop)∧ab st.env 4=some (.op nx 0)∧ab st.env 6=some z∧aF 3 1 st.heap st.nx z (ws.map inE)∧(∀ b,aw z=some b→nx<b)∧af st.heap nx=some (.cells [.int .u8 k,.str n,.str fn,.int .i64 w,aR l,ay bo,ay el])∧af st.heap c=some (.cells (scp p j0 v (a9 p kn l).1))∧(∀ b o,b<nx→b≠c→af h b=some o→af st.heap b=some o)∧nx<st.nx∧st.dm=[]) (n:=l.length) aj
  ⟨0,.nilS,[],rfl,by omega,rfl,fun _=>by simp [a9],by simp [ab],by simp [ab],by simp [ab],by simp [ab],by simp [ab],.inl ⟨rfl,rfl⟩,by simp [aw],by simp [af],by
   rw [ai,if_neg (by omega),hs.1];simp only [List.take_zero,a9],fun b o hb hbc ho=>gk0 b o hb ho,by simp,rfl⟩ ?_ ?_
 ·rintro q ⟨env,heap,nx',dm⟩ ⟨i,z,ws,rfl,hi,hwl,hws,g0,g2,g4,g6,g7,ho,hzb,gx,gc2,gk,hnx,hdm⟩
  simp only at g0 g2 g4 g6 g7 ho gx gc2 gk hnx hdm
  subst hdm
  have f1:=wS (i:=i) (by omega)
  have hs2:=hs.wd (n':=nx') (by omega) gc2 gk
  by_cases hc:(i:Int)<(l.length:Int)
  case pos =>
   have hr:=G7 (show i<l.length by omega)
   generalize l[i]=r at hr
   have ix:=bA hr
   have hmem:=G8 hr
   have m1:=bL hmem
   have rl:=bI r
   have rt:=bC r
   simp -implicitDefEqProofs only [RA,aa,zp,↓reduceIte,reduceCtorEq,zq,zr,zs,zt,sU,pJ,le,g0,g2,g4,g6,g7,hc,gx,ix,rl,rt]
   refine (w48 p j0 v kn c (by omega) hal hs.2.2.1 _ r (H4 _) (by omega) (wx r hmem) _ heap nx' gc2 (by omega) (.inr hs2.2.1)).mono ?_
   rintro y h2 n2 ⟨rv,rfl,hrv,gc3,gk2,hn2⟩
   have ho2:aF 3 1 h2 n2 z (ws.map inE):=ho.keep (by omega) fun b o hb hg=>gk2 b o (ho.blk hb).2.2 (by have:=hzb b hb;omega) hg
   obtain ⟨z',h3,n3,ea,ow,hn3,hk3,hb3⟩:=ho2.grw (bytes:=8) (ns:=[inE rv]) (eq _) (by simp [inE]) (by simp only [He,Hc,Hd];omega) (by simp only [He,Hc,Hd,maxLen];omega)
   have ea':eC 3 1 8 h2 n2 z (.lst 1 [[.int .i64 rv]])=some (z',h3,n3):=ea
   simp -implicitDefEqProofs only [RA,aa,zp,↓reduceIte,reduceCtorEq,zq,zr,zs,zt,g0,g2,g4,g6,g7,f1,ea']
   have how:aF 3 1 h3 n3 z' ((ws++[rv]).map inE):=by
    simp only [List.map_append,List.map_cons,List.map_nil];exact ow
   have hzn:aw z≠some nx:=fun e=>by have:=hzb nx e;omega
   have hzc:aw z≠some c:=fun e=>by have:=hzb c e;omega
   have gx2:=hk3 nx _ (by omega) (gk2 nx _ (by omega) (by omega) gx) hzn
   have e1:=qB (p:=p) (kn:=kn) hr
   have gc4:af h3 c=some (.cells (scp p j0 v (a9 p kn (l.take (i+1))).1)):=by
    rw [hk3 c _ (by omega) gc3 hzc,e1]
   have gk3:∀ b o,b<nx→b≠c→af h b=some o→af h3 b=some o:=fun b o hb hbc hg=>hk3 b o (by omega) (gk2 b o (by omega) hbc (gk b o hb hbc hg)) fun e=>by have:=hzb b e;omega
   have hzb2:∀ b,aw z'=some b→nx<b:=fun b hb=>by
    rcases hb3 b hb with h|h
    ·omega
    ·exact hzb b h
   have hwl2:(ws++[rv]).length=i+1:=by rw [Hj,hwl];rfl
   have hws2:(a9 p kn (l.take (i+1))).1=0→ws++[rv]=(a9 p kn (l.take (i+1))).2:=by
    intro h1
    rw [e1] at h1
    split at h1
    ·rename_i h2
     rw [lP hr h2 h1,← hws h2,hrv h2 h1]
    ·rename_i h2;exact absurd h1 h2
   refine ⟨l.length-(i+1),by omega,i+1,z',ws++[rv],rfl,by omega,hwl2,hws2,?_⟩
   repeat' (first|exact how|apply And.intro)
   all_goals first|assumption|rfl|omega|(simp [ab, *];done)
  have hti:l.take i=l:=List.take_of_length_le (by omega)
  rw [hti] at hws gc2
  simp -implicitDefEqProofs only [RA,aa,zp,↓reduceIte,reduceCtorEq,zq,zr,zs,zt,cr,cL,cM,cN,sU,pJ,le,g0,g2,g4,g6,g7,hc,gx]
  refine ⟨z,ws,by omega,hws,?_⟩
  repeat' (first|exact ho|apply And.intro)
  all_goals first|assumption|rfl|omega|(simp [ab, *];done)
 rintro ⟨env,hp0,nx',dm⟩ ⟨z,ws,hwl,hws,g0,g2,g4,g6,ho,hzb,gx0,gc0,gk1,hnx,hdm⟩
 simp only at g0 g2 g4 g6 ho gx0 gc0 gk1 hnx hdm
 subst hdm
 obtain ⟨heap,hfz,hk4⟩:=ho.frz2 (eq _)
 have hgk4:∀ b o,b≤nx→af hp0 b=some o→af heap b=some o:=fun b o hb hg=>hk4 b o hg fun y e=>by
  have:=hzb b (by rw [e];rfl)
  omega
 have gx:=hgk4 nx _ (H4 _) gx0
 have gc2:=hgk4 c _ (by omega) gc0
 have gk:∀ b o,b<nx→b≠c→af h b=some o→af heap b=some o:=fun b o hb hbc hg=>hgk4 b o (by omega) (gk1 b o hb hbc hg)
 have hs2:=hs.wd (n':=nx') (by omega) gc2 gk
 have kp2:Kp c v h nx v heap nx':=Kp.wd (by omega) gk
 refine ⟨6,z,cP ws,heap,g6,hfz,?_⟩
 clear hgk4 hk4 hfz ho hzb gx0 gc0 gk1 g6
 by_cases hz:(a9 p kn l).1=0
 case neg =>
  have hz':((a9 p kn l).1=0)=False:=eq_false hz
  have e1:S=((a9 p kn l).1,kn):=by rw [← hS,stW,if_neg hz]
  rw [e1]
  have gc3:=gc2
  simp only [scp] at gc3
  simp -implicitDefEqProofs only [RA,aa,zp,↓reduceIte,reduceCtorEq,zq,zr,zs,zt,g0,g2,g4,gc3,hz',eY]
  exact ⟨rfl,kn,fun _=>rfl,v,hs2,kp2⟩
 have hwe:=hws hz
 subst hwe
 rw [hz] at hs2 gc2
 have lw:=jY (a9 p kn l).2
 have h1r:=fun (er:Int) (kn2 kn3 kn4:List Pm) (lp:Bool)=>stR p f.result k w n fn l bo el kn loop hz er kn2 kn3 kn4 lp
 rw [hS] at h1r
 have hrl:=oh p f.result kn k n fn w (a9 p kn l).2 loop
 rw [ht] at hrl
 generalize (a9 p kn l).2=ws at hwl h1r lw hrl ⊢
 generalize hre:rlE p f.result kn k n fn w ws loop=re at h1r hrl
 have gc3:=gc2
 simp only [scp] at gc3
 unfold rlE at hre
 have hz':((0:Int)=0)=True:=eq_true rfl
 cases loop with
 | true =>
  by_cases h1:k=1
  case pos =>
   subst h1
   have hs1':=w1 (.inl rfl)
   obtain ⟨a,rfl⟩:∃ a,ws=[a]:=Hq.1 (by omega)
   have i0:=fh a []
   simp only [Ie,if_true,List.getD_cons_zero] at hre
   simp only [if_true] at ht
   subst ht
   simp -implicitDefEqProofs only [RA,aa,zp,↓reduceIte,reduceCtorEq,zq,zr,zs,zt,g0,g2,g4,gx,gc3,hfx,fe,hz',i0,Ie]
   have c32:=BQ p j0 v kn c n w 0 heap nx' hs2 (by omega) hal
   rw [eu] at c32
   refine c32.mono ?_
   rintro y h3 n3 ⟨rfl,v2,hs3,kp3⟩
   have gx3:=kp3.2.1 nx _ (by omega) (by omega) hvn gx
   have hn3:=kp3.1
   have hvn3:aw v2≠some nx:=fun e=>by
    rcases kp3.2.2 nx e with h|h
    ·omega
    ·exact hvn h
   simp -implicitDefEqProofs only [RA,aa,zp,↓reduceIte,reduceCtorEq,zq,zr,zs,zt,g0,g2,g4,gx3,i0,Ie]
   refine (dU p j0 v2 (kn++[(n,w)]) _ 14 (!decide (a=w)) c h3 n3 hs3).mono ?_
   rintro y h5 n5 ⟨rfl,rfl,hs5,hk5⟩
   have hd:df p kn n=0∨df p kn n=18:=by unfold df;split <;> simp
   obtain ⟨er,her0⟩:∃ er:Int,(if (!decide (a=w))=true∧(if df p kn n≠0∧(0:Int)=0 then (18:Int) else 0)=0 then (14:Int) else if df p kn n≠0∧(0:Int)=0 then 18 else 0)=er:=⟨_,rfl⟩
   rw [her0] at hs5
   have her:er=re.1:=by
    rw [← her0,← hre]
    rcases hd with h|h <;> by_cases hq:a=w <;> simp [h,hq]
   have hkn2:er=0→kn++[(n,w)]=re.2:=fun h0=>by
    rw [← her0] at h0
    rw [← hre]
    rcases hd with h|h
    ·simp [h]
    ·by_cases hq:a=w <;> simp [h,hq] at h0
   have kp5:Kp c v heap nx' v2 h5 n5:=kp3.trans (Kp.wd (H4 _) fun b o _ hbc ho=>hk5 b o hbc ho)
   have gx5:=(kp5).2.1 nx _ (by omega) (by omega) hvn gx
   have hvn2:aw v2≠some nx:=fun e=>by
    rcases (kp5).2.2 nx e with h|h
    ·omega
    ·exact hvn h
   have hn5:=(kp5).1
   simp -implicitDefEqProofs only [RA,aa,zp,↓reduceIte,reduceCtorEq,zq,zr,zs,zt,g0,g2,g4,gx5,Ie]
   refine (cB true _ (kn++[(n,w)]) v2 _ _ (fun h0=>by rw [hkn2 h0];omega) hs5).mono ?_
   rintro y h6 n6 ⟨rfl,kn3,hk3,v3,hs6,kp6⟩
   have gx6:=kp6.2.1 nx _ (by omega) (by omega) hvn2 gx5
   have hbl:=bD p f.result bo re.2 true
   simp -implicitDefEqProofs only [RA,aa,zp,↓reduceIte,reduceCtorEq,zq,zr,zs,zt,g0,g2,g4,gx6,Ie]
   refine (cE true _ kn3 v3 h6 n6 (fun h0=>?_) hs6).mono ?_
   ·have hr0:er=0:=by
     by_cases hq:er=0
     ·exact hq
     ·rw [blR,if_neg hq] at h0;exact absurd h0 hq
    rw [hk3 h0,blR,if_pos hr0,hkn2 hr0];omega
   rintro y h7 n7 ⟨rfl,kn4,hk4,v4,hs7,kp7⟩
   obtain ⟨q1,q2⟩:=h1r _ (kn++[(n,w)]) kn3 kn4 true (by simp) her hkn2 hk3 hk4
   simp -implicitDefEqProofs only [RA,aa,zp,↓reduceIte,reduceCtorEq,zq,zr,zs,zt,g0,g2,g4,eY]
   rw [q1] at hs7
   exact ⟨rfl,kn4,q2,v4,hs7,((kp2.trans (kp5)).trans kp6).trans kp7⟩
  have k1:(k=1)=False:=eq_false h1
  rw [if_neg h1] at hre
  rw [if_neg h1] at ht
  subst ht
  by_cases h2:k=2
  case pos =>
   subst h2
   have hs1':=w1 (.inr (.inl rfl))
   obtain ⟨a,rfl⟩:∃ a,ws=[a]:=Hq.1 (by omega)
   have i0:=fh a []
   simp only [Ie,if_true,List.getD_cons_zero] at hre
   simp -implicitDefEqProofs only [RA,aa,zp,↓reduceIte,reduceCtorEq,zq,zr,zs,zt,g0,g2,g4,gx,gc3,hfx,fe,hz',i0,Ie]
   refine (mg p j0 v _ kn c n heap nx' hs2.1 (.inr hs2.2.1) (by omega)).mono ?_
   rintro y h3 n3 ⟨rfl,hhe,hn3⟩
   obtain rfl:heap=h3:=hhe.symm
   simp -implicitDefEqProofs only [RA,aa,zp,↓reduceIte,reduceCtorEq,zq,zr,zs,zt,g0,g2,g4,gx,i0,Ie]
   refine (dU p j0 v kn 0 16 (decide (kw kn n=0)) c _ n3 (hs2.over hn3 fun _ _ _ h=>h)).mono ?_
   rintro y h3 n4 ⟨rfl,rfl,hs3,hk3⟩
   have gx3:=hk3 nx _ (by omega) gx
   simp -implicitDefEqProofs only [RA,aa,zp,↓reduceIte,reduceCtorEq,zq,zr,zs,zt,g0,g2,g4,gx3,i0,Ie]
   refine (mg p j0 v _ kn c n h3 n4 hs3.1 (.inr hs3.2.1) (by omega)).mono ?_
   rintro y h4 n5 ⟨rfl,rfl,hn5⟩
   simp -implicitDefEqProofs only [RA,aa,zp,↓reduceIte,reduceCtorEq,zq,zr,zs,zt,g0,g2,g4,gx3,i0,Ie]
   refine (dU p j0 v kn _ 14 (!decide (a=kw kn n)) c _ n5 (hs3.over hn5 fun _ _ _ h=>h)).mono ?_
   rintro y h5 n6 ⟨rfl,rfl,hs5,hk5⟩
   obtain ⟨er,her0⟩:∃ er:Int,(if (!decide (a=kw kn n))=true∧(if decide (kw kn n=0)=true∧(0:Int)=0 then (16:Int) else 0)=0 then (14:Int) else if decide (kw kn n=0)=true∧(0:Int)=0 then 16 else 0)=er:=⟨_,rfl⟩
   rw [her0] at hs5
   have her:er=re.1:=by
    rw [← her0,← hre]
    by_cases hq2:kw kn n=0 <;> by_cases hq:a=kw kn n <;> simp [hq2,hq]
   have hkn2:er=0→kn=re.2:=fun _=>by rw [← hre]
   have kp5:Kp c v heap nx' v h5 n6:=Kp.wd (by omega) fun b o _ hbc ho=>hk5 b o hbc (hk3 b o hbc ho)
   have gx5:=(kp5).2.1 nx _ (by omega) (by omega) hvn gx
   have hvn2:aw v≠some nx:=fun e=>by
    rcases (kp5).2.2 nx e with h|h
    ·omega
    ·exact hvn h
   have hn5:=(kp5).1
   simp -implicitDefEqProofs only [RA,aa,zp,↓reduceIte,reduceCtorEq,zq,zr,zs,zt,g0,g2,g4,gx5,Ie]
   refine (cB true _ kn v _ _ (fun h0=>by rw [hkn2 h0];omega) hs5).mono ?_
   rintro y h6 n6 ⟨rfl,kn3,hk3,v3,hs6,kp6⟩
   have gx6:=kp6.2.1 nx _ (by omega) (by omega) hvn2 gx5
   have hbl:=bD p f.result bo re.2 true
   simp -implicitDefEqProofs only [RA,aa,zp,↓reduceIte,reduceCtorEq,zq,zr,zs,zt,g0,g2,g4,gx6,Ie]
   refine (cE true _ kn3 v3 h6 n6 (fun h0=>?_) hs6).mono ?_
   ·have hr0:er=0:=by
     by_cases hq:er=0
     ·exact hq
     ·rw [blR,if_neg hq] at h0;exact absurd h0 hq
    rw [hk3 h0,blR,if_pos hr0,hkn2 hr0];omega
   rintro y h7 n7 ⟨rfl,kn4,hk4,v4,hs7,kp7⟩
   obtain ⟨q1,q2⟩:=h1r _ kn kn3 kn4 true (by simp) her hkn2 hk3 hk4
   simp -implicitDefEqProofs only [RA,aa,zp,↓reduceIte,reduceCtorEq,zq,zr,zs,zt,g0,g2,g4,eY]
   rw [q1] at hs7
   exact ⟨rfl,kn4,q2,v4,hs7,((kp2.trans (kp5)).trans kp6).trans kp7⟩
  have k2:(k=2)=False:=eq_false h2
  rw [if_neg h2] at hre
  by_cases h3:k=3
  case pos =>
   subst h3
   have hs1':=w2 rfl
   obtain ⟨a,d,rfl⟩:∃ a d,ws=[a,d]:=wL (by omega)
   have i0:=fh a [d]
   have i1:=wV a d []
   simp only [Ie,if_true,List.getD_cons_zero,List.getD_cons_succ] at hre
   simp -implicitDefEqProofs only [RA,aa,zp,↓reduceIte,reduceCtorEq,zq,zr,zs,zt,g0,g2,g4,gx,gc3,hfx,fe,hz',i0,Ie]
   refine (w53 p n hal).use fun n3 hn3=>?_
   simp -implicitDefEqProofs only [RA,aa,zp,↓reduceIte,reduceCtorEq,zq,zr,zs,zt,g0,g2,g4,gx,gc3,Ie]
   refine (dU p j0 v kn 0 16 (decide (arI p n<0)) c heap n3 (hs2.over hn3 fun _ _ _ h=>h)).mono ?_
   rintro y h3 n4 ⟨rfl,rfl,hs3,hk3⟩
   have gx3:=hk3 nx _ (by omega) gx
   have gc4:=hs3.1
   simp only [scp] at gc4
   have hkn2:∀ er:Int,er=0→kn=re.2:=fun _ _=>by rw [← hre]
   rcases ah (arI p n<0) with ⟨d1',d1⟩|⟨d1',d1⟩
   case inl =>
    have d2:(0≤arI p n)=False:=eq_false (by omega)
    simp -implicitDefEqProofs only [RA,aa,zp,↓reduceIte,reduceCtorEq,zq,zr,zs,zt,g0,g2,g4,gx3,gc4,d1,d2,Ie]
    refine (dU p j0 v kn _ 14 (false) c _ n4 hs3).mono ?_
    rintro y h5 n5 ⟨rfl,rfl,hs5,hk5⟩
    obtain ⟨er,her0⟩:∃ er:Int,(if (false)=true∧(if decide (arI p n<0)=true∧(0:Int)=0 then (16:Int) else 0)=0 then (14:Int) else if decide (arI p n<0)=true∧(0:Int)=0 then 16 else 0)=er:=⟨_,rfl⟩
    rw [her0] at hs5
    have her:er=re.1:=by
     rw [← her0,← hre]
     simp [d1']
    have kp5:Kp c v heap nx' v h5 n5:=Kp.wd (by omega) fun b o _ hbc ho=>hk5 b o hbc (hk3 b o hbc ho)
    have gx5:=(kp5).2.1 nx _ (by omega) (by omega) hvn gx
    have hvn2:aw v≠some nx:=fun e=>by
     rcases (kp5).2.2 nx e with h|h
     ·omega
     ·exact hvn h
    have hn5:=(kp5).1
    simp -implicitDefEqProofs only [RA,aa,zp,↓reduceIte,reduceCtorEq,zq,zr,zs,zt,g0,g2,g4,gx5,Ie]
    refine (cB true _ kn v _ _ (fun h0=>by rw [(hkn2 er) h0];omega) hs5).mono ?_
    rintro y h6 n6 ⟨rfl,kn3,hk3,v3,hs6,kp6⟩
    have gx6:=kp6.2.1 nx _ (by omega) (by omega) hvn2 gx5
    have hbl:=bD p f.result bo re.2 true
    simp -implicitDefEqProofs only [RA,aa,zp,↓reduceIte,reduceCtorEq,zq,zr,zs,zt,g0,g2,g4,gx6,Ie]
    refine (cE true _ kn3 v3 h6 n6 (fun h0=>?_) hs6).mono ?_
    ·have hr0:er=0:=by
      by_cases hq:er=0
      ·exact hq
      ·rw [blR,if_neg hq] at h0;exact absurd h0 hq
     rw [hk3 h0,blR,if_pos hr0,(hkn2 er) hr0];omega
    rintro y h7 n7 ⟨rfl,kn4,hk4,v4,hs7,kp7⟩
    obtain ⟨q1,q2⟩:=h1r _ kn kn3 kn4 true (by simp) her (hkn2 er) hk3 hk4
    simp -implicitDefEqProofs only [RA,aa,zp,↓reduceIte,reduceCtorEq,zq,zr,zs,zt,g0,g2,g4,eY]
    rw [q1] at hs7
    exact ⟨rfl,kn4,q2,v4,hs7,((kp2.trans (kp5)).trans kp6).trans kp7⟩
   have d2:(0≤arI p n)=True:=eq_true (by omega)
   rcases ah (a=32) with ⟨d3',d3⟩|⟨d3',d3⟩
   case inr =>
    simp -implicitDefEqProofs only [RA,aa,zp,↓reduceIte,reduceCtorEq,zq,zr,zs,zt,g0,g2,g4,gx3,gc4,d1,d2,d3,i0,Ie]
    refine (dU p j0 v kn _ 14 (true) c _ n4 hs3).mono ?_
    rintro y h5 n5 ⟨rfl,rfl,hs5,hk5⟩
    obtain ⟨er,her0⟩:∃ er:Int,(if (true)=true∧(if decide (arI p n<0)=true∧(0:Int)=0 then (16:Int) else 0)=0 then (14:Int) else if decide (arI p n<0)=true∧(0:Int)=0 then 16 else 0)=er:=⟨_,rfl⟩
    rw [her0] at hs5
    have her:er=re.1:=by
     rw [← her0,← hre]
     simp [d1',d3']
    have kp5:Kp c v heap nx' v h5 n5:=Kp.wd (by omega) fun b o _ hbc ho=>hk5 b o hbc (hk3 b o hbc ho)
    have gx5:=(kp5).2.1 nx _ (by omega) (by omega) hvn gx
    have hvn2:aw v≠some nx:=fun e=>by
     rcases (kp5).2.2 nx e with h|h
     ·omega
     ·exact hvn h
    have hn5:=(kp5).1
    simp -implicitDefEqProofs only [RA,aa,zp,↓reduceIte,reduceCtorEq,zq,zr,zs,zt,g0,g2,g4,gx5,Ie]
    refine (cB true _ kn v _ _ (fun h0=>by rw [(hkn2 er) h0];omega) hs5).mono ?_
    rintro y h6 n6 ⟨rfl,kn3,hk3,v3,hs6,kp6⟩
    have gx6:=kp6.2.1 nx _ (by omega) (by omega) hvn2 gx5
    have hbl:=bD p f.result bo re.2 true
    simp -implicitDefEqProofs only [RA,aa,zp,↓reduceIte,reduceCtorEq,zq,zr,zs,zt,g0,g2,g4,gx6,Ie]
    refine (cE true _ kn3 v3 h6 n6 (fun h0=>?_) hs6).mono ?_
    ·have hr0:er=0:=by
      by_cases hq:er=0
      ·exact hq
      ·rw [blR,if_neg hq] at h0;exact absurd h0 hq
     rw [hk3 h0,blR,if_pos hr0,(hkn2 er) hr0];omega
    rintro y h7 n7 ⟨rfl,kn4,hk4,v4,hs7,kp7⟩
    obtain ⟨q1,q2⟩:=h1r _ kn kn3 kn4 true (by simp) her (hkn2 er) hk3 hk4
    simp -implicitDefEqProofs only [RA,aa,zp,↓reduceIte,reduceCtorEq,zq,zr,zs,zt,g0,g2,g4,eY]
    rw [q1] at hs7
    exact ⟨rfl,kn4,q2,v4,hs7,((kp2.trans (kp5)).trans kp6).trans kp7⟩
   obtain ⟨j,ar,q1,q2,q3⟩:=iw d1'
   have ix:=cO q2
   have ae:=dB ar
   have mxj:(if (0:Int) > (j:Int) then (0:Int) else (j:Int))=(j:Int):=if_neg (by omega)
   rw [q1] at d2
   simp -implicitDefEqProofs only [RA,aa,zp,↓reduceIte,reduceCtorEq,zq,zr,zs,zt,g0,g2,g4,gx3,gc4,d2,d3,i0,i1,q1,mxj,ix,ae,Ie]
   refine (dU p j0 v kn _ 14 (!decide (d=ar.width)) c _ n4 hs3).mono ?_
   rintro y h5 n5 ⟨rfl,rfl,hs5,hk5⟩
   obtain ⟨er,her0⟩:∃ er:Int,(if (!decide (d=ar.width))=true∧(if decide (arI p n<0)=true∧(0:Int)=0 then (16:Int) else 0)=0 then (14:Int) else if decide (arI p n<0)=true∧(0:Int)=0 then 16 else 0)=er:=⟨_,rfl⟩
   rw [her0] at hs5
   have her:er=re.1:=by
    rw [← her0,← hre]
    by_cases hq:d=ar.width <;> simp [d1',d3',q3,hq]
   have kp5:Kp c v heap nx' v h5 n5:=Kp.wd (by omega) fun b o _ hbc ho=>hk5 b o hbc (hk3 b o hbc ho)
   have gx5:=(kp5).2.1 nx _ (by omega) (by omega) hvn gx
   have hvn2:aw v≠some nx:=fun e=>by
    rcases (kp5).2.2 nx e with h|h
    ·omega
    ·exact hvn h
   have hn5:=(kp5).1
   simp -implicitDefEqProofs only [RA,aa,zp,↓reduceIte,reduceCtorEq,zq,zr,zs,zt,g0,g2,g4,gx5,Ie]
   refine (cB true _ kn v _ _ (fun h0=>by rw [(hkn2 er) h0];omega) hs5).mono ?_
   rintro y h6 n6 ⟨rfl,kn3,hk3,v3,hs6,kp6⟩
   have gx6:=kp6.2.1 nx _ (by omega) (by omega) hvn2 gx5
   have hbl:=bD p f.result bo re.2 true
   simp -implicitDefEqProofs only [RA,aa,zp,↓reduceIte,reduceCtorEq,zq,zr,zs,zt,g0,g2,g4,gx6,Ie]
   refine (cE true _ kn3 v3 h6 n6 (fun h0=>?_) hs6).mono ?_
   ·have hr0:er=0:=by
     by_cases hq:er=0
     ·exact hq
     ·rw [blR,if_neg hq] at h0;exact absurd h0 hq
    rw [hk3 h0,blR,if_pos hr0,(hkn2 er) hr0];omega
   rintro y h7 n7 ⟨rfl,kn4,hk4,v4,hs7,kp7⟩
   obtain ⟨q1,q2⟩:=h1r _ kn kn3 kn4 true (by simp) her (hkn2 er) hk3 hk4
   simp -implicitDefEqProofs only [RA,aa,zp,↓reduceIte,reduceCtorEq,zq,zr,zs,zt,g0,g2,g4,eY]
   rw [q1] at hs7
   exact ⟨rfl,kn4,q2,v4,hs7,((kp2.trans (kp5)).trans kp6).trans kp7⟩
  have k3:(k=3)=False:=eq_false h3
  rw [if_neg h3] at hre
  by_cases h4:k=4
  case pos =>
   subst h4
   have hs1':=w1 (.inr (.inr (.inl rfl)))
   obtain ⟨a,rfl⟩:∃ a,ws=[a]:=Hq.1 (by omega)
   have i0:=fh a []
   simp only [Ie,if_true,List.getD_cons_zero,true_or] at hre
   simp -implicitDefEqProofs only [RA,aa,zp,↓reduceIte,reduceCtorEq,zq,zr,zs,zt,g0,g2,g4,gx,gc3,hfx,fe,hz',i0,Ie]
   refine (dU p j0 v kn 0 14 (!decide (a=1)) c heap nx' hs2).mono ?_
   rintro y h5 n5 ⟨rfl,hne,hs5,hk5⟩
   obtain rfl:nx'=n5:=hne.symm
   have her:(if (!decide (a=1))=true∧(0:Int)=0 then (14:Int) else 0)=re.1:=by rw [← hre];by_cases hq:a=1 <;> simp [hq]
   have hkn2:(if (!decide (a=1))=true∧(0:Int)=0 then (14:Int) else 0)=0→kn=re.2:=fun _=>by rw [← hre]
   have kp5:Kp c v heap nx' v h5 nx':=Kp.wd (H4 _) fun b o _ hbc ho=>hk5 b o hbc ho
   have gx5:=(kp5).2.1 nx _ (by omega) (by omega) hvn gx
   have hvn2:aw v≠some nx:=fun e=>by
    rcases (kp5).2.2 nx e with h|h
    ·omega
    ·exact hvn h
   have hn5:=(kp5).1
   simp -implicitDefEqProofs only [RA,aa,zp,↓reduceIte,reduceCtorEq,zq,zr,zs,zt,g0,g2,g4,gx5,Ie]
   refine (cB true _ kn v _ _ (fun h0=>by rw [hkn2 h0];omega) hs5).mono ?_
   rintro y h6 n6 ⟨rfl,kn3,hk3,v3,hs6,kp6⟩
   have gx6:=kp6.2.1 nx _ (by omega) (by omega) hvn2 gx5
   have hbl:=bD p f.result bo re.2 true
   simp -implicitDefEqProofs only [RA,aa,zp,↓reduceIte,reduceCtorEq,zq,zr,zs,zt,g0,g2,g4,gx6,Ie]
   refine (cE true _ kn3 v3 h6 n6 (fun h0=>?_) hs6).mono ?_
   ·have hr0:(if (!decide (a=1))=true∧(0:Int)=0 then (14:Int) else 0)=0:=by
     by_cases hq:(if (!decide (a=1))=true∧(0:Int)=0 then (14:Int) else 0)=0
     ·exact hq
     ·rw [blR,if_neg hq] at h0;exact absurd h0 hq
    rw [hk3 h0,blR,if_pos hr0,hkn2 hr0];omega
   rintro y h7 n7 ⟨rfl,kn4,hk4,v4,hs7,kp7⟩
   obtain ⟨q1,q2⟩:=h1r _ kn kn3 kn4 true (by simp) her hkn2 hk3 hk4
   simp -implicitDefEqProofs only [RA,aa,zp,↓reduceIte,reduceCtorEq,zq,zr,zs,zt,g0,g2,g4,eY]
   rw [q1] at hs7
   exact ⟨rfl,kn4,q2,v4,hs7,((kp2.trans (kp5)).trans kp6).trans kp7⟩
  have k4:(k=4)=False:=eq_false h4
  by_cases h5:k=5
  case pos =>
   subst h5
   have hs1':=w1 (.inr (.inr (.inr rfl)))
   obtain ⟨a,rfl⟩:∃ a,ws=[a]:=Hq.1 (by omega)
   have i0:=fh a []
   simp only [Ie,if_true,List.getD_cons_zero,or_true] at hre
   simp -implicitDefEqProofs only [RA,aa,zp,↓reduceIte,reduceCtorEq,zq,zr,zs,zt,g0,g2,g4,gx,gc3,hfx,fe,hz',i0,Ie]
   refine (dU p j0 v kn 0 14 (!decide (a=1)) c heap nx' hs2).mono ?_
   rintro y h5 n5 ⟨rfl,hne,hs5,hk5⟩
   obtain rfl:nx'=n5:=hne.symm
   have her:(if (!decide (a=1))=true∧(0:Int)=0 then (14:Int) else 0)=re.1:=by rw [← hre];by_cases hq:a=1 <;> simp [hq]
   have hkn2:(if (!decide (a=1))=true∧(0:Int)=0 then (14:Int) else 0)=0→kn=re.2:=fun _=>by rw [← hre]
   have kp5:Kp c v heap nx' v h5 nx':=Kp.wd (H4 _) fun b o _ hbc ho=>hk5 b o hbc ho
   have gx5:=(kp5).2.1 nx _ (by omega) (by omega) hvn gx
   have hvn2:aw v≠some nx:=fun e=>by
    rcases (kp5).2.2 nx e with h|h
    ·omega
    ·exact hvn h
   have hn5:=(kp5).1
   simp -implicitDefEqProofs only [RA,aa,zp,↓reduceIte,reduceCtorEq,zq,zr,zs,zt,g0,g2,g4,gx5,Ie]
   refine (cB true _ kn v _ _ (fun h0=>by rw [hkn2 h0];omega) hs5).mono ?_
   rintro y h6 n6 ⟨rfl,kn3,hk3,v3,hs6,kp6⟩
   have gx6:=kp6.2.1 nx _ (by omega) (by omega) hvn2 gx5
   have hbl:=bD p f.result bo re.2 true
   simp -implicitDefEqProofs only [RA,aa,zp,↓reduceIte,reduceCtorEq,zq,zr,zs,zt,g0,g2,g4,gx6,Ie]
   refine (cE true _ kn3 v3 h6 n6 (fun h0=>?_) hs6).mono ?_
   ·have hr0:(if (!decide (a=1))=true∧(0:Int)=0 then (14:Int) else 0)=0:=by
     by_cases hq:(if (!decide (a=1))=true∧(0:Int)=0 then (14:Int) else 0)=0
     ·exact hq
     ·rw [blR,if_neg hq] at h0;exact absurd h0 hq
    rw [hk3 h0,blR,if_pos hr0,hkn2 hr0];omega
   rintro y h7 n7 ⟨rfl,kn4,hk4,v4,hs7,kp7⟩
   obtain ⟨q1,q2⟩:=h1r _ kn kn3 kn4 true (by simp) her hkn2 hk3 hk4
   simp -implicitDefEqProofs only [RA,aa,zp,↓reduceIte,reduceCtorEq,zq,zr,zs,zt,g0,g2,g4,eY]
   rw [q1] at hs7
   exact ⟨rfl,kn4,q2,v4,hs7,((kp2.trans (kp5)).trans kp6).trans kp7⟩
  have k5:(k=5)=False:=eq_false h5
  rw [if_neg (by omega)] at hre
  by_cases h6:k=6
  case pos =>
   subst h6
   simp only [Ie,if_true] at hre
   simp -implicitDefEqProofs only [RA,aa,zp,↓reduceIte,reduceCtorEq,zq,zr,zs,zt,g0,g2,g4,gx,gc3,hfx,fe,hz',Ie,unA]
   refine (dU p j0 v kn 0 12 (false) c heap nx' hs2).mono ?_
   rintro y h5 n5 ⟨rfl,hne,hs5,hk5⟩
   obtain rfl:nx'=n5:=hne.symm
   have her:(if (false)=true∧(0:Int)=0 then (12:Int) else 0)=re.1:=by rw [← hre];simp
   have hkn2:(if (false)=true∧(0:Int)=0 then (12:Int) else 0)=0→kn=re.2:=fun _=>by rw [← hre]
   have kp5:Kp c v heap nx' v h5 nx':=Kp.wd (H4 _) fun b o _ hbc ho=>hk5 b o hbc ho
   have gx5:=(kp5).2.1 nx _ (by omega) (by omega) hvn gx
   have hvn2:aw v≠some nx:=fun e=>by
    rcases (kp5).2.2 nx e with h|h
    ·omega
    ·exact hvn h
   have hn5:=(kp5).1
   simp -implicitDefEqProofs only [RA,aa,zp,↓reduceIte,reduceCtorEq,zq,zr,zs,zt,g0,g2,g4,gx5,Ie]
   refine (cB true _ kn v _ _ (fun h0=>by rw [hkn2 h0];omega) hs5).mono ?_
   rintro y h6 n6 ⟨rfl,kn3,hk3,v3,hs6,kp6⟩
   have gx6:=kp6.2.1 nx _ (by omega) (by omega) hvn2 gx5
   have hbl:=bD p f.result bo re.2 true
   simp -implicitDefEqProofs only [RA,aa,zp,↓reduceIte,reduceCtorEq,zq,zr,zs,zt,g0,g2,g4,gx6,Ie]
   refine (cE true _ kn3 v3 h6 n6 (fun h0=>?_) hs6).mono ?_
   ·have hr0:(if (false)=true∧(0:Int)=0 then (12:Int) else 0)=0:=by
     by_cases hq:(if (false)=true∧(0:Int)=0 then (12:Int) else 0)=0
     ·exact hq
     ·rw [blR,if_neg hq] at h0;exact absurd h0 hq
    rw [hk3 h0,blR,if_pos hr0,hkn2 hr0];omega
   rintro y h7 n7 ⟨rfl,kn4,hk4,v4,hs7,kp7⟩
   obtain ⟨q1,q2⟩:=h1r _ kn kn3 kn4 true (by simp) her hkn2 hk3 hk4
   simp -implicitDefEqProofs only [RA,aa,zp,↓reduceIte,reduceCtorEq,zq,zr,zs,zt,g0,g2,g4,eY]
   rw [q1] at hs7
   exact ⟨rfl,kn4,q2,v4,hs7,((kp2.trans (kp5)).trans kp6).trans kp7⟩
  have k6:(k=6)=False:=eq_false h6
  rw [if_neg h6] at hre
  by_cases h8:k=8
  case pos =>
   subst h8
   have hs1':=w3 rfl
   simp only [if_true] at hre
   match ws,hwl with
   | [],_ =>
    have lw:dt (cP [])=some 0:=rfl
    have z0:(((0:Nat):Int)=0)=True:=eq_true rfl
    have z1:(((0:Nat):Int)=1)=False:=eq_false (by omega)
    rcases ah (f.result=0) with ⟨d1',d1⟩|⟨d1',d1⟩
    case inl =>
     simp -implicitDefEqProofs only [RA,aa,zp,↓reduceIte,reduceCtorEq,zq,zr,zs,zt,g0,g2,g4,gx,gc3,hfx,fe,hz',lw,z0,z1,d1,Ie]
     refine (dU p j0 v kn 0 14 (false) c heap nx' hs2).mono ?_
     rintro y h5 n5 ⟨rfl,hne,hs5,hk5⟩
     obtain rfl:nx'=n5:=hne.symm
     have her:(if (false)=true∧(0:Int)=0 then (14:Int) else 0)=re.1:=by rw [← hre];simp [d1']
     have hkn2:(if (false)=true∧(0:Int)=0 then (14:Int) else 0)=0→kn=re.2:=fun _=>by rw [← hre]
     have kp5:Kp c v heap nx' v h5 nx':=Kp.wd (H4 _) fun b o _ hbc ho=>hk5 b o hbc ho
     have gx5:=(kp5).2.1 nx _ (by omega) (by omega) hvn gx
     have hvn2:aw v≠some nx:=fun e=>by
      rcases (kp5).2.2 nx e with h|h
      ·omega
      ·exact hvn h
     have hn5:=(kp5).1
     simp -implicitDefEqProofs only [RA,aa,zp,↓reduceIte,reduceCtorEq,zq,zr,zs,zt,g0,g2,g4,gx5,Ie]
     refine (cB true _ kn v _ _ (fun h0=>by rw [hkn2 h0];omega) hs5).mono ?_
     rintro y h6 n6 ⟨rfl,kn3,hk3,v3,hs6,kp6⟩
     have gx6:=kp6.2.1 nx _ (by omega) (by omega) hvn2 gx5
     have hbl:=bD p f.result bo re.2 true
     simp -implicitDefEqProofs only [RA,aa,zp,↓reduceIte,reduceCtorEq,zq,zr,zs,zt,g0,g2,g4,gx6,Ie]
     refine (cE true _ kn3 v3 h6 n6 (fun h0=>?_) hs6).mono ?_
     ·have hr0:(if (false)=true∧(0:Int)=0 then (14:Int) else 0)=0:=by
       by_cases hq:(if (false)=true∧(0:Int)=0 then (14:Int) else 0)=0
       ·exact hq
       ·rw [blR,if_neg hq] at h0;exact absurd h0 hq
      rw [hk3 h0,blR,if_pos hr0,hkn2 hr0];omega
     rintro y h7 n7 ⟨rfl,kn4,hk4,v4,hs7,kp7⟩
     obtain ⟨q1,q2⟩:=h1r _ kn kn3 kn4 true (by simp) her hkn2 hk3 hk4
     simp -implicitDefEqProofs only [RA,aa,zp,↓reduceIte,reduceCtorEq,zq,zr,zs,zt,g0,g2,g4,eY]
     rw [q1] at hs7
     exact ⟨rfl,kn4,q2,v4,hs7,((kp2.trans (kp5)).trans kp6).trans kp7⟩
    simp -implicitDefEqProofs only [RA,aa,zp,↓reduceIte,reduceCtorEq,zq,zr,zs,zt,g0,g2,g4,gx,gc3,hfx,fe,hz',lw,z0,z1,d1,Ie]
    refine (dU p j0 v kn 0 14 (true) c heap nx' hs2).mono ?_
    rintro y h5 n5 ⟨rfl,hne,hs5,hk5⟩
    obtain rfl:nx'=n5:=hne.symm
    have her:(if (true)=true∧(0:Int)=0 then (14:Int) else 0)=re.1:=by rw [← hre];simp [d1']
    have hkn2:(if (true)=true∧(0:Int)=0 then (14:Int) else 0)=0→kn=re.2:=fun _=>by rw [← hre]
    have kp5:Kp c v heap nx' v h5 nx':=Kp.wd (H4 _) fun b o _ hbc ho=>hk5 b o hbc ho
    have gx5:=(kp5).2.1 nx _ (by omega) (by omega) hvn gx
    have hvn2:aw v≠some nx:=fun e=>by
     rcases (kp5).2.2 nx e with h|h
     ·omega
     ·exact hvn h
    have hn5:=(kp5).1
    simp -implicitDefEqProofs only [RA,aa,zp,↓reduceIte,reduceCtorEq,zq,zr,zs,zt,g0,g2,g4,gx5,Ie]
    refine (cB true _ kn v _ _ (fun h0=>by rw [hkn2 h0];omega) hs5).mono ?_
    rintro y h6 n6 ⟨rfl,kn3,hk3,v3,hs6,kp6⟩
    have gx6:=kp6.2.1 nx _ (by omega) (by omega) hvn2 gx5
    have hbl:=bD p f.result bo re.2 true
    simp -implicitDefEqProofs only [RA,aa,zp,↓reduceIte,reduceCtorEq,zq,zr,zs,zt,g0,g2,g4,gx6,Ie]
    refine (cE true _ kn3 v3 h6 n6 (fun h0=>?_) hs6).mono ?_
    ·have hr0:(if (true)=true∧(0:Int)=0 then (14:Int) else 0)=0:=by
      by_cases hq:(if (true)=true∧(0:Int)=0 then (14:Int) else 0)=0
      ·exact hq
      ·rw [blR,if_neg hq] at h0;exact absurd h0 hq
     rw [hk3 h0,blR,if_pos hr0,hkn2 hr0];omega
    rintro y h7 n7 ⟨rfl,kn4,hk4,v4,hs7,kp7⟩
    obtain ⟨q1,q2⟩:=h1r _ kn kn3 kn4 true (by simp) her hkn2 hk3 hk4
    simp -implicitDefEqProofs only [RA,aa,zp,↓reduceIte,reduceCtorEq,zq,zr,zs,zt,g0,g2,g4,eY]
    rw [q1] at hs7
    exact ⟨rfl,kn4,q2,v4,hs7,((kp2.trans (kp5)).trans kp6).trans kp7⟩
   | [a],_ =>
    have lw:dt (cP [a])=some 1:=rfl
    have z0:(((1:Nat):Int)=0)=False:=eq_false (by omega)
    have z1:(((1:Nat):Int)=1)=True:=eq_true rfl
    have i0:=fh a []
    simp -implicitDefEqProofs only [RA,aa,zp,↓reduceIte,reduceCtorEq,zq,zr,zs,zt,g0,g2,g4,gx,gc3,hfx,fe,hz',lw,z0,z1,i0,Ie]
    refine (dU p j0 v kn 0 14 (!decide (a=f.result)) c heap nx' hs2).mono ?_
    rintro y h5 n5 ⟨rfl,hne,hs5,hk5⟩
    obtain rfl:nx'=n5:=hne.symm
    have her:(if (!decide (a=f.result))=true∧(0:Int)=0 then (14:Int) else 0)=re.1:=by rw [← hre];by_cases hq:a=f.result <;> simp [hq]
    have hkn2:(if (!decide (a=f.result))=true∧(0:Int)=0 then (14:Int) else 0)=0→kn=re.2:=fun _=>by rw [← hre]
    have kp5:Kp c v heap nx' v h5 nx':=Kp.wd (H4 _) fun b o _ hbc ho=>hk5 b o hbc ho
    have gx5:=(kp5).2.1 nx _ (by omega) (by omega) hvn gx
    have hvn2:aw v≠some nx:=fun e=>by
     rcases (kp5).2.2 nx e with h|h
     ·omega
     ·exact hvn h
    have hn5:=(kp5).1
    simp -implicitDefEqProofs only [RA,aa,zp,↓reduceIte,reduceCtorEq,zq,zr,zs,zt,g0,g2,g4,gx5,Ie]
    refine (cB true _ kn v _ _ (fun h0=>by rw [hkn2 h0];omega) hs5).mono ?_
    rintro y h6 n6 ⟨rfl,kn3,hk3,v3,hs6,kp6⟩
    have gx6:=kp6.2.1 nx _ (by omega) (by omega) hvn2 gx5
    have hbl:=bD p f.result bo re.2 true
    simp -implicitDefEqProofs only [RA,aa,zp,↓reduceIte,reduceCtorEq,zq,zr,zs,zt,g0,g2,g4,gx6,Ie]
    refine (cE true _ kn3 v3 h6 n6 (fun h0=>?_) hs6).mono ?_
    ·have hr0:(if (!decide (a=f.result))=true∧(0:Int)=0 then (14:Int) else 0)=0:=by
      by_cases hq:(if (!decide (a=f.result))=true∧(0:Int)=0 then (14:Int) else 0)=0
      ·exact hq
      ·rw [blR,if_neg hq] at h0;exact absurd h0 hq
     rw [hk3 h0,blR,if_pos hr0,hkn2 hr0];omega
    rintro y h7 n7 ⟨rfl,kn4,hk4,v4,hs7,kp7⟩
    obtain ⟨q1,q2⟩:=h1r _ kn kn3 kn4 true (by simp) her hkn2 hk3 hk4
    simp -implicitDefEqProofs only [RA,aa,zp,↓reduceIte,reduceCtorEq,zq,zr,zs,zt,g0,g2,g4,eY]
    rw [q1] at hs7
    exact ⟨rfl,kn4,q2,v4,hs7,((kp2.trans (kp5)).trans kp6).trans kp7⟩
   | _::_::_,hwl=>simp only [Hc] at hwl;omega
  have k8:(k=8)=False:=eq_false h8
  rw [if_neg h8] at hre
  by_cases h9:k=9
  case pos =>
   subst h9
   simp only [if_true] at hre
   simp -implicitDefEqProofs only [RA,aa,zp,↓reduceIte,reduceCtorEq,zq,zr,zs,zt,g0,g2,g4,gx,gc3,hfx,fe,hz',Ie]
   have c83:=Dn p j0 v kn c 9 w n fn l bo el ws heap nx' hs2 (by omega) hfl hpl (by omega)
   rw [hm] at c83
   refine c83.mono ?_
   rintro y h5 n5 ⟨rfl,hs5,hn5',hk5⟩
   have her:gT p kn n fn ws=re.1:=by rw [← hre]
   have hkn2:gT p kn n fn ws=0→kn=re.2:=fun _=>by rw [← hre]
   have kp5:Kp c v heap nx' v h5 n5:=Kp.wd hn5' hk5
   have gx5:=(kp5).2.1 nx _ (by omega) (by omega) hvn gx
   have hvn2:aw v≠some nx:=fun e=>by
    rcases (kp5).2.2 nx e with h|h
    ·omega
    ·exact hvn h
   have hn5:=(kp5).1
   simp -implicitDefEqProofs only [RA,aa,zp,↓reduceIte,reduceCtorEq,zq,zr,zs,zt,g0,g2,g4,gx5,Ie]
   refine (cB true _ kn v _ _ (fun h0=>by rw [hkn2 h0];omega) hs5).mono ?_
   rintro y h6 n6 ⟨rfl,kn3,hk3,v3,hs6,kp6⟩
   have gx6:=kp6.2.1 nx _ (by omega) (by omega) hvn2 gx5
   have hbl:=bD p f.result bo re.2 true
   simp -implicitDefEqProofs only [RA,aa,zp,↓reduceIte,reduceCtorEq,zq,zr,zs,zt,g0,g2,g4,gx6,Ie]
   refine (cE true _ kn3 v3 h6 n6 (fun h0=>?_) hs6).mono ?_
   ·have hr0:(gT p kn n fn ws)=0:=by
     by_cases hq:(gT p kn n fn ws)=0
     ·exact hq
     ·rw [blR,if_neg hq] at h0;exact absurd h0 hq
    rw [hk3 h0,blR,if_pos hr0,hkn2 hr0];omega
   rintro y h7 n7 ⟨rfl,kn4,hk4,v4,hs7,kp7⟩
   obtain ⟨q1,q2⟩:=h1r _ kn kn3 kn4 true (by simp) her hkn2 hk3 hk4
   simp -implicitDefEqProofs only [RA,aa,zp,↓reduceIte,reduceCtorEq,zq,zr,zs,zt,g0,g2,g4,eY]
   rw [q1] at hs7
   exact ⟨rfl,kn4,q2,v4,hs7,((kp2.trans (kp5)).trans kp6).trans kp7⟩
  have k9:(k=9)=False:=eq_false h9
  rw [if_neg h9] at hre
  have her:(0:Int)=re.1:=by rw [← hre]
  have hkn2:(0:Int)=0→kn=re.2:=fun _=>by rw [← hre]
  simp -implicitDefEqProofs only [RA,aa,zp,↓reduceIte,reduceCtorEq,zq,zr,zs,zt,g0,g2,g4,gx,gc3,hfx,fe,hz',k1,k2,k3,k4,k5,k6,k8,k9]
  have kp5:Kp c v heap nx' v heap nx':=Kp.refl c v heap (H4 _)
  have gx5:=(kp5).2.1 nx _ (by omega) (by omega) hvn gx
  have hvn2:aw v≠some nx:=fun e=>by
   rcases (kp5).2.2 nx e with h|h
   ·omega
   ·exact hvn h
  have hn5:=(kp5).1
  refine (cB true _ kn v _ _ (fun h0=>by rw [hkn2 h0];omega) hs2).mono ?_
  rintro y h6 n6 ⟨rfl,kn3,hk3,v3,hs6,kp6⟩
  have gx6:=kp6.2.1 nx _ (by omega) (by omega) hvn2 gx5
  have hbl:=bD p f.result bo re.2 true
  simp -implicitDefEqProofs only [RA,aa,zp,↓reduceIte,reduceCtorEq,zq,zr,zs,zt,g0,g2,g4,gx6,k5]
  refine (cE true _ kn3 v3 h6 n6 (fun h0=>?_) hs6).mono ?_
  ·have hr0:(0:Int)=0:=rfl
   rw [hk3 h0,blR,if_pos hr0,hkn2 hr0];omega
  rintro y h7 n7 ⟨rfl,kn4,hk4,v4,hs7,kp7⟩
  obtain ⟨q1,q2⟩:=h1r _ kn kn3 kn4 true (by simp [k5]) her hkn2 hk3 hk4
  simp -implicitDefEqProofs only [RA,aa,zp,↓reduceIte,reduceCtorEq,zq,zr,zs,zt,g0,g2,g4,eY]
  rw [q1] at hs7
  exact ⟨rfl,kn4,q2,v4,hs7,((kp2.trans (kp5)).trans kp6).trans kp7⟩
 | false =>
  by_cases h1:k=1
  case pos =>
   subst h1
   have hs1':=w1 (.inl rfl)
   obtain ⟨a,rfl⟩:∃ a,ws=[a]:=Hq.1 (by omega)
   have i0:=fh a []
   simp only [Ie,if_true,List.getD_cons_zero] at hre
   simp only [if_true] at ht
   subst ht
   simp -implicitDefEqProofs only [RA,aa,zp,↓reduceIte,reduceCtorEq,zq,zr,zs,zt,g0,g2,g4,gx,gc3,hfx,fe,hz',i0,Ie]
   have c32:=BQ p j0 v kn c n w 0 heap nx' hs2 (by omega) hal
   rw [eu] at c32
   refine c32.mono ?_
   rintro y h3 n3 ⟨rfl,v2,hs3,kp3⟩
   have gx3:=kp3.2.1 nx _ (by omega) (by omega) hvn gx
   have hn3:=kp3.1
   have hvn3:aw v2≠some nx:=fun e=>by
    rcases kp3.2.2 nx e with h|h
    ·omega
    ·exact hvn h
   simp -implicitDefEqProofs only [RA,aa,zp,↓reduceIte,reduceCtorEq,zq,zr,zs,zt,g0,g2,g4,gx3,i0,Ie]
   refine (dU p j0 v2 (kn++[(n,w)]) _ 14 (!decide (a=w)) c h3 n3 hs3).mono ?_
   rintro y h5 n5 ⟨rfl,rfl,hs5,hk5⟩
   have hd:df p kn n=0∨df p kn n=18:=by unfold df;split <;> simp
   obtain ⟨er,her0⟩:∃ er:Int,(if (!decide (a=w))=true∧(if df p kn n≠0∧(0:Int)=0 then (18:Int) else 0)=0 then (14:Int) else if df p kn n≠0∧(0:Int)=0 then 18 else 0)=er:=⟨_,rfl⟩
   rw [her0] at hs5
   have her:er=re.1:=by
    rw [← her0,← hre]
    rcases hd with h|h <;> by_cases hq:a=w <;> simp [h,hq]
   have hkn2:er=0→kn++[(n,w)]=re.2:=fun h0=>by
    rw [← her0] at h0
    rw [← hre]
    rcases hd with h|h
    ·simp [h]
    ·by_cases hq:a=w <;> simp [h,hq] at h0
   have kp5:Kp c v heap nx' v2 h5 n5:=kp3.trans (Kp.wd (H4 _) fun b o _ hbc ho=>hk5 b o hbc ho)
   have gx5:=(kp5).2.1 nx _ (by omega) (by omega) hvn gx
   have hvn2:aw v2≠some nx:=fun e=>by
    rcases (kp5).2.2 nx e with h|h
    ·omega
    ·exact hvn h
   have hn5:=(kp5).1
   simp -implicitDefEqProofs only [RA,aa,zp,↓reduceIte,reduceCtorEq,zq,zr,zs,zt,g0,g2,g4,gx5,Ie]
   refine (cB false _ (kn++[(n,w)]) v2 _ _ (fun h0=>by rw [hkn2 h0];omega) hs5).mono ?_
   rintro y h6 n6 ⟨rfl,kn3,hk3,v3,hs6,kp6⟩
   have gx6:=kp6.2.1 nx _ (by omega) (by omega) hvn2 gx5
   have hbl:=bD p f.result bo re.2 false
   simp -implicitDefEqProofs only [RA,aa,zp,↓reduceIte,reduceCtorEq,zq,zr,zs,zt,g0,g2,g4,gx6,Ie]
   refine (cE false _ kn3 v3 h6 n6 (fun h0=>?_) hs6).mono ?_
   ·have hr0:er=0:=by
     by_cases hq:er=0
     ·exact hq
     ·rw [blR,if_neg hq] at h0;exact absurd h0 hq
    rw [hk3 h0,blR,if_pos hr0,hkn2 hr0];omega
   rintro y h7 n7 ⟨rfl,kn4,hk4,v4,hs7,kp7⟩
   obtain ⟨q1,q2⟩:=h1r _ (kn++[(n,w)]) kn3 kn4 false (by simp) her hkn2 hk3 hk4
   simp -implicitDefEqProofs only [RA,aa,zp,↓reduceIte,reduceCtorEq,zq,zr,zs,zt,g0,g2,g4,eY]
   rw [q1] at hs7
   exact ⟨rfl,kn4,q2,v4,hs7,((kp2.trans (kp5)).trans kp6).trans kp7⟩
  have k1:(k=1)=False:=eq_false h1
  rw [if_neg h1] at hre
  rw [if_neg h1] at ht
  subst ht
  by_cases h2:k=2
  case pos =>
   subst h2
   have hs1':=w1 (.inr (.inl rfl))
   obtain ⟨a,rfl⟩:∃ a,ws=[a]:=Hq.1 (by omega)
   have i0:=fh a []
   simp only [Ie,if_true,List.getD_cons_zero] at hre
   simp -implicitDefEqProofs only [RA,aa,zp,↓reduceIte,reduceCtorEq,zq,zr,zs,zt,g0,g2,g4,gx,gc3,hfx,fe,hz',i0,Ie]
   refine (mg p j0 v _ kn c n heap nx' hs2.1 (.inr hs2.2.1) (by omega)).mono ?_
   rintro y h3 n3 ⟨rfl,hhe,hn3⟩
   obtain rfl:heap=h3:=hhe.symm
   simp -implicitDefEqProofs only [RA,aa,zp,↓reduceIte,reduceCtorEq,zq,zr,zs,zt,g0,g2,g4,gx,i0,Ie]
   refine (dU p j0 v kn 0 16 (decide (kw kn n=0)) c _ n3 (hs2.over hn3 fun _ _ _ h=>h)).mono ?_
   rintro y h3 n4 ⟨rfl,rfl,hs3,hk3⟩
   have gx3:=hk3 nx _ (by omega) gx
   simp -implicitDefEqProofs only [RA,aa,zp,↓reduceIte,reduceCtorEq,zq,zr,zs,zt,g0,g2,g4,gx3,i0,Ie]
   refine (mg p j0 v _ kn c n h3 n4 hs3.1 (.inr hs3.2.1) (by omega)).mono ?_
   rintro y h4 n5 ⟨rfl,rfl,hn5⟩
   simp -implicitDefEqProofs only [RA,aa,zp,↓reduceIte,reduceCtorEq,zq,zr,zs,zt,g0,g2,g4,gx3,i0,Ie]
   refine (dU p j0 v kn _ 14 (!decide (a=kw kn n)) c _ n5 (hs3.over hn5 fun _ _ _ h=>h)).mono ?_
   rintro y h5 n6 ⟨rfl,rfl,hs5,hk5⟩
   obtain ⟨er,her0⟩:∃ er:Int,(if (!decide (a=kw kn n))=true∧(if decide (kw kn n=0)=true∧(0:Int)=0 then (16:Int) else 0)=0 then (14:Int) else if decide (kw kn n=0)=true∧(0:Int)=0 then 16 else 0)=er:=⟨_,rfl⟩
   rw [her0] at hs5
   have her:er=re.1:=by
    rw [← her0,← hre]
    by_cases hq2:kw kn n=0 <;> by_cases hq:a=kw kn n <;> simp [hq2,hq]
   have hkn2:er=0→kn=re.2:=fun _=>by rw [← hre]
   have kp5:Kp c v heap nx' v h5 n6:=Kp.wd (by omega) fun b o _ hbc ho=>hk5 b o hbc (hk3 b o hbc ho)
   have gx5:=(kp5).2.1 nx _ (by omega) (by omega) hvn gx
   have hvn2:aw v≠some nx:=fun e=>by
    rcases (kp5).2.2 nx e with h|h
    ·omega
    ·exact hvn h
   have hn5:=(kp5).1
   simp -implicitDefEqProofs only [RA,aa,zp,↓reduceIte,reduceCtorEq,zq,zr,zs,zt,g0,g2,g4,gx5,Ie]
   refine (cB false _ kn v _ _ (fun h0=>by rw [hkn2 h0];omega) hs5).mono ?_
   rintro y h6 n6 ⟨rfl,kn3,hk3,v3,hs6,kp6⟩
   have gx6:=kp6.2.1 nx _ (by omega) (by omega) hvn2 gx5
   have hbl:=bD p f.result bo re.2 false
   simp -implicitDefEqProofs only [RA,aa,zp,↓reduceIte,reduceCtorEq,zq,zr,zs,zt,g0,g2,g4,gx6,Ie]
   refine (cE false _ kn3 v3 h6 n6 (fun h0=>?_) hs6).mono ?_
   ·have hr0:er=0:=by
     by_cases hq:er=0
     ·exact hq
     ·rw [blR,if_neg hq] at h0;exact absurd h0 hq
    rw [hk3 h0,blR,if_pos hr0,hkn2 hr0];omega
   rintro y h7 n7 ⟨rfl,kn4,hk4,v4,hs7,kp7⟩
   obtain ⟨q1,q2⟩:=h1r _ kn kn3 kn4 false (by simp) her hkn2 hk3 hk4
   simp -implicitDefEqProofs only [RA,aa,zp,↓reduceIte,reduceCtorEq,zq,zr,zs,zt,g0,g2,g4,eY]
   rw [q1] at hs7
   exact ⟨rfl,kn4,q2,v4,hs7,((kp2.trans (kp5)).trans kp6).trans kp7⟩
  have k2:(k=2)=False:=eq_false h2
  rw [if_neg h2] at hre
  by_cases h3:k=3
  case pos =>
   subst h3
   have hs1':=w2 rfl
   obtain ⟨a,d,rfl⟩:∃ a d,ws=[a,d]:=wL (by omega)
   have i0:=fh a [d]
   have i1:=wV a d []
   simp only [Ie,if_true,List.getD_cons_zero,List.getD_cons_succ] at hre
   simp -implicitDefEqProofs only [RA,aa,zp,↓reduceIte,reduceCtorEq,zq,zr,zs,zt,g0,g2,g4,gx,gc3,hfx,fe,hz',i0,Ie]
   refine (w53 p n hal).use fun n3 hn3=>?_
   simp -implicitDefEqProofs only [RA,aa,zp,↓reduceIte,reduceCtorEq,zq,zr,zs,zt,g0,g2,g4,gx,gc3,Ie]
   refine (dU p j0 v kn 0 16 (decide (arI p n<0)) c heap n3 (hs2.over hn3 fun _ _ _ h=>h)).mono ?_
   rintro y h3 n4 ⟨rfl,rfl,hs3,hk3⟩
   have gx3:=hk3 nx _ (by omega) gx
   have gc4:=hs3.1
   simp only [scp] at gc4
   have hkn2:∀ er:Int,er=0→kn=re.2:=fun _ _=>by rw [← hre]
   rcases ah (arI p n<0) with ⟨d1',d1⟩|⟨d1',d1⟩
   case inl =>
    have d2:(0≤arI p n)=False:=eq_false (by omega)
    simp -implicitDefEqProofs only [RA,aa,zp,↓reduceIte,reduceCtorEq,zq,zr,zs,zt,g0,g2,g4,gx3,gc4,d1,d2,Ie]
    refine (dU p j0 v kn _ 14 (false) c _ n4 hs3).mono ?_
    rintro y h5 n5 ⟨rfl,rfl,hs5,hk5⟩
    obtain ⟨er,her0⟩:∃ er:Int,(if (false)=true∧(if decide (arI p n<0)=true∧(0:Int)=0 then (16:Int) else 0)=0 then (14:Int) else if decide (arI p n<0)=true∧(0:Int)=0 then 16 else 0)=er:=⟨_,rfl⟩
    rw [her0] at hs5
    have her:er=re.1:=by
     rw [← her0,← hre]
     simp [d1']
    have kp5:Kp c v heap nx' v h5 n5:=Kp.wd (by omega) fun b o _ hbc ho=>hk5 b o hbc (hk3 b o hbc ho)
    have gx5:=(kp5).2.1 nx _ (by omega) (by omega) hvn gx
    have hvn2:aw v≠some nx:=fun e=>by
     rcases (kp5).2.2 nx e with h|h
     ·omega
     ·exact hvn h
    have hn5:=(kp5).1
    simp -implicitDefEqProofs only [RA,aa,zp,↓reduceIte,reduceCtorEq,zq,zr,zs,zt,g0,g2,g4,gx5,Ie]
    refine (cB false _ kn v _ _ (fun h0=>by rw [(hkn2 er) h0];omega) hs5).mono ?_
    rintro y h6 n6 ⟨rfl,kn3,hk3,v3,hs6,kp6⟩
    have gx6:=kp6.2.1 nx _ (by omega) (by omega) hvn2 gx5
    have hbl:=bD p f.result bo re.2 false
    simp -implicitDefEqProofs only [RA,aa,zp,↓reduceIte,reduceCtorEq,zq,zr,zs,zt,g0,g2,g4,gx6,Ie]
    refine (cE false _ kn3 v3 h6 n6 (fun h0=>?_) hs6).mono ?_
    ·have hr0:er=0:=by
      by_cases hq:er=0
      ·exact hq
      ·rw [blR,if_neg hq] at h0;exact absurd h0 hq
     rw [hk3 h0,blR,if_pos hr0,(hkn2 er) hr0];omega
    rintro y h7 n7 ⟨rfl,kn4,hk4,v4,hs7,kp7⟩
    obtain ⟨q1,q2⟩:=h1r _ kn kn3 kn4 false (by simp) her (hkn2 er) hk3 hk4
    simp -implicitDefEqProofs only [RA,aa,zp,↓reduceIte,reduceCtorEq,zq,zr,zs,zt,g0,g2,g4,eY]
    rw [q1] at hs7
    exact ⟨rfl,kn4,q2,v4,hs7,((kp2.trans (kp5)).trans kp6).trans kp7⟩
   have d2:(0≤arI p n)=True:=eq_true (by omega)
   rcases ah (a=32) with ⟨d3',d3⟩|⟨d3',d3⟩
   case inr =>
    simp -implicitDefEqProofs only [RA,aa,zp,↓reduceIte,reduceCtorEq,zq,zr,zs,zt,g0,g2,g4,gx3,gc4,d1,d2,d3,i0,Ie]
    refine (dU p j0 v kn _ 14 (true) c _ n4 hs3).mono ?_
    rintro y h5 n5 ⟨rfl,rfl,hs5,hk5⟩
    obtain ⟨er,her0⟩:∃ er:Int,(if (true)=true∧(if decide (arI p n<0)=true∧(0:Int)=0 then (16:Int) else 0)=0 then (14:Int) else if decide (arI p n<0)=true∧(0:Int)=0 then 16 else 0)=er:=⟨_,rfl⟩
    rw [her0] at hs5
    have her:er=re.1:=by
     rw [← her0,← hre]
     simp [d1',d3']
    have kp5:Kp c v heap nx' v h5 n5:=Kp.wd (by omega) fun b o _ hbc ho=>hk5 b o hbc (hk3 b o hbc ho)
    have gx5:=(kp5).2.1 nx _ (by omega) (by omega) hvn gx
    have hvn2:aw v≠some nx:=fun e=>by
     rcases (kp5).2.2 nx e with h|h
     ·omega
     ·exact hvn h
    have hn5:=(kp5).1
    simp -implicitDefEqProofs only [RA,aa,zp,↓reduceIte,reduceCtorEq,zq,zr,zs,zt,g0,g2,g4,gx5,Ie]
    refine (cB false _ kn v _ _ (fun h0=>by rw [(hkn2 er) h0];omega) hs5).mono ?_
    rintro y h6 n6 ⟨rfl,kn3,hk3,v3,hs6,kp6⟩
    have gx6:=kp6.2.1 nx _ (by omega) (by omega) hvn2 gx5
    have hbl:=bD p f.result bo re.2 false
    simp -implicitDefEqProofs only [RA,aa,zp,↓reduceIte,reduceCtorEq,zq,zr,zs,zt,g0,g2,g4,gx6,Ie]
    refine (cE false _ kn3 v3 h6 n6 (fun h0=>?_) hs6).mono ?_
    ·have hr0:er=0:=by
      by_cases hq:er=0
      ·exact hq
      ·rw [blR,if_neg hq] at h0;exact absurd h0 hq
     rw [hk3 h0,blR,if_pos hr0,(hkn2 er) hr0];omega
    rintro y h7 n7 ⟨rfl,kn4,hk4,v4,hs7,kp7⟩
    obtain ⟨q1,q2⟩:=h1r _ kn kn3 kn4 false (by simp) her (hkn2 er) hk3 hk4
    simp -implicitDefEqProofs only [RA,aa,zp,↓reduceIte,reduceCtorEq,zq,zr,zs,zt,g0,g2,g4,eY]
    rw [q1] at hs7
    exact ⟨rfl,kn4,q2,v4,hs7,((kp2.trans (kp5)).trans kp6).trans kp7⟩
   obtain ⟨j,ar,q1,q2,q3⟩:=iw d1'
   have ix:=cO q2
   have ae:=dB ar
   have mxj:(if (0:Int) > (j:Int) then (0:Int) else (j:Int))=(j:Int):=if_neg (by omega)
   rw [q1] at d2
   simp -implicitDefEqProofs only [RA,aa,zp,↓reduceIte,reduceCtorEq,zq,zr,zs,zt,g0,g2,g4,gx3,gc4,d2,d3,i0,i1,q1,mxj,ix,ae,Ie]
   refine (dU p j0 v kn _ 14 (!decide (d=ar.width)) c _ n4 hs3).mono ?_
   rintro y h5 n5 ⟨rfl,rfl,hs5,hk5⟩
   obtain ⟨er,her0⟩:∃ er:Int,(if (!decide (d=ar.width))=true∧(if decide (arI p n<0)=true∧(0:Int)=0 then (16:Int) else 0)=0 then (14:Int) else if decide (arI p n<0)=true∧(0:Int)=0 then 16 else 0)=er:=⟨_,rfl⟩
   rw [her0] at hs5
   have her:er=re.1:=by
    rw [← her0,← hre]
    by_cases hq:d=ar.width <;> simp [d1',d3',q3,hq]
   have kp5:Kp c v heap nx' v h5 n5:=Kp.wd (by omega) fun b o _ hbc ho=>hk5 b o hbc (hk3 b o hbc ho)
   have gx5:=(kp5).2.1 nx _ (by omega) (by omega) hvn gx
   have hvn2:aw v≠some nx:=fun e=>by
    rcases (kp5).2.2 nx e with h|h
    ·omega
    ·exact hvn h
   have hn5:=(kp5).1
   simp -implicitDefEqProofs only [RA,aa,zp,↓reduceIte,reduceCtorEq,zq,zr,zs,zt,g0,g2,g4,gx5,Ie]
   refine (cB false _ kn v _ _ (fun h0=>by rw [(hkn2 er) h0];omega) hs5).mono ?_
   rintro y h6 n6 ⟨rfl,kn3,hk3,v3,hs6,kp6⟩
   have gx6:=kp6.2.1 nx _ (by omega) (by omega) hvn2 gx5
   have hbl:=bD p f.result bo re.2 false
   simp -implicitDefEqProofs only [RA,aa,zp,↓reduceIte,reduceCtorEq,zq,zr,zs,zt,g0,g2,g4,gx6,Ie]
   refine (cE false _ kn3 v3 h6 n6 (fun h0=>?_) hs6).mono ?_
   ·have hr0:er=0:=by
     by_cases hq:er=0
     ·exact hq
     ·rw [blR,if_neg hq] at h0;exact absurd h0 hq
    rw [hk3 h0,blR,if_pos hr0,(hkn2 er) hr0];omega
   rintro y h7 n7 ⟨rfl,kn4,hk4,v4,hs7,kp7⟩
   obtain ⟨q1,q2⟩:=h1r _ kn kn3 kn4 false (by simp) her (hkn2 er) hk3 hk4
   simp -implicitDefEqProofs only [RA,aa,zp,↓reduceIte,reduceCtorEq,zq,zr,zs,zt,g0,g2,g4,eY]
   rw [q1] at hs7
   exact ⟨rfl,kn4,q2,v4,hs7,((kp2.trans (kp5)).trans kp6).trans kp7⟩
  have k3:(k=3)=False:=eq_false h3
  rw [if_neg h3] at hre
  by_cases h4:k=4
  case pos =>
   subst h4
   have hs1':=w1 (.inr (.inr (.inl rfl)))
   obtain ⟨a,rfl⟩:∃ a,ws=[a]:=Hq.1 (by omega)
   have i0:=fh a []
   simp only [Ie,if_true,List.getD_cons_zero,true_or] at hre
   simp -implicitDefEqProofs only [RA,aa,zp,↓reduceIte,reduceCtorEq,zq,zr,zs,zt,g0,g2,g4,gx,gc3,hfx,fe,hz',i0,Ie]
   refine (dU p j0 v kn 0 14 (!decide (a=1)) c heap nx' hs2).mono ?_
   rintro y h5 n5 ⟨rfl,hne,hs5,hk5⟩
   obtain rfl:nx'=n5:=hne.symm
   have her:(if (!decide (a=1))=true∧(0:Int)=0 then (14:Int) else 0)=re.1:=by rw [← hre];by_cases hq:a=1 <;> simp [hq]
   have hkn2:(if (!decide (a=1))=true∧(0:Int)=0 then (14:Int) else 0)=0→kn=re.2:=fun _=>by rw [← hre]
   have kp5:Kp c v heap nx' v h5 nx':=Kp.wd (H4 _) fun b o _ hbc ho=>hk5 b o hbc ho
   have gx5:=(kp5).2.1 nx _ (by omega) (by omega) hvn gx
   have hvn2:aw v≠some nx:=fun e=>by
    rcases (kp5).2.2 nx e with h|h
    ·omega
    ·exact hvn h
   have hn5:=(kp5).1
   simp -implicitDefEqProofs only [RA,aa,zp,↓reduceIte,reduceCtorEq,zq,zr,zs,zt,g0,g2,g4,gx5,Ie]
   refine (cB false _ kn v _ _ (fun h0=>by rw [hkn2 h0];omega) hs5).mono ?_
   rintro y h6 n6 ⟨rfl,kn3,hk3,v3,hs6,kp6⟩
   have gx6:=kp6.2.1 nx _ (by omega) (by omega) hvn2 gx5
   have hbl:=bD p f.result bo re.2 false
   simp -implicitDefEqProofs only [RA,aa,zp,↓reduceIte,reduceCtorEq,zq,zr,zs,zt,g0,g2,g4,gx6,Ie]
   refine (cE false _ kn3 v3 h6 n6 (fun h0=>?_) hs6).mono ?_
   ·have hr0:(if (!decide (a=1))=true∧(0:Int)=0 then (14:Int) else 0)=0:=by
     by_cases hq:(if (!decide (a=1))=true∧(0:Int)=0 then (14:Int) else 0)=0
     ·exact hq
     ·rw [blR,if_neg hq] at h0;exact absurd h0 hq
    rw [hk3 h0,blR,if_pos hr0,hkn2 hr0];omega
   rintro y h7 n7 ⟨rfl,kn4,hk4,v4,hs7,kp7⟩
   obtain ⟨q1,q2⟩:=h1r _ kn kn3 kn4 false (by simp) her hkn2 hk3 hk4
   simp -implicitDefEqProofs only [RA,aa,zp,↓reduceIte,reduceCtorEq,zq,zr,zs,zt,g0,g2,g4,eY]
   rw [q1] at hs7
   exact ⟨rfl,kn4,q2,v4,hs7,((kp2.trans (kp5)).trans kp6).trans kp7⟩
  have k4:(k=4)=False:=eq_false h4
  by_cases h5:k=5
  case pos =>
   subst h5
   have hs1':=w1 (.inr (.inr (.inr rfl)))
   obtain ⟨a,rfl⟩:∃ a,ws=[a]:=Hq.1 (by omega)
   have i0:=fh a []
   simp only [Ie,if_true,List.getD_cons_zero,or_true] at hre
   simp -implicitDefEqProofs only [RA,aa,zp,↓reduceIte,reduceCtorEq,zq,zr,zs,zt,g0,g2,g4,gx,gc3,hfx,fe,hz',i0,Ie]
   refine (dU p j0 v kn 0 14 (!decide (a=1)) c heap nx' hs2).mono ?_
   rintro y h5 n5 ⟨rfl,hne,hs5,hk5⟩
   obtain rfl:nx'=n5:=hne.symm
   have her:(if (!decide (a=1))=true∧(0:Int)=0 then (14:Int) else 0)=re.1:=by rw [← hre];by_cases hq:a=1 <;> simp [hq]
   have hkn2:(if (!decide (a=1))=true∧(0:Int)=0 then (14:Int) else 0)=0→kn=re.2:=fun _=>by rw [← hre]
   have kp5:Kp c v heap nx' v h5 nx':=Kp.wd (H4 _) fun b o _ hbc ho=>hk5 b o hbc ho
   have gx5:=(kp5).2.1 nx _ (by omega) (by omega) hvn gx
   have hvn2:aw v≠some nx:=fun e=>by
    rcases (kp5).2.2 nx e with h|h
    ·omega
    ·exact hvn h
   have hn5:=(kp5).1
   simp -implicitDefEqProofs only [RA,aa,zp,↓reduceIte,reduceCtorEq,zq,zr,zs,zt,g0,g2,g4,gx5,Ie]
   refine (cB true _ kn v _ _ (fun h0=>by rw [hkn2 h0];omega) hs5).mono ?_
   rintro y h6 n6 ⟨rfl,kn3,hk3,v3,hs6,kp6⟩
   have gx6:=kp6.2.1 nx _ (by omega) (by omega) hvn2 gx5
   have hbl:=bD p f.result bo re.2 true
   simp -implicitDefEqProofs only [RA,aa,zp,↓reduceIte,reduceCtorEq,zq,zr,zs,zt,g0,g2,g4,gx6,Ie]
   refine (cE false _ kn3 v3 h6 n6 (fun h0=>?_) hs6).mono ?_
   ·have hr0:(if (!decide (a=1))=true∧(0:Int)=0 then (14:Int) else 0)=0:=by
     by_cases hq:(if (!decide (a=1))=true∧(0:Int)=0 then (14:Int) else 0)=0
     ·exact hq
     ·rw [blR,if_neg hq] at h0;exact absurd h0 hq
    rw [hk3 h0,blR,if_pos hr0,hkn2 hr0];omega
   rintro y h7 n7 ⟨rfl,kn4,hk4,v4,hs7,kp7⟩
   obtain ⟨q1,q2⟩:=h1r _ kn kn3 kn4 true (by simp) her hkn2 hk3 hk4
   simp -implicitDefEqProofs only [RA,aa,zp,↓reduceIte,reduceCtorEq,zq,zr,zs,zt,g0,g2,g4,eY]
   rw [q1] at hs7
   exact ⟨rfl,kn4,q2,v4,hs7,((kp2.trans (kp5)).trans kp6).trans kp7⟩
  have k5:(k=5)=False:=eq_false h5
  rw [if_neg (by omega)] at hre
  by_cases h6:k=6
  case pos =>
   subst h6
   simp only [Ie,if_true] at hre
   simp -implicitDefEqProofs only [RA,aa,zp,↓reduceIte,reduceCtorEq,zq,zr,zs,zt,g0,g2,g4,gx,gc3,hfx,fe,hz',Ie,unA]
   refine (dU p j0 v kn 0 12 (true) c heap nx' hs2).mono ?_
   rintro y h5 n5 ⟨rfl,hne,hs5,hk5⟩
   obtain rfl:nx'=n5:=hne.symm
   have her:(if (true)=true∧(0:Int)=0 then (12:Int) else 0)=re.1:=by rw [← hre];simp
   have hkn2:(if (true)=true∧(0:Int)=0 then (12:Int) else 0)=0→kn=re.2:=fun _=>by rw [← hre]
   have kp5:Kp c v heap nx' v h5 nx':=Kp.wd (H4 _) fun b o _ hbc ho=>hk5 b o hbc ho
   have gx5:=(kp5).2.1 nx _ (by omega) (by omega) hvn gx
   have hvn2:aw v≠some nx:=fun e=>by
    rcases (kp5).2.2 nx e with h|h
    ·omega
    ·exact hvn h
   have hn5:=(kp5).1
   simp -implicitDefEqProofs only [RA,aa,zp,↓reduceIte,reduceCtorEq,zq,zr,zs,zt,g0,g2,g4,gx5,Ie]
   refine (cB false _ kn v _ _ (fun h0=>by rw [hkn2 h0];omega) hs5).mono ?_
   rintro y h6 n6 ⟨rfl,kn3,hk3,v3,hs6,kp6⟩
   have gx6:=kp6.2.1 nx _ (by omega) (by omega) hvn2 gx5
   have hbl:=bD p f.result bo re.2 false
   simp -implicitDefEqProofs only [RA,aa,zp,↓reduceIte,reduceCtorEq,zq,zr,zs,zt,g0,g2,g4,gx6,Ie]
   refine (cE false _ kn3 v3 h6 n6 (fun h0=>?_) hs6).mono ?_
   ·have hr0:(if (true)=true∧(0:Int)=0 then (12:Int) else 0)=0:=by
     by_cases hq:(if (true)=true∧(0:Int)=0 then (12:Int) else 0)=0
     ·exact hq
     ·rw [blR,if_neg hq] at h0;exact absurd h0 hq
    rw [hk3 h0,blR,if_pos hr0,hkn2 hr0];omega
   rintro y h7 n7 ⟨rfl,kn4,hk4,v4,hs7,kp7⟩
   obtain ⟨q1,q2⟩:=h1r _ kn kn3 kn4 false (by simp) her hkn2 hk3 hk4
   simp -implicitDefEqProofs only [RA,aa,zp,↓reduceIte,reduceCtorEq,zq,zr,zs,zt,g0,g2,g4,eY]
   rw [q1] at hs7
   exact ⟨rfl,kn4,q2,v4,hs7,((kp2.trans (kp5)).trans kp6).trans kp7⟩
  have k6:(k=6)=False:=eq_false h6
  rw [if_neg h6] at hre
  by_cases h8:k=8
  case pos =>
   subst h8
   have hs1':=w3 rfl
   simp only [if_true] at hre
   match ws,hwl with
   | [],_ =>
    have lw:dt (cP [])=some 0:=rfl
    have z0:(((0:Nat):Int)=0)=True:=eq_true rfl
    have z1:(((0:Nat):Int)=1)=False:=eq_false (by omega)
    rcases ah (f.result=0) with ⟨d1',d1⟩|⟨d1',d1⟩
    case inl =>
     simp -implicitDefEqProofs only [RA,aa,zp,↓reduceIte,reduceCtorEq,zq,zr,zs,zt,g0,g2,g4,gx,gc3,hfx,fe,hz',lw,z0,z1,d1,Ie]
     refine (dU p j0 v kn 0 14 (false) c heap nx' hs2).mono ?_
     rintro y h5 n5 ⟨rfl,hne,hs5,hk5⟩
     obtain rfl:nx'=n5:=hne.symm
     have her:(if (false)=true∧(0:Int)=0 then (14:Int) else 0)=re.1:=by rw [← hre];simp [d1']
     have hkn2:(if (false)=true∧(0:Int)=0 then (14:Int) else 0)=0→kn=re.2:=fun _=>by rw [← hre]
     have kp5:Kp c v heap nx' v h5 nx':=Kp.wd (H4 _) fun b o _ hbc ho=>hk5 b o hbc ho
     have gx5:=(kp5).2.1 nx _ (by omega) (by omega) hvn gx
     have hvn2:aw v≠some nx:=fun e=>by
      rcases (kp5).2.2 nx e with h|h
      ·omega
      ·exact hvn h
     have hn5:=(kp5).1
     simp -implicitDefEqProofs only [RA,aa,zp,↓reduceIte,reduceCtorEq,zq,zr,zs,zt,g0,g2,g4,gx5,Ie]
     refine (cB false _ kn v _ _ (fun h0=>by rw [hkn2 h0];omega) hs5).mono ?_
     rintro y h6 n6 ⟨rfl,kn3,hk3,v3,hs6,kp6⟩
     have gx6:=kp6.2.1 nx _ (by omega) (by omega) hvn2 gx5
     have hbl:=bD p f.result bo re.2 false
     simp -implicitDefEqProofs only [RA,aa,zp,↓reduceIte,reduceCtorEq,zq,zr,zs,zt,g0,g2,g4,gx6,Ie]
     refine (cE false _ kn3 v3 h6 n6 (fun h0=>?_) hs6).mono ?_
     ·have hr0:(if (false)=true∧(0:Int)=0 then (14:Int) else 0)=0:=by
       by_cases hq:(if (false)=true∧(0:Int)=0 then (14:Int) else 0)=0
       ·exact hq
       ·rw [blR,if_neg hq] at h0;exact absurd h0 hq
      rw [hk3 h0,blR,if_pos hr0,hkn2 hr0];omega
     rintro y h7 n7 ⟨rfl,kn4,hk4,v4,hs7,kp7⟩
     obtain ⟨q1,q2⟩:=h1r _ kn kn3 kn4 false (by simp) her hkn2 hk3 hk4
     simp -implicitDefEqProofs only [RA,aa,zp,↓reduceIte,reduceCtorEq,zq,zr,zs,zt,g0,g2,g4,eY]
     rw [q1] at hs7
     exact ⟨rfl,kn4,q2,v4,hs7,((kp2.trans (kp5)).trans kp6).trans kp7⟩
    simp -implicitDefEqProofs only [RA,aa,zp,↓reduceIte,reduceCtorEq,zq,zr,zs,zt,g0,g2,g4,gx,gc3,hfx,fe,hz',lw,z0,z1,d1,Ie]
    refine (dU p j0 v kn 0 14 (true) c heap nx' hs2).mono ?_
    rintro y h5 n5 ⟨rfl,hne,hs5,hk5⟩
    obtain rfl:nx'=n5:=hne.symm
    have her:(if (true)=true∧(0:Int)=0 then (14:Int) else 0)=re.1:=by rw [← hre];simp [d1']
    have hkn2:(if (true)=true∧(0:Int)=0 then (14:Int) else 0)=0→kn=re.2:=fun _=>by rw [← hre]
    have kp5:Kp c v heap nx' v h5 nx':=Kp.wd (H4 _) fun b o _ hbc ho=>hk5 b o hbc ho
    have gx5:=(kp5).2.1 nx _ (by omega) (by omega) hvn gx
    have hvn2:aw v≠some nx:=fun e=>by
     rcases (kp5).2.2 nx e with h|h
     ·omega
     ·exact hvn h
    have hn5:=(kp5).1
    simp -implicitDefEqProofs only [RA,aa,zp,↓reduceIte,reduceCtorEq,zq,zr,zs,zt,g0,g2,g4,gx5,Ie]
    refine (cB false _ kn v _ _ (fun h0=>by rw [hkn2 h0];omega) hs5).mono ?_
    rintro y h6 n6 ⟨rfl,kn3,hk3,v3,hs6,kp6⟩
    have gx6:=kp6.2.1 nx _ (by omega) (by omega) hvn2 gx5
    have hbl:=bD p f.result bo re.2 false
    simp -implicitDefEqProofs only [RA,aa,zp,↓reduceIte,reduceCtorEq,zq,zr,zs,zt,g0,g2,g4,gx6,Ie]
    refine (cE false _ kn3 v3 h6 n6 (fun h0=>?_) hs6).mono ?_
    ·have hr0:(if (true)=true∧(0:Int)=0 then (14:Int) else 0)=0:=by
      by_cases hq:(if (true)=true∧(0:Int)=0 then (14:Int) else 0)=0
      ·exact hq
      ·rw [blR,if_neg hq] at h0;exact absurd h0 hq
     rw [hk3 h0,blR,if_pos hr0,hkn2 hr0];omega
    rintro y h7 n7 ⟨rfl,kn4,hk4,v4,hs7,kp7⟩
    obtain ⟨q1,q2⟩:=h1r _ kn kn3 kn4 false (by simp) her hkn2 hk3 hk4
    simp -implicitDefEqProofs only [RA,aa,zp,↓reduceIte,reduceCtorEq,zq,zr,zs,zt,g0,g2,g4,eY]
    rw [q1] at hs7
    exact ⟨rfl,kn4,q2,v4,hs7,((kp2.trans (kp5)).trans kp6).trans kp7⟩
   | [a],_ =>
    have lw:dt (cP [a])=some 1:=rfl
    have z0:(((1:Nat):Int)=0)=False:=eq_false (by omega)
    have z1:(((1:Nat):Int)=1)=True:=eq_true rfl
    have i0:=fh a []
    simp -implicitDefEqProofs only [RA,aa,zp,↓reduceIte,reduceCtorEq,zq,zr,zs,zt,g0,g2,g4,gx,gc3,hfx,fe,hz',lw,z0,z1,i0,Ie]
    refine (dU p j0 v kn 0 14 (!decide (a=f.result)) c heap nx' hs2).mono ?_
    rintro y h5 n5 ⟨rfl,hne,hs5,hk5⟩
    obtain rfl:nx'=n5:=hne.symm
    have her:(if (!decide (a=f.result))=true∧(0:Int)=0 then (14:Int) else 0)=re.1:=by rw [← hre];by_cases hq:a=f.result <;> simp [hq]
    have hkn2:(if (!decide (a=f.result))=true∧(0:Int)=0 then (14:Int) else 0)=0→kn=re.2:=fun _=>by rw [← hre]
    have kp5:Kp c v heap nx' v h5 nx':=Kp.wd (H4 _) fun b o _ hbc ho=>hk5 b o hbc ho
    have gx5:=(kp5).2.1 nx _ (by omega) (by omega) hvn gx
    have hvn2:aw v≠some nx:=fun e=>by
     rcases (kp5).2.2 nx e with h|h
     ·omega
     ·exact hvn h
    have hn5:=(kp5).1
    simp -implicitDefEqProofs only [RA,aa,zp,↓reduceIte,reduceCtorEq,zq,zr,zs,zt,g0,g2,g4,gx5,Ie]
    refine (cB false _ kn v _ _ (fun h0=>by rw [hkn2 h0];omega) hs5).mono ?_
    rintro y h6 n6 ⟨rfl,kn3,hk3,v3,hs6,kp6⟩
    have gx6:=kp6.2.1 nx _ (by omega) (by omega) hvn2 gx5
    have hbl:=bD p f.result bo re.2 false
    simp -implicitDefEqProofs only [RA,aa,zp,↓reduceIte,reduceCtorEq,zq,zr,zs,zt,g0,g2,g4,gx6,Ie]
    refine (cE false _ kn3 v3 h6 n6 (fun h0=>?_) hs6).mono ?_
    ·have hr0:(if (!decide (a=f.result))=true∧(0:Int)=0 then (14:Int) else 0)=0:=by
      by_cases hq:(if (!decide (a=f.result))=true∧(0:Int)=0 then (14:Int) else 0)=0
      ·exact hq
      ·rw [blR,if_neg hq] at h0;exact absurd h0 hq
     rw [hk3 h0,blR,if_pos hr0,hkn2 hr0];omega
    rintro y h7 n7 ⟨rfl,kn4,hk4,v4,hs7,kp7⟩
    obtain ⟨q1,q2⟩:=h1r _ kn kn3 kn4 false (by simp) her hkn2 hk3 hk4
    simp -implicitDefEqProofs only [RA,aa,zp,↓reduceIte,reduceCtorEq,zq,zr,zs,zt,g0,g2,g4,eY]
    rw [q1] at hs7
    exact ⟨rfl,kn4,q2,v4,hs7,((kp2.trans (kp5)).trans kp6).trans kp7⟩
   | _::_::_,hwl=>simp only [Hc] at hwl;omega
  have k8:(k=8)=False:=eq_false h8
  rw [if_neg h8] at hre
  by_cases h9:k=9
  case pos =>
   subst h9
   simp only [if_true] at hre
   simp -implicitDefEqProofs only [RA,aa,zp,↓reduceIte,reduceCtorEq,zq,zr,zs,zt,g0,g2,g4,gx,gc3,hfx,fe,hz',Ie]
   have c83:=Dn p j0 v kn c 9 w n fn l bo el ws heap nx' hs2 (by omega) hfl hpl (by omega)
   rw [hm] at c83
   refine c83.mono ?_
   rintro y h5 n5 ⟨rfl,hs5,hn5',hk5⟩
   have her:gT p kn n fn ws=re.1:=by rw [← hre]
   have hkn2:gT p kn n fn ws=0→kn=re.2:=fun _=>by rw [← hre]
   have kp5:Kp c v heap nx' v h5 n5:=Kp.wd hn5' hk5
   have gx5:=(kp5).2.1 nx _ (by omega) (by omega) hvn gx
   have hvn2:aw v≠some nx:=fun e=>by
    rcases (kp5).2.2 nx e with h|h
    ·omega
    ·exact hvn h
   have hn5:=(kp5).1
   simp -implicitDefEqProofs only [RA,aa,zp,↓reduceIte,reduceCtorEq,zq,zr,zs,zt,g0,g2,g4,gx5,Ie]
   refine (cB false _ kn v _ _ (fun h0=>by rw [hkn2 h0];omega) hs5).mono ?_
   rintro y h6 n6 ⟨rfl,kn3,hk3,v3,hs6,kp6⟩
   have gx6:=kp6.2.1 nx _ (by omega) (by omega) hvn2 gx5
   have hbl:=bD p f.result bo re.2 false
   simp -implicitDefEqProofs only [RA,aa,zp,↓reduceIte,reduceCtorEq,zq,zr,zs,zt,g0,g2,g4,gx6,Ie]
   refine (cE false _ kn3 v3 h6 n6 (fun h0=>?_) hs6).mono ?_
   ·have hr0:(gT p kn n fn ws)=0:=by
     by_cases hq:(gT p kn n fn ws)=0
     ·exact hq
     ·rw [blR,if_neg hq] at h0;exact absurd h0 hq
    rw [hk3 h0,blR,if_pos hr0,hkn2 hr0];omega
   rintro y h7 n7 ⟨rfl,kn4,hk4,v4,hs7,kp7⟩
   obtain ⟨q1,q2⟩:=h1r _ kn kn3 kn4 false (by simp) her hkn2 hk3 hk4
   simp -implicitDefEqProofs only [RA,aa,zp,↓reduceIte,reduceCtorEq,zq,zr,zs,zt,g0,g2,g4,eY]
   rw [q1] at hs7
   exact ⟨rfl,kn4,q2,v4,hs7,((kp2.trans (kp5)).trans kp6).trans kp7⟩
  have k9:(k=9)=False:=eq_false h9
  rw [if_neg h9] at hre
  have her:(0:Int)=re.1:=by rw [← hre]
  have hkn2:(0:Int)=0→kn=re.2:=fun _=>by rw [← hre]
  simp -implicitDefEqProofs only [RA,aa,zp,↓reduceIte,reduceCtorEq,zq,zr,zs,zt,g0,g2,g4,gx,gc3,hfx,fe,hz',k1,k2,k3,k4,k5,k6,k8,k9]
  have kp5:Kp c v heap nx' v heap nx':=Kp.refl c v heap (H4 _)
  have gx5:=(kp5).2.1 nx _ (by omega) (by omega) hvn gx
  have hvn2:aw v≠some nx:=fun e=>by
   rcases (kp5).2.2 nx e with h|h
   ·omega
   ·exact hvn h
  have hn5:=(kp5).1
  refine (cB false _ kn v _ _ (fun h0=>by rw [hkn2 h0];omega) hs2).mono ?_
  rintro y h6 n6 ⟨rfl,kn3,hk3,v3,hs6,kp6⟩
  have gx6:=kp6.2.1 nx _ (by omega) (by omega) hvn2 gx5
  have hbl:=bD p f.result bo re.2 false
  simp -implicitDefEqProofs only [RA,aa,zp,↓reduceIte,reduceCtorEq,zq,zr,zs,zt,g0,g2,g4,gx6,k5]
  refine (cE false _ kn3 v3 h6 n6 (fun h0=>?_) hs6).mono ?_
  ·have hr0:(0:Int)=0:=rfl
   rw [hk3 h0,blR,if_pos hr0,hkn2 hr0];omega
  rintro y h7 n7 ⟨rfl,kn4,hk4,v4,hs7,kp7⟩
  obtain ⟨q1,q2⟩:=h1r _ kn kn3 kn4 false (by simp [k5]) her hkn2 hk3 hk4
  simp -implicitDefEqProofs only [RA,aa,zp,↓reduceIte,reduceCtorEq,zq,zr,zs,zt,g0,g2,g4,eY]
  rw [q1] at hs7
  exact ⟨rfl,kn4,q2,v4,hs7,((kp2.trans (kp5)).trans kp6).trans kp7⟩
theorem tf (p:Pr) (j0:Nat) (f:Fu) (hfi:p.funcs[j0]?=some f) (c:Nat) (hal:p.arrays.length≤4611686018427387904) (hfl:p.funcs.length≤4611686018427387904) (hpl:∀ g∈p.funcs,g.params.length≤1000000) (l:List Sm) (hsz:bS l≤5000) (hwf:∀ x∈l,wfS x=true)
  (H:∀ x∈l,C33 p j0 f.result c x.body∧C33 p j0 f.result c x.els):C33 p j0 f.result c l:=by
 intro loop e kn v h nx hkn hs
 refine AC.go aj En (by simp) ?_
 have lv:=aO l
 have hlen:=bW l
 have hst:=cF l
 generalize hR:blR p f.result l e kn loop=R
 simp -implicitDefEqProofs only [RA,aa,zp,↓reduceIte,reduceCtorEq,zq,zr,zs,zt,G4,Bs]
 refine aq (fun q st=>∃ (i:Nat) (e1:Int) (k1:List Pm),q=l.length-i∧i≤l.length∧(e1=0→R=blW p f.result (l.drop i) k1 loop∧k1.length+bg (l.drop i)≤100000)∧(e1≠0→R.1=e1)∧ab st.env 0=some (.op c 0)∧ab st.env 1=some (ay l)∧ab st.env 2=some (.bool loop)∧ab st.env 6=some (.int .i64 i)∧CkP (fun v=>scp p j0 v e1) c v h nx k1 st.heap st.nx∧st.dm=[]) (n:=l.length) aj
  ⟨0,e,kn,rfl,by omega,fun h0=>⟨by rw [← hR,blR,if_pos h0];rfl,by simpa using hkn h0⟩,fun h0=>by rw [← hR,blR,if_neg h0],by simp [ab],by simp [ab],by simp [ab],by simp [ab],CkP.refl hs (H4 _),rfl⟩ ?_
 rintro q ⟨env,heap,nx',dm⟩ ⟨i,e1,k1,rfl,hi,hz,hnz,g0,g1,g2,g6,⟨v1,hs1,kp1⟩,hdm⟩
 simp only at g0 g1 g2 g6 hs1 kp1 hdm
 subst hdm
 have f1:=wS (i:=i) (by omega)
 have gc:=hs1.1
 simp only [scp] at gc
 by_cases hc:(i:Int)<(l.length:Int)
 case neg =>
  have hd:l.drop i=[]:=Hb (by omega)
  simp -implicitDefEqProofs only [RA,aa,zp,↓reduceIte,reduceCtorEq,zq,zr,zs,zt,pS,l7,g0,g1,g2,g6,lv,hc,CI]
  by_cases h0:e1=0
  ·have hr:=(hz h0).1
   rw [hd,blW] at hr
   subst h0
   rw [hr]
   exact ⟨rfl,k1,fun _=>rfl,v1,hs1,kp1⟩
  ·refine ⟨rfl,k1,fun h=>?_,?_⟩
   ·rw [hnz h0] at h;exact absurd h h0
   ·rw [hnz h0];exact ⟨v1,hs1,kp1⟩
 rcases ah (e1=0) with ⟨d1',d1⟩|⟨d1',d1⟩
 case inr =>
  simp -implicitDefEqProofs only [RA,aa,zp,↓reduceIte,reduceCtorEq,zq,zr,zs,zt,pS,l7,g0,g1,g2,g6,lv,hc,gc,d1,CI]
  refine ⟨rfl,k1,fun h=>?_,?_⟩
  ·rw [hnz d1'] at h;exact absurd h d1'
  ·rw [hnz d1'];exact ⟨v1,hs1,kp1⟩
 obtain ⟨hr,hb⟩:=hz d1'
 have hx:=G7 (show i<l.length by omega)
 generalize l[i]=s at hx
 have hmem:=G8 hx
 have ix:=eQ hx
 have hws:=hwf s hmem
 have hss:=bH hmem
 obtain ⟨hB,hE⟩:=H s hmem
 rw [cG hx] at hr hb
 rw [bg] at hb
 rw [blW] at hr
 have rl:=iL s
 have rt:=jS s
 obtain ⟨k,n,fn,w,ex,bo,el⟩:=s
 simp only [Sm.body,Sm.els] at hB hE
 rw [szS] at hss
 have hze:=fM ex
 have hzl:=aE ex
 subst d1'
 simp -implicitDefEqProofs only [RA,aa,zp,↓reduceIte,reduceCtorEq,zq,zr,zs,zt,pS,l7,g0,g1,g2,g6,lv,hc,gc,ix,rl,rt]
 have hsl:=tj p f.result (.mk k n fn w ex bo el) k1 loop
 refine (w130 p j0 f hfi k1 v1 c k w n fn ex bo el loop heap nx' hs1 hal hfl hpl (by omega) (by omega) (by omega) hws hB hE).mono ?_
 rintro y h2 n2 ⟨rfl,k2,hk2,hp⟩
 simp -implicitDefEqProofs only [RA,aa,zp,↓reduceIte,reduceCtorEq,zq,zr,zs,zt,g0,g1,g2,g6,f1]
 generalize stW p f.result (.mk k n fn w ex bo el) k1 loop=S at hr hk2 hp hsl
 have hp2:CkP (fun v=>scp p j0 v S.1) c v h nx k2 h2 n2:=by
  obtain ⟨v2,a,b⟩:=hp
  exact ⟨v2,a,kp1.trans b⟩
 have hz2:S.1=0→R=blW p f.result (l.drop (i+1)) k2 loop∧k2.length+bg (l.drop (i+1))≤100000:=fun h0=>by
  rw [if_pos h0] at hr
  rw [hk2 h0]
  exact ⟨hr,by omega⟩
 have hnz2:S.1≠0→R.1=S.1:=fun h0=>by
  rw [if_neg h0] at hr;rw [hr]
 refine ⟨l.length-(i+1),by omega,i+1,S.1,k2,rfl,by omega,hz2,hnz2,?_⟩
 repeat' (first|exact hp2|apply And.intro)
 all_goals first|assumption|rfl|omega|(simp [ab, *];done)
theorem w102 (p:Pr) (j0:Nat) (f:Fu) (hfi:p.funcs[j0]?=some f) (c:Nat) (hal:p.arrays.length≤4611686018427387904) (hfl:p.funcs.length≤4611686018427387904) (hpl:∀ g∈p.funcs,g.params.length≤1000000):∀ (m:Nat) (l:List Sm),bS l≤m→bS l≤5000→(∀ x∈l,wfS x=true)→C33 p j0 f.result c l:=by
 intro m
 induction m with
 | zero =>
  intro l hl hB hwf
  exact tf p j0 f hfi c hal hfl hpl l hB hwf fun x hx=>by have:=bH hx;have:=lF x;omega
 | succ m ih =>
  intro l hl hB hwf
  refine tf p j0 f hfi c hal hfl hpl l hB hwf fun x hx=>?_
  have h1:=bH hx
  have h2:=hwf x hx
  obtain ⟨k,n,fn,w,ex,bo,el⟩:=x
  obtain ⟨_,wb,we⟩:=nT h2
  rw [szS] at h1
  exact ⟨ih bo (by omega) (by omega) wb,ih el (by omega) (by omega) we⟩
theorem w49 (p:Pr) (j0:Nat) (f:Fu) (hfi:p.funcs[j0]?=some f) (hal:p.arrays.length≤4611686018427387904) (hfl:p.funcs.length≤4611686018427387904) (hpl:∀ g∈p.funcs,g.params.length≤1000000) (hfp:f.params.length≤1000) (hsz:bS f.body≤5000) (hwf:∀ x∈f.body,wfS x=true) (h:Heap) (nx:Nat) :
  AC Tryz.prog 49 [.agg (prE p),.int .i64 (j0:Int)] h nx (FnP (fnW p f) h nx):=by
 refine AC.go aj is49 (by simp) ?_
 rw [ct]
 have lp:=cq f.params
 have hvl:=dD f.body
 have hst:=cF f.body
 have hfx:=cJ hfi
 have fe:=dG f
 have n1:(nx+1=nx)=False:=eq_false (by omega)
 obtain ⟨h0,hh0⟩:∃ h0:Heap,h0=(nx+1,AO.cells (scp p j0 .nilS 0))::(nx,.cells [bU p.arrays,bR p.funcs])::h:=⟨_,rfl⟩
 have hs0:CkS (fun v=>scp p j0 v 0) (nx+1) [] h0 (nx+1+1) .nilS:=⟨by rw [hh0];simp [af],.inl ⟨rfl,rfl⟩,by simp [aw],by omega⟩
 have hgf:af h0 nx=some (.cells [bU p.arrays,bR p.funcs]):=by rw [hh0];simp [af]
 have hgk:∀ k o,k<nx→af h k=some o→af h0 k=some o:=fun k o hk ho=>by rw [hh0,ai,if_neg (by omega),ai,if_neg (by omega)];exact ho
 have hplen:=lH p f.params []
 obtain ⟨R,hR⟩:∃ R,prW p f.params []=R:=⟨_,rfl⟩
 rw [hR] at hplen
 simp -implicitDefEqProofs only [RA,aa,zp,↓reduceIte,reduceCtorEq,zq,zr,zs,zt,A49,FV,n1,↓bf,↓bc,↓be,↓ba]
 refine aq (fun q st=>∃ (i:Nat) (e1:Int) (k1:List Pm),q=f.params.length-i∧i≤f.params.length∧(e1=0→R=prW p (f.params.drop i) k1)∧(e1≠0→R.1=e1)∧k1.length≤i∧ab st.env 1=some (.int .i64 j0)∧ab st.env 2=some (.op nx 0)∧ab st.env 6=some (.op (nx+1) 0)∧ab st.env 7=some (.int .i64 i)∧CkP (fun v=>scp p j0 v e1) (nx+1) .nilS h0 (nx+1+1) k1 st.heap st.nx∧st.dm=[]) (n:=f.params.length) aj
  ⟨0,0,[],rfl,by omega,fun _=>by rw [← hR];rfl,fun h=>absurd rfl h,by simp,by simp [ab],by simp [ab],by simp [ab],by simp [ab],by rw [hh0] at hs0 ⊢;exact CkP.refl hs0 (H4 _),rfl⟩ ?_
 rintro q ⟨env,heap,nx',dm⟩ ⟨i,e1,k1,rfl,hi,hz,hnz,hk1,g1,g2,g6,g7,⟨v1,hs1,kp1⟩,hdm⟩
 simp only at g1 g2 g6 g7 hs1 kp1 hdm
 subst hdm
 have f1:=wS (i:=i) (by omega)
 have hcn1:=hs1.2.2.2
 have gp:=kp1.2.1 nx _ (by omega) (by omega) (by simp [aw]) hgf
 by_cases hc:(i:Int)<(f.params.length:Int)
 case pos =>
  have hr:=G7 (show i<f.params.length by omega)
  generalize f.params[i]=r at hr
  have ix:=dj hr
  have re:=eu r
  rw [cG hr] at hz
  have c32:=BQ p j0 v1 k1 (nx+1) r.1 r.2 e1 heap nx' hs1 (by omega) hal
  rw [eu] at c32
  simp -implicitDefEqProofs only [RA,aa,zp,↓reduceIte,reduceCtorEq,zq,zr,zs,zt,x7,sj,g1,g2,g6,g7,gp,hfx,fe,lp,hc,ix,re]
  refine c32.mono ?_
  rintro y h2 m2 ⟨rfl,hp⟩
  have hd:df p k1 r.1=0∨df p k1 r.1=18:=by unfold df;split <;> simp
  obtain ⟨e2,he2⟩:∃ e2:Int,(if df p k1 r.1≠0∧e1=0 then 18 else e1)=e2:=⟨_,rfl⟩
  rw [he2] at hp
  simp -implicitDefEqProofs only [RA,aa,zp,↓reduceIte,reduceCtorEq,zq,zr,zs,zt,g1,g2,g6,g7,f1]
  have hlast:CkP (fun v=>scp p j0 v e2) (nx+1) .nilS h0 (nx+1+1) (k1++[(r.1,r.2)]) h2 m2:=by
   obtain ⟨v2,hs3,kp3⟩:=hp
   exact ⟨v2,hs3,kp1.trans kp3⟩
  have hkl:(k1++[(r.1,r.2)]).length≤i+1:=by simp only [Hj,Hc,Hd];omega
  have hz2:e2=0→R=prW p (f.params.drop (i+1)) (k1++[(r.1,r.2)]):=fun h0=>by
   rw [← he2] at h0
   by_cases h1:e1=0
   ·have:=hz h1
    rw [prW] at this
    rcases hd with h|h
    ·rw [if_pos h] at this;exact this
    ·rw [if_pos ⟨by omega,h1⟩] at h0;omega
   ·rw [if_neg (fun h=>h1 h.2)] at h0;exact absurd h0 h1
  have hnz2:e2≠0→R.1=e2:=fun h0=>by
   by_cases h1:e1=0
   ·have:=hz h1
    rw [prW] at this
    rcases hd with h|h
    ·rw [if_neg (fun q=>q.1 h)] at he2;omega
    ·rw [if_neg (by omega)] at this
     rw [if_pos ⟨by omega,h1⟩] at he2
     rw [this,← he2];exact h
   ·rw [if_neg (fun h=>h1 h.2)] at he2
    rw [← he2];exact hnz h1
  refine ⟨f.params.length-(i+1),by omega,i+1,e2,k1++[(r.1,r.2)],rfl,by omega,hz2,hnz2,hkl,?_⟩
  repeat' (first|exact hlast|apply And.intro)
  all_goals first|assumption|rfl|omega|(simp [ab, *];done)
 have hd:f.params.drop i=[]:=Hb (by omega)
 have ef:fnW p f=if R.1=0 then blW p f.result f.body R.2 false else (R.1,[]):=by rw [fnW,hR]
 simp -implicitDefEqProofs only [RA,aa,zp,↓reduceIte,reduceCtorEq,zq,zr,zs,zt,x7,sj,g1,g2,g6,g7,gp,hfx,fe,lp,hc]
 refine (w102 p j0 f hfi (nx+1) hal hfl hpl _ f.body (H4 _) hsz hwf false e1 k1 v1 heap nx' (fun _=>by omega) hs1).mono ?_
 rintro y h2 m2 ⟨rfl,k2,hk2,v2,hs3,kp3⟩
 have gc3:=hs3.1
 simp only [scp] at gc3
 simp -implicitDefEqProofs only [RA,aa,zp,↓reduceIte,reduceCtorEq,zq,zr,zs,zt,g1,g2,g6,g7,gc3,R49]
 have kp:=kp1.trans kp3
 have hE:(blR p f.result f.body e1 k1 false).1=(fnW p f).1∧((fnW p f).1=0→k2=(fnW p f).2):=by
  rw [ef]
  by_cases h0:e1=0
  ·have hr:=hz h0
   rw [hd,prW] at hr
   have e3:blR p f.result f.body e1 k1 false=blW p f.result f.body k1 false:=by rw [blR,if_pos h0]
   rw [e3] at hk2 ⊢
   rw [hr,if_pos rfl]
   exact ⟨rfl,hk2⟩
  ·have hr:=hnz h0
   have e3:blR p f.result f.body e1 k1 false=(e1,k1):=by rw [blR,if_neg h0]
   rw [e3]
   rw [if_neg (by rw [hr];exact h0)]
   exact ⟨hr.symm,fun h=>absurd h (by rw [hr];exact h0)⟩
 refine ⟨v2,k2,by rw [hE.1],hs3.2.1,hE.2,by have:=kp.1;omega,fun k o hk ho=>kp.2.1 k o (by omega) (by omega) (by simp [aw]) (hgk k o hk ho)⟩
end Go.Proofs.YtgeieafamocnhaaGreatDoor
