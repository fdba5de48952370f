/- The writer's blocks, steps and ends. -/
import Derived.Test.YtgeieafamocnhaaGreatDoorGR
namespace Go.Proofs.YtgeieafamocnhaaGreatDoor
open List renaming getElem?_eq_getElem → G7, mem_of_getElem? → G8, take_of_length_le → Ha, length_cons → Hc, length_nil → Hd, length_map → He, map_append → Hk, set_cons_succ → HG, set_cons_zero → HH
open Nat renaming le_refl → H4, lt_of_lt_of_le → H5, le_trans → H6
open Int renaming reduceEq → Ie, toNat_natCast → If, reduceNeg → Ig
set_option maxHeartbeats 64000000
open Go Go.Ab Go.Proofs
open Nat renaming reduceEqDiff → zp, reduceAdd → zq, reduceLeDiff → zr, reduceLT → zs, reduceBEq → zt
set_option linter.unusedVariables false
set_option linter.unusedSimpArgs false
set_option maxRecDepth 20000
def wrC (p:Pr) (f:Int) (v:AV) (a ex:Int) (m:Nat):List AV:=[.fp (unE p (plW p) (vsW p)),.int .i64 f,v,.int .i64 a,.int .i64 ex,.mp m]
structure WS (p:Pr) (f ex:Int) (c m:Nat) (h:Heap) (nx:Nat) (v:AV) (cs:List (List AV)) (s:WSt):Prop where
 cell:af h c=some (.cells (wrC p f v s.2 ex m))
 cn:c<nx
 cf:¬ Fp v cs c
 blk:ej h nx v cs s.1
structure GrW (c:Nat) (h:Heap) (nx:Nat) (v:AV) (cs:List (List AV)) (h':Heap) (n':Nat) (v':AV) (cs':List (List AV)):Prop where
 le:nx≤n'
 keep:∀ k o,k<nx→k≠c→¬ Fp v cs k→af h k=some o→af h' k=some o
 new:∀ k,Fp v' cs' k→nx≤k∨Fp v cs k
theorem GrW.trans {c:Nat} {h h' h2:Heap} {nx n' n2:Nat} {v v' v2:AV} {cs cs' cs2:List (List AV)} (a:GrW c h nx v cs h' n' v' cs') (b:GrW c h' n' v' cs' h2 n2 v2 cs2):GrW c h nx v cs h2 n2 v2 cs2 :=
 ⟨H6 a.le b.le,fun k o hk hc hf hg=>b.keep k o (H5 hk a.le) hc (fun hf'=>by
  rcases a.new k hf' with h1|h1
  ·omega
  ·exact hf h1) (a.keep k o hk hc hf hg),fun k hk=>by
  rcases b.new k hk with h1|h1
  ·exact .inl (H6 a.le h1)
  ·exact a.new k h1⟩
theorem GrW.refl {c:Nat} {h h':Heap} {nx n':Nat} {v:AV} {cs:List (List AV)} (hle:nx≤n') (hk:∀ k o,k<nx→af h k=some o→af h' k=some o):GrW c h nx v cs h' n' v cs :=
 ⟨hle,fun k o h1 _ _ h2=>hk k o h1 h2,fun k hk=>.inr hk⟩
theorem WS.more {p:Pr} {f ex:Int} {c m:Nat} {h h':Heap} {nx n':Nat} {v:AV} {cs:List (List AV)} {s:WSt} (w:WS p f ex c m h nx v cs s) (hle:nx≤n') (hk:∀ k o,k<nx→af h k=some o→af h' k=some o):WS p f ex c m h' n' v cs s :=
 ⟨hk c _ w.cn w.cell,H5 w.cn hle,w.cf,w.blk.keep hle fun k o hf hg=>hk k o (w.blk.lt hf) hg⟩
theorem WS.set {p:Pr} {f ex:Int} {c m:Nat} {h h':Heap} {nx n':Nat} {v v':AV} {cs cs':List (List AV)} {s s':WSt} {ex':Int} (w:WS p f ex c m h nx v cs s) (B:ej h' n' v' cs' s'.1) (G:GrB h nx v cs h' n' v' cs') :
  WS p f ex' c m ((c,.cells (wrC p f v' s'.2 ex' m))::h') n' v' cs' s'∧GrW c h nx v cs ((c,.cells (wrC p f v' s'.2 ex' m))::h') n' v' cs':=by
 have hne:∀ k,Fp v' cs' k→k≠c:=fun k hk e=>by
  subst e
  rcases G.new k hk with h1|h1
  ·have:=w.cn;omega
  ·exact w.cf h1
 refine ⟨⟨by rw [ai,if_pos rfl],H5 w.cn G.le,fun hk=>hne c hk rfl,B.keep (H4 _) fun k o hf hg=>?_⟩,⟨G.le,fun k o h1 h2 h3 h4=>?_,G.new⟩⟩
 ·rw [ai,if_neg (fun e=>hne k hf e.symm)];exact hg
 ·rw [ai,if_neg (fun e=>h2 e.symm)];exact G.keep k o h1 h3 h4
theorem WS.by {p:Pr} {f ex:Int} {c m:Nat} {h h':Heap} {nx n':Nat} {v:AV} {cs cs':List (List AV)} {s s':WSt} (w:WS p f ex c m h nx v cs s) (B:ej h' n' v cs' s'.1) (G:GrB h nx v cs h' n' v cs') (e:s'.2=s.2) :
  WS p f ex c m h' n' v cs' s'∧GrW c h nx v cs h' n' v cs' :=
 ⟨⟨by rw [e];exact G.keep c _ w.cn w.cf w.cell,H5 w.cn G.le,fun hk=>by
  rcases G.new c hk with h1|h1
  ·have:=w.cn;omega
  ·exact w.cf h1,B⟩,⟨G.le,fun k o h1 _ h3 h4=>G.keep k o h1 h3 h4,G.new⟩⟩
theorem bK {h:Heap} {b off:Nat} {cs ds:List AV} (hb:af h b=some (.cells cs)) (hd:cs.drop off=ds):bG h (.op b off)=some ds:=by simp only [bG,hb,hd]
theorem rl1 {h:Heap} {q x:AV} {r:List AV} (hp:bG h q=some (x::r)):cI h 1 false q=some x:=by simp only [cI,hp,aa];rfl
theorem rlA {h:Heap} {q:AV} {cs:List AV} {sz:Nat} (hp:bG h q=some cs) (hl:cs.length=sz):cI h sz true q=some (.agg cs):=by
 simp only [cI,hp,aa,hl,H4,if_true,Ha (Nat.le_of_eq hl)]
def WP (p:Pr) (f ex:Int) (c m:Nat) (h:Heap) (nx:Nat) (v:AV) (cs:List (List AV)) (s:WSt) (r:AV) (y:AE) (h':Heap) (n':Nat):Prop :=
 y=.ret r∧∃ v' cs',WS p f ex c m h' n' v' cs' s∧GrW c h nx v cs h' n' v' cs'
theorem ij {α:Type} {l:List α} {i:Nat} {b:α} (f:α→α) (hb:l[i]?=some b):l.modify i f=l.set i (f b):=by
 apply List.ext_getElem?
 intro j
 rw [List.getElem?_modify,List.getElem?_set]
 by_cases e:i=j
 ·subst e
  obtain ⟨h1,h2⟩:=List.getElem?_eq_some_iff.1 hb
  simp [h1,h2]
 ·simp [e]
theorem w67 (p:Pr) (f ex:Int) (c m:Nat) (h:Heap) (nx:Nat) (v:AV) (cs:List (List AV)) (s:WSt) (w:WS p f ex c m h nx v cs s) (hl:s.1.length≤1000000) :
  AC Tryz.prog 67 [.op c 0] h nx (WP p f ex c m h nx v cs (mkB s) (.int .i64 s.1.length)):=by
 refine AC.go aj is67 (by simp) ?_
 have gc:=w.cell
 obtain ⟨v',h',n',ea,B,G⟩:=w.blk.block hl
 have gc':=G.keep c _ w.cn w.cf gc
 obtain ⟨q1,q2⟩:=bE B.own
 have ll:=B.own.len
 have hcl:=w.blk.len
 rw [show (cs++[kj]).length=s.1.length+1 by simp [hcl]] at ll
 have f1:IntKind.i64.wrap (((s.1.length+1:Nat):Int)-1)=(s.1.length:Int):=by rw [w64 (by omega) (by omega)];omega
 have ea':eC 97 5 96 h nx v (.lst 5 [[.nilS,.int .u8 0,.str [],.nilS,.nilS]])=some (v',h',n'):=ea
 simp only [wrC] at gc gc'
 simp -implicitDefEqProofs only [RA,aa,zp,↓reduceIte,reduceCtorEq,zq,zr,zs,zt,A67,FE,gc,ea',gc',q1,q2,ll,f1,R67]
 obtain ⟨w2,g2⟩:=w.set (s':=mkB s) (ex':=ex) B G
 exact ⟨rfl,v',_,w2,g2⟩
theorem yQ (p:Pr) (f ex:Int) (c m:Nat) (h:Heap) (nx:Nat) (v:AV) (cs:List (List AV)) (s:WSt) (w:WS p f ex c m h nx v cs s) (t:St) (i:Nat) (b:Bk) (hi:s.2=(i:Int)) (hb:s.1[i]?=some b) (hl:b.steps.length≤1000000) :
  AC Tryz.prog 105 [.op c 0,.agg (stE t)] h nx (WP p f ex c m h nx v cs (fW t s) (.tup [])):=by
 refine AC.go aj El (by simp) ?_
 have gk0:∀ k o,k<nx→af h k=some o→af ((nx,AO.cells (stE t))::h) k=some o:=fun k o hk ho=>by rw [ai,if_neg (by omega)];exact ho
 have w0:=w.more (n':=nx+1) (by omega) gk0
 have gc:=w0.cell
 obtain ⟨bb,o,sv,rest,sv',h1,n1,h2,cs',i1,i2,ea,q1,q2,i3,B,G,_⟩:=w0.blk.add hb hl t
 have e1:fW t s=(s.1.set i { b with steps:=b.steps++[t] },s.2):=by rw [fW,hi,If,ij _ hb]
 have nc:(nx=c)=False:=eq_false (by have:=w.cn;omega)
 simp only [wrC,hi] at gc
 have te:stE t=[.int .u8 t.kind,.str t.var,.str t.func,cg t.terms]:=rfl
 have ra:=rl1 (bK (off:=2) gc rfl)
 have rb:=rl1 (bK (off:=3) gc rfl)
 have rd:=rl1 i2
 have re:cI ((nx,AO.cells (stE t))::h) 4 true (.op nx 0)=some (.agg (stE t)):=rlA (bK (off:=0) (cs:=stE t) (by simp [af]) rfl) rfl
 rw [te] at ra rb rd re ea ⊢
 simp -implicitDefEqProofs only [RR,RE,aa,zp,↓reduceIte,reduceCtorEq,zq,zr,zs,zt,G2,Bq,↓cw,↓cu,ra,rb,rd,re,i1,ea,q1,q2,i3,Fb]
 obtain ⟨w2,g2⟩:=w0.by (s':=fW t s) (by rw [e1];exact B) G rfl
 exact ⟨rfl,v,cs',w2,(GrW.refl (by omega) gk0).trans g2⟩
theorem st1 {h:Heap} {b off:Nat} {cs ds:List AV} {x:AV} (hb:af h b=some (.cells cs)) (hl:off<cs.length) (hd:cs.set off x=ds):eP h (.op b off) [x]=some ((b,.cells ds)::h):=by
 simp only [eP,hb,Hc,Hd,Nat.zero_add]
 rw [if_pos (by omega),jE _ _ _ hl,hd];rfl
theorem pX {x:AV} {l:List Tm} (h:x=cg l∨(x=.nilS∧l=[])):cellsOf x=[x]∧x.plain=true:=by
 rcases h with rfl|⟨rfl,_⟩ <;> exact ⟨rfl,rfl⟩
theorem qh {x:AV} {l:List Int} (h:x=cP l∨(x=.nilS∧l=[])):cellsOf x=[x]∧x.plain=true:=by
 rcases h with rfl|⟨rfl,_⟩ <;> exact ⟨rfl,rfl⟩
theorem w69 (p:Pr) (f ex:Int) (c m:Nat) (h:Heap) (nx:Nat) (v:AV) (cs:List (List AV)) (s:WSt) (w:WS p f ex c m h nx v cs s) (o:Op s) (k:Int) (tv ov:AV) (ts:List Tm) (to:List Int) (ht:tv=cg ts∨(tv=.nilS∧ts=[])) (hv:ov=cP to∨(ov=.nilS∧to=[])) :
  AC Tryz.prog 69 [.op c 0,.agg [.int .u8 k,.str [],tv,ov]] h nx (WP p f ex c m h nx v cs (cQ k ts to s) (.tup [])):=by
 refine AC.go aj is69 (by simp) ?_
 have gk0:∀ q a,q<nx→af h q=some a→af ((nx,AO.cells [.int .u8 k,.str [],tv,ov])::h) q=some a:=fun q a hk ho=>by rw [ai,if_neg (by omega)];exact ho
 have w0:=w.more (n':=nx+1) (by omega) gk0
 have gc:=w0.cell
 obtain ⟨t1,t2⟩:=pX ht
 obtain ⟨o1,o2⟩:=qh hv
 simp only [wrC] at gc
 have pa:=bK (off:=3) gc rfl
 rcases o with h1|⟨h1,h2⟩
 ·have e:cQ k ts to s=s:=by rw [cQ,if_pos h1]
  rw [e]
  rw [h1] at gc pa
  have sa:=st1 (off:=3) (x:=.int .i64 (-1)) gc (by simp) rfl
  simp -implicitDefEqProofs only [RR,RE,aa,zp,↓reduceIte,reduceCtorEq,zq,zr,zs,zt,A69,CP,t1,t2,o1,o2,pa,sa,aa,Ig,Ie,R69]
  obtain ⟨w2,g2⟩:=w0.set (s':=s) (ex':=ex) w0.blk (GrB.refl (H4 _) fun _ _ _ h=>h)
  rw [h1] at w2 g2
  exact ⟨rfl,v,cs,w2,(GrW.refl (by omega) gk0).trans g2⟩
 obtain ⟨i,hi⟩:∃ i:Nat,s.2=(i:Int):=⟨s.2.toNat,by omega⟩
 have hb:s.1[i]?=some (s.1[i]'(by omega)):=G7 _
 generalize s.1[i]=b at hb
 obtain ⟨bb,off,h3,cs',i1,i3,B,G⟩:=w0.blk.end_ hb k [] tv ov ts to ht hv
 have e:cQ k ts to s=(s.1.set i { b with kind:=k,func:=[],terms:=ts,to:=to },-1):=by rw [cQ,if_neg (by omega),hi,If,ij _ hb]
 have gc3:=G.keep c _ w0.cn w0.cf w0.cell
 simp only [wrC] at gc3
 rw [hi] at gc gc3 pa
 have d1:((i:Int)=-1)=False:=eq_false (by omega)
 have ra:=rl1 (bK (off:=2) gc rfl)
 have rb:=rl1 (bK (off:=3) gc rfl)
 have re:cI ((nx,AO.cells [.int .u8 k,.str [],tv,ov])::h) 4 true (.op nx 0)=some (.agg [.int .u8 k,.str [],tv,ov]):=rlA (bK (off:=0) (cs:=[.int .u8 k,.str [],tv,ov]) (by simp [af]) rfl) rfl
 have sa:=st1 (off:=3) (x:=.int .i64 (-1)) gc3 (by simp) rfl
 simp -implicitDefEqProofs only [RR,RE,aa,zp,↓reduceIte,reduceCtorEq,zq,zr,zs,zt,A69,CP,t1,t2,o1,o2,pa,d1,ra,rb,re,i1,i3,sa,aa,Ig,R69]
 obtain ⟨w2,g2⟩:=w0.set (s':=cQ k ts to s) (ex':=ex) (by rw [e];exact B) G
 rw [e] at w2 g2
 rw [e]
 exact ⟨rfl,v,cs',w2,(GrW.refl (by omega) gk0).trans g2⟩
theorem uq (p:Pr) (f ex:Int) (c m:Nat) (h:Heap) (nx:Nat) (v:AV) (cs:List (List AV)) (s:WSt) (w:WS p f ex c m h nx v cs s) (o:Op s) (to:Int) :
  AC Tryz.prog 106 [.op c 0,.int .i64 to] h nx (WP p f ex c m h nx v cs (jmp to s) (.tup [])):=by
 refine AC.go aj Ek (by simp) ?_
 simp -implicitDefEqProofs only [RA,aa,zp,↓reduceIte,reduceCtorEq,zq,zr,zs,zt,G0,Bp]
 refine (w69 p f ex c m h nx v cs s w o 5 .nilS (cP [to]) [] [to] (.inr ⟨rfl,rfl⟩) (.inl rfl)).mono ?_
 rintro y h2 n2 ⟨rfl,hq⟩
 simp -implicitDefEqProofs only [RA,aa,zp,↓reduceIte,reduceCtorEq,zq,zr,zs,zt,Fa]
 exact ⟨rfl,hq⟩
def rX (s:WSt):Prop:=∃ (i:Nat) (b:Bk),s.2=(i:Int)∧s.1[i]?=some b∧b.steps.length≤1000000
section
variable (p:Pr) (f ex:Int) (c m:Nat) (h:Heap) (nx:Nat) (v:AV) (cs:List (List AV)) (s:WSt) (w:WS p f ex c m h nx v cs s) (k wd:Int) (n fn:Nm) (l:List Ex) (b e:List Sm) (ts:List Tm)
def smC (k:Int) (n fn:Nm) (wd:Int) (l:List Ex) (b e:List Sm):List AV:=[.int .u8 k,.str n,.str fn,.int .i64 wd,aR l,ay b,ay e]
include w
theorem lA (cs0:List AV):WS p f ex c m ((nx,.cells cs0)::h) (nx+1) v cs s∧GrW c h nx v cs ((nx,.cells cs0)::h) (nx+1) v cs:=by
 have gk0:∀ q a,q<nx→af h q=some a→af ((nx,AO.cells cs0)::h) q=some a:=fun q a hk ho=>by rw [ai,if_neg (by omega)];exact ho
 exact ⟨w.more (by omega) gk0,GrW.refl (by omega) gk0⟩
theorem w59 (hr:rX s):AC Tryz.prog 59 [.op c 0,.agg (smC k n fn wd l b e),cg ts] h nx (WP p f ex c m h nx v cs (fW ⟨1,n,[],ts⟩ s) (.tup [])):=by
 refine AC.go aj is59 (by simp) ?_
 obtain ⟨i,bk,hi,hb,hl⟩:=hr
 obtain ⟨w0,g0⟩:=lA p f ex c m h nx v cs s w (smC k n fn wd l b e)
 simp only [smC] at w0 g0 ⊢
 simp -implicitDefEqProofs only [RA,aa,zp,↓reduceIte,reduceCtorEq,zq,zr,zs,zt,A59,FN,↓aT,↓aS,↓aB,↓aA,↓cw,↓cu]
 refine (yQ p f ex c m _ _ v cs s w0 ⟨1,n,[],ts⟩ i bk hi hb hl).mono ?_
 rintro y h2 n2 ⟨rfl,v',cs',w2,g2⟩
 simp -implicitDefEqProofs only [RA,aa,zp,↓reduceIte,reduceCtorEq,zq,zr,zs,zt,R59]
 exact ⟨rfl,v',cs',w2,g0.trans g2⟩
theorem w64' (hr:rX s):AC Tryz.prog 64 [.op c 0,.agg (smC k n fn wd l b e),cg ts] h nx (WP p f ex c m h nx v cs (fW ⟨4,[],[],ts⟩ s) (.tup [])):=by
 refine AC.go aj is64 (by simp) ?_
 obtain ⟨i,bk,hi,hb,hl⟩:=hr
 obtain ⟨w0,g0⟩:=lA p f ex c m h nx v cs s w (smC k n fn wd l b e)
 simp only [smC] at w0 g0 ⊢
 simp -implicitDefEqProofs only [RA,aa,zp,↓reduceIte,reduceCtorEq,zq,zr,zs,zt,A64,FH,↓aT,↓aS,↓aB,↓aA,↓cw,↓cu]
 refine (yQ p f ex c m _ _ v cs s w0 ⟨4,[],[],ts⟩ i bk hi hb hl).mono ?_
 rintro y h2 n2 ⟨rfl,v',cs',w2,g2⟩
 simp -implicitDefEqProofs only [RA,aa,zp,↓reduceIte,reduceCtorEq,zq,zr,zs,zt,R64]
 exact ⟨rfl,v',cs',w2,g0.trans g2⟩
theorem w66 (hr:rX s):AC Tryz.prog 66 [.op c 0,.agg (smC k n fn wd l b e),cg ts] h nx (WP p f ex c m h nx v cs (fW ⟨3,n,fn,ts⟩ s) (.tup [])):=by
 refine AC.go aj is66 (by simp) ?_
 obtain ⟨i,bk,hi,hb,hl⟩:=hr
 obtain ⟨w0,g0⟩:=lA p f ex c m h nx v cs s w (smC k n fn wd l b e)
 simp only [smC] at w0 g0 ⊢
 simp -implicitDefEqProofs only [RA,aa,zp,↓reduceIte,reduceCtorEq,zq,zr,zs,zt,A66,FF,↓aT,↓aS,↓aB,↓aA,↓cw,↓cu]
 refine (yQ p f ex c m _ _ v cs s w0 ⟨3,n,fn,ts⟩ i bk hi hb hl).mono ?_
 rintro y h2 n2 ⟨rfl,v',cs',w2,g2⟩
 simp -implicitDefEqProofs only [RA,aa,zp,↓reduceIte,reduceCtorEq,zq,zr,zs,zt,R66]
 exact ⟨rfl,v',cs',w2,g0.trans g2⟩
theorem w65 (o:Op s):AC Tryz.prog 65 [.op c 0,.agg (smC k n fn wd l b e),cg ts] h nx (WP p f ex c m h nx v cs (cQ 7 ts [] s) (.tup [])):=by
 refine AC.go aj is65 (by simp) ?_
 obtain ⟨w0,g0⟩:=lA p f ex c m h nx v cs s w (smC k n fn wd l b e)
 simp only [smC] at w0 g0 ⊢
 simp -implicitDefEqProofs only [RA,aa,zp,↓reduceIte,reduceCtorEq,zq,zr,zs,zt,A65,FG,↓aT,↓aS,↓aB,↓aA,↓cw,↓cu]
 refine (w69 p f ex c m _ _ v cs s w0 o 7 (cg ts) .nilS ts [] (.inl rfl) (.inr ⟨rfl,rfl⟩)).mono ?_
 rintro y h2 n2 ⟨rfl,v',cs',w2,g2⟩
 simp -implicitDefEqProofs only [RA,aa,zp,↓reduceIte,reduceCtorEq,zq,zr,zs,zt,R65]
 exact ⟨rfl,v',cs',w2,g0.trans g2⟩
theorem w63 (o:Op s):AC Tryz.prog 63 [.op c 0,.agg (smC k n fn wd l b e),cg ts] h nx (WP p f ex c m h nx v cs (jmp ex s) (.tup [])):=by
 refine AC.go aj is63 (by simp) ?_
 obtain ⟨w0,g0⟩:=lA p f ex c m h nx v cs s w (smC k n fn wd l b e)
 have gc:=w0.cell
 simp only [smC,wrC] at w0 g0 gc ⊢
 have nc:(nx=c)=False:=eq_false (by have:=w.cn;omega)
 have pa:=bK (off:=4) gc rfl
 simp -implicitDefEqProofs only [RR,RE,aa,zp,↓reduceIte,reduceCtorEq,zq,zr,zs,zt,A63,FI,↓aT,↓aS,↓aB,↓aA,pa,aa]
 refine (uq p f ex c m _ _ v cs s w0 o ex).mono ?_
 rintro y h2 n2 ⟨rfl,v',cs',w2,g2⟩
 simp -implicitDefEqProofs only [RA,aa,zp,↓reduceIte,reduceCtorEq,zq,zr,zs,zt,R63]
 exact ⟨rfl,v',cs',w2,g0.trans g2⟩
end
def SB (M:Nat) (s:WSt):Prop:=∀ b∈s.1,b.steps.length≤M
theorem SB.le {M M':Nat} {s:WSt} (h:SB M s) (hl:M≤M'):SB M' s:=fun b hb=>H6 (h b hb) hl
theorem SB.mk {M:Nat} {s:WSt} (h:SB M s):SB M (mkB s):=fun b hb=>by
 simp only [mkB,List.mem_append,List.mem_singleton] at hb
 rcases hb with hb|rfl
 ·exact h b hb
 ·simp [Bk0]
theorem SB.op {M:Nat} {s:WSt} (h:SB M s) (i:Int):SB M (opB i s):=h
theorem ik {α:Type} {f:α→α} {l:List α} {i:Nat} {b:α} (h:b∈l.modify i f):b∈l∨∃ a∈l,b=f a:=by
 obtain ⟨j,hj⟩:=List.getElem?_of_mem h
 rw [List.getElem?_modify] at hj
 cases hq:l[j]? with
 | none=>rw [hq] at hj;simp at hj
 | some a =>
  rw [hq] at hj
  have hm:=G8 hq
  by_cases e:i=j
  ·simp [e] at hj;exact .inr ⟨a,hm,hj.symm⟩
  ·simp [e] at hj;exact .inl (hj ▸ hm)
theorem SB.en {M:Nat} {s:WSt} (h:SB M s) (k:Int) (ts:List Tm) (to:List Int):SB M (cQ k ts to s):=by
 unfold cQ
 split
 ·exact h
 ·intro b hb
  rcases ik hb with hb|⟨a,ha,rfl⟩
  ·exact h b hb
  ·exact h a ha
theorem SB.jm {M:Nat} {s:WSt} (h:SB M s) (to:Int):SB M (jmp to s):=h.en _ _ _
theorem SB.ad {M:Nat} {s:WSt} (h:SB M s) (t:St):SB (M+1) (fW t s):=by
 intro b hb
 rcases ik hb with hb|⟨a,ha,rfl⟩
 ·have:=h b hb;omega
 ·have:=h a ha;simp;exact this
mutual
theorem qZ (p:Pr) (kn:List Pm):∀ (x:Sm) (ex:Int) (s:WSt) (M:Nat),SB M s→SB (M+nst x) (stG p kn ex x s)
 | .mk k n fn w l b e,ex,s,M,h=>by
  rw [stG,nst]
  try simp only
  split
  ·exact (h.ad _).le (by omega)
  split
  ·exact (h.ad _).le (by omega)
  split
  ·split
   ·exact (((iM p kn b _ _ M ((h.mk.mk.en _ _ _).op _)).jm _).op _).le (by omega)
   ·exact (((iM p kn e _ _ _ (((iM p kn b _ _ M ((h.mk.mk.mk.en _ _ _).op _)).jm _).op _)).jm _).op _).le (by omega)
  split
  ·exact (((iM p kn b _ _ M ((((h.mk.mk.mk.jm _).op _).en _ _ _).op _)).jm _).op _).le (by omega)
  split
  ·exact (h.jm _).le (by omega)
  split
  ·exact (h.ad _).le (by omega)
  split
  ·exact (h.en _ _ _).le (by omega)
  ·exact (h.ad _).le (by omega)
theorem iM (p:Pr) (kn:List Pm):∀ (l:List Sm) (ex:Int) (s:WSt) (M:Nat),SB M s→SB (M+dr l) (slG p kn ex l s)
 | [],ex,s,M,h=>by rw [slG];exact h.le (by omega)
 | x::r,ex,s,M,h=>by
  rw [slG,dr]
  split
  ·exact h.le (by omega)
  ·exact (iM p kn r _ _ _ (qZ p kn x ex s M h)).le (by omega)
end
theorem Dx {s:WSt} {M:Nat} (o:Op s) (h:SB M s) (hM:M≤1000000) (hs:¬ s.2=-1):rX s:=by
 rcases o with h1|⟨h1,h2⟩
 ·exact absurd h1 hs
 ·obtain ⟨i,hi⟩:∃ i:Nat,s.2=(i:Int):=⟨s.2.toNat,by omega⟩
  have hb:s.1[i]?=some (s.1[i]'(by omega)):=G7 _
  exact ⟨i,_,hi,hb,H6 (h _ (List.getElem_mem _)) hM⟩
structure KB (c:Nat) (h:Heap) (nx:Nat) (v:AV) (cs:List (List AV)) (q:Nat) (o:AO):Prop where
 at_:af h q=some o
 lt:q<nx
 ne:q≠c
 nf:¬ Fp v cs q
theorem KB.go {c:Nat} {h h':Heap} {nx n':Nat} {v v':AV} {cs cs':List (List AV)} {q:Nat} {o:AO} (k:KB c h nx v cs q o) (g:GrW c h nx v cs h' n' v' cs'):KB c h' n' v' cs' q o :=
 ⟨g.keep q o k.lt k.ne k.nf k.at_,H5 k.lt g.le,k.ne,fun hf=>by
  rcases g.new q hf with h1|h1
  ·have:=k.lt;omega
  ·exact k.nf h1⟩
theorem WS.open {p:Pr} {f ex:Int} {c m:Nat} {h:Heap} {nx:Nat} {v:AV} {cs:List (List AV)} {s:WSt} (w:WS p f ex c m h nx v cs s) (i ex':Int) :
  WS p f ex' c m ((c,.cells (wrC p f v i ex' m))::h) nx v cs (opB i s)∧GrW c h nx v cs ((c,.cells (wrC p f v i ex' m))::h) nx v cs :=
 w.set (s':=opB i s) (ex':=ex') w.blk (GrB.refl (H4 _) fun _ _ _ h=>h)
def kM (c:Nat):List (AV × AV):=[(.int .u8 1,.bm (.func 59) [.op c 0] []),(.int .u8 2,.bm (.func 59) [.op c 0] []),(.int .u8 3,.bm (.func 60) [.op c 0] []),(.int .u8 4,.bm (.func 61) [.op c 0] []),(.int .u8 5,.bm (.func 62) [.op c 0] []),(.int .u8 6,.bm (.func 63) [.op c 0] []),(.int .u8 7,.bm (.func 64) [.op c 0] []),(.int .u8 8,.bm (.func 65) [.op c 0] []),(.int .u8 9,.bm (.func 66) [.op c 0] [])]
def kO (c:Nat):AO:=.map (kM c) [0,1,2,3,4,5,6,7,8] 9
theorem Op.jmp (to:Int) (s:WSt):Op (jmp to s):=by
 unfold Go.Proofs.YtgeieafamocnhaaGreatDoor.jmp cQ;split
 ·rename_i h;exact .inl h
 ·exact .inl rfl
theorem Op.en {s:WSt} (o:Op s) (k:Int) (ts:List Tm) (to:List Int):Op (cQ k ts to s):=by
 unfold cQ;split
 ·exact o
 ·exact .inl rfl
theorem Op.at {i:Nat} {s:WSt} (h:i<s.1.length):Op (opB i s):=.inr ⟨by simp [opB],by simp only [opB];omega⟩
theorem Op.mk {s:WSt} (o:Op s):Op (mkB s):=by
 have:=aW s
 rcases o with h|⟨h1,h2⟩
 ·exact .inl h
 ·exact .inr ⟨h1,by show s.2<((mkB s).1.length:Int);omega⟩
def C68 (p:Pr) (f:Int) (c m:Nat) (kn:List Pm) (l:List Sm):Prop:=∀ (ex:Int) (h:Heap) (nx:Nat) (v:AV) (cs:List (List AV)) (s:WSt) (M:Nat),WS p f ex c m h nx v cs s→KB c h nx v cs m (kO c)→Op s→SB M s→M+dr l≤900000→s.1.length+3*dr l≤900000 →
 AC Tryz.prog 68 [.op c 0,ay l] h nx (WP p f ex c m h nx v cs (slG p kn ex l s) (.tup []))
theorem tq (l:List Sm):(l.isEmpty=true∧((l.length:Int) > 0)=False)∨(l.isEmpty=false∧((l.length:Int) > 0)=True):=by
 cases l with
 | nil=>exact .inl ⟨rfl,eq_false (by simp)⟩
 | cons x r=>exact .inr ⟨rfl,eq_true (by simp)⟩
theorem w61 (p:Pr) (f ex:Int) (c m:Nat) (kn:List Pm) (h:Heap) (nx:Nat) (v:AV) (cs:List (List AV)) (s:WSt) (w:WS p f ex c m h nx v cs s) (km:KB c h nx v cs m (kO c)) (o:Op s) (wd:Int) (n fn:Nm) (l:List Ex) (b e:List Sm) (M:Nat) (hM:SB M s) (hb:M+dr b+dr e≤900000) (hl:s.1.length+3*dr b+3*dr e≤899997) (cb:C68 p f c m kn b) (ce:C68 p f c m kn e) :
  AC Tryz.prog 61 [.op c 0,.agg (smC 4 n fn wd l b e),cg (l.map (exT p kn))] h nx (WP p f ex c m h nx v cs (stG p kn ex (.mk 4 n fn wd l b e) s) (.tup [])):=by
 refine AC.go aj is61 (by simp) ?_
 obtain ⟨w0,g0⟩:=lA p f ex c m h nx v cs s w (smC 4 n fn wd l b e)
 have kx:KB c ((nx,.cells (smC 4 n fn wd l b e))::h) (nx+1) v cs nx (.cells (smC 4 n fn wd l b e)):=⟨by rw [ai,if_pos rfl],by omega,by have:=w.cn;omega,fun hf=>by have:=w.blk.lt hf;omega⟩
 have km0:=km.go g0
 generalize hh0:((nx,AO.cells (smC 4 n fn wd l b e))::h:Heap)=h0 at w0 g0 kx km0
 have lb:dt (ay e)=some e.length:=by simp [ay,dP]
 simp only [smC] at hh0 ⊢
 simp -implicitDefEqProofs only [RR,RE,aa,zp,↓reduceIte,reduceCtorEq,zq,zr,zs,zt,A61,FL,↓aT,↓aS,↓aB,↓aA,↓cw,↓cu,hh0]
 refine (w67 p f ex c m h0 (nx+1) v cs s w0 (by omega)).mono ?_
 rintro y h1 n1 ⟨rfl,v1,cs1,w1,g1⟩
 have kx1:=kx.go g1
 have km1:=km0.go g1
 have pe1:=bK (off:=6) kx1.at_ rfl
 simp only [smC] at pe1
 have l1:((mkB s).1.length:Int)=(s.1.length:Int)+1:=by rw [aW];omega
 have l2:((mkB (mkB s)).1.length:Int)=(s.1.length:Int)+2:=by rw [aW,aW];omega
 have nm:((-1:Int)=-1)=True:=eq_true rfl
 rcases tq e with ⟨he,d1⟩|⟨he,d1⟩
 ·rw [stG]
  simp only [Ie,or_self,if_false,if_true,he]
  simp -implicitDefEqProofs only [RR,RE,aa,zp,↓reduceIte,reduceCtorEq,zq,zr,zs,zt,pe1,aa,lb,d1]
  refine (w67 p f ex c m h1 n1 v1 cs1 (mkB s) w1 (by rw [aW];omega)).mono ?_
  rintro y h2 n2 ⟨rfl,v2,cs2,w2,g2⟩
  have kx2:=kx1.go g2
  have km2:=km1.go g2
  rw [l1]
  simp -implicitDefEqProofs only [RA,aa,zp,↓reduceIte,reduceCtorEq,zq,zr,zs,zt,nm,Ig,↓cw,↓cu]
  refine AC.ice1 (Frz.agg (.keep rfl (.keep rfl (.keep rfl (.cons (Frz.os (es:=[[.int .i64 (s.1.length:Int)],[.int .i64 ((s.1.length:Int)+1)]]) (by rw [ai,if_pos rfl]) (by simp) rfl) rfl (.nil _)))))) ?_
  have gk3:∀ k o,k<n2→af h2 k=some o→af (dZ ((n2,.cells [[.int .i64 (s.1.length:Int)],[.int .i64 ((s.1.length:Int)+1)]].flatten)::h2) n2) k=some o:=fun k o hk ho=>by rw [bY,if_neg (by omega),ai,if_neg (by omega)];exact ho
  have w3:=w2.more (n':=n2+1) (by omega) gk3
  have g3:GrW c h2 n2 v2 cs2 _ (n2+1) v2 cs2:=GrW.refl (by omega) gk3
  have kx3:=kx2.go g3
  have km3:=km2.go g3
  generalize dZ ((n2,AO.cells [[AV.int .i64 (s.1.length:Int)],[.int .i64 ((s.1.length:Int)+1)]].flatten)::h2) n2=h3 at w3 g3 kx3 km3
  refine (w69 p f ex c m h3 (n2+1) v2 cs2 (mkB (mkB s)) w3 o.mk.mk 6 (cg (l.map (exT p kn))) (cP [(s.1.length:Int),(s.1.length:Int)+1]) _ _ (.inl rfl) (.inl rfl)).mono ?_
  rintro y h4 n4 ⟨rfl,v4,cs4,w4,g4⟩
  have kx4:=kx3.go g4
  have km4:=km3.go g4
  generalize hs4:cQ 6 (l.map (exT p kn)) [(s.1.length:Int),(s.1.length:Int)+1] (mkB (mkB s))=s4 at w4
  have hl4:s4.1.length=s.1.length+2:=by rw [← hs4,dn,aW,aW]
  have hM4:SB M s4:=by rw [← hs4];exact hM.mk.mk.en _ _ _
  have st4:=st1 (off:=3) (x:=.int .i64 (s.1.length:Int)) w4.cell (by simp [wrC]) rfl
  obtain ⟨w5,g5⟩:=w4.open (s.1.length:Int) ex
  have kx5:=kx4.go g5
  have km5:=km4.go g5
  have pb5:=bK (off:=5) kx5.at_ rfl
  simp only [smC] at pb5
  simp only [wrC,HG,HH] at st4 w5 g5 kx5 km5 pb5
  simp -implicitDefEqProofs only [RR,RE,aa,zp,↓reduceIte,reduceCtorEq,zq,zr,zs,zt,st4,pb5,aa]
  refine (cb ex _ _ v4 cs4 (opB s.1.length s4) M w5 km5 (Op.at (by omega)) (hM4.op _) (by omega) (by rw [dy];omega)).mono ?_
  rintro y h6 n6 ⟨rfl,v6,cs6,w6,g6⟩
  have kx6:=kx5.go g6
  have km6:=km5.go g6
  have o6:=(dh p kn b ex (opB s.1.length s4)).2.2 (Op.at (by omega))
  generalize slG p kn ex b (opB s.1.length s4)=s6 at w6 o6
  simp -implicitDefEqProofs only [RR,RE,aa,zp,↓reduceIte,reduceCtorEq,zq,zr,zs,zt]
  refine (uq p f ex c m h6 n6 v6 cs6 s6 w6 o6 ((s.1.length:Int)+1)).mono ?_
  rintro y h7 n7 ⟨rfl,v7,cs7,w7,g7⟩
  have st7:=st1 (off:=3) (x:=.int .i64 ((s.1.length:Int)+1)) w7.cell (by simp [wrC]) rfl
  obtain ⟨w8,g8⟩:=w7.open ((s.1.length:Int)+1) ex
  simp only [wrC,HG,HH] at st7 w8 g8
  simp -implicitDefEqProofs only [RR,RE,aa,zp,↓reduceIte,reduceCtorEq,zq,zr,zs,zt,st7,nm,Ig,R61]
  exact ⟨rfl,v7,cs7,w8,g0.trans (g1.trans (g2.trans (g3.trans (g4.trans (g5.trans (g6.trans (g7.trans g8)))))))⟩
 ·rw [stG]
  simp only [Ie,or_self,if_false,if_true,he,Bool.false_eq_true]
  simp -implicitDefEqProofs only [RR,RE,aa,zp,↓reduceIte,reduceCtorEq,zq,zr,zs,zt,pe1,aa,lb,d1]
  refine (w67 p f ex c m h1 n1 v1 cs1 (mkB s) w1 (by rw [aW];omega)).mono ?_
  rintro y hb2 nb2 ⟨rfl,vb2,csb2,wb2,gb2⟩
  have kxb:=kx1.go gb2
  have kmb:=km1.go gb2
  rw [l1]
  simp -implicitDefEqProofs only [RR,RE,aa,zp,↓reduceIte,reduceCtorEq,zq,zr,zs,zt]
  refine (w67 p f ex c m hb2 nb2 vb2 csb2 (mkB (mkB s)) wb2 (by rw [aW,aW];omega)).mono ?_
  rintro y h2 n2 ⟨rfl,v2,cs2,w2,g2⟩
  have kx2:=kxb.go g2
  have km2:=kmb.go g2
  rw [l2]
  have nm2:((s.1.length:Int)+1=-1)=False:=eq_false (by omega)
  have ix:idxA 1 (.os n2 0 3 1 2) 1=some (.op n2 1):=by simp [idxA]
  simp -implicitDefEqProofs only [RA,aa,zp,↓reduceIte,reduceCtorEq,zq,zr,zs,zt,nm2,ix,List.flatten_cons,List.flatten_nil,Ig,↓cw,↓cu]
  refine AC.ice1 (Frz.agg (.keep rfl (.keep rfl (.keep rfl (.cons (Frz.os (es:=[[.int .i64 (s.1.length:Int)],[.int .i64 ((s.1.length:Int)+1)]]) (by rw [ai,if_pos rfl];rfl) (by simp) rfl) rfl (.nil _)))))) ?_
  have gk3:∀ k o,k<n2→af h2 k=some o→af (dZ ((n2,.cells [.int .i64 (s.1.length:Int),.int .i64 ((s.1.length:Int)+1)])::(n2,.cells [.int .i64 (s.1.length:Int),.int .i64 ((s.1.length:Int)+2)])::h2) n2) k=some o:=fun k o hk ho=>by rw [bY,if_neg (by omega),ai,if_neg (by omega),ai,if_neg (by omega)];exact ho
  have w3:=w2.more (n':=n2+1) (by omega) gk3
  have g3:GrW c h2 n2 v2 cs2 _ (n2+1) v2 cs2:=GrW.refl (by omega) gk3
  have kx3:=kx2.go g3
  have km3:=km2.go g3
  generalize dZ ((n2,AO.cells [AV.int .i64 (s.1.length:Int),.int .i64 ((s.1.length:Int)+1)])::(n2,.cells [.int .i64 (s.1.length:Int),.int .i64 ((s.1.length:Int)+2)])::h2) n2=h3 at w3 g3 kx3 km3
  refine (w69 p f ex c m h3 (n2+1) v2 cs2 (mkB (mkB (mkB s))) w3 o.mk.mk.mk 6 (cg (l.map (exT p kn))) (cP [(s.1.length:Int),(s.1.length:Int)+1]) _ _ (.inl rfl) (.inl rfl)).mono ?_
  rintro y h4 n4 ⟨rfl,v4,cs4,w4,g4⟩
  have kx4:=kx3.go g4
  have km4:=km3.go g4
  generalize hs4:cQ 6 (l.map (exT p kn)) [(s.1.length:Int),(s.1.length:Int)+1] (mkB (mkB (mkB s)))=s4 at w4
  have hl4:s4.1.length=s.1.length+3:=by rw [← hs4,dn,aW,aW,aW]
  have hM4:SB M s4:=by rw [← hs4];exact hM.mk.mk.mk.en _ _ _
  have st4:=st1 (off:=3) (x:=.int .i64 (s.1.length:Int)) w4.cell (by simp [wrC]) rfl
  obtain ⟨w5,g5⟩:=w4.open (s.1.length:Int) ex
  have kx5:=kx4.go g5
  have km5:=km4.go g5
  have pb5:=bK (off:=5) kx5.at_ rfl
  simp only [smC] at pb5
  simp only [wrC,HG,HH] at st4 w5 g5 kx5 km5 pb5
  simp -implicitDefEqProofs only [RR,RE,aa,zp,↓reduceIte,reduceCtorEq,zq,zr,zs,zt,st4,pb5,aa]
  refine (cb ex _ _ v4 cs4 (opB s.1.length s4) M w5 km5 (Op.at (by omega)) (hM4.op _) (by omega) (by rw [dy];omega)).mono ?_
  rintro y h6 n6 ⟨rfl,v6,cs6,w6,g6⟩
  have kx6:=kx5.go g6
  have km6:=km5.go g6
  have sl6:=dh p kn b ex (opB s.1.length s4)
  have o6:=sl6.2.2 (Op.at (by omega))
  have hM6:=iM p kn b ex (opB s.1.length s4) M (hM4.op _)
  rw [dy] at sl6
  generalize slG p kn ex b (opB s.1.length s4)=s6 at w6 o6 hM6 sl6
  simp -implicitDefEqProofs only [RR,RE,aa,zp,↓reduceIte,reduceCtorEq,zq,zr,zs,zt]
  refine (uq p f ex c m h6 n6 v6 cs6 s6 w6 o6 ((s.1.length:Int)+2)).mono ?_
  rintro y h7 n7 ⟨rfl,v7,cs7,w7,g7⟩
  have kx7:=kx6.go g7
  have km7:=km6.go g7
  have hl7:=ep ((s.1.length:Int)+2) s6
  have hM7:=hM6.jm ((s.1.length:Int)+2)
  generalize jmp ((s.1.length:Int)+2) s6=s7 at w7 hl7 hM7
  have st7:=st1 (off:=3) (x:=.int .i64 ((s.1.length:Int)+1)) w7.cell (by simp [wrC]) rfl
  obtain ⟨w8,g8⟩:=w7.open ((s.1.length:Int)+1) ex
  have kx8:=kx7.go g8
  have km8:=km7.go g8
  have pb8:=bK (off:=6) kx8.at_ rfl
  simp only [smC] at pb8
  simp only [wrC,HG,HH] at st7 w8 g8 kx8 km8 pb8
  have ec:((s.1.length:Int)+1)=((s.1.length+1:Nat):Int):=by omega
  simp -implicitDefEqProofs only [RR,RE,aa,zp,↓reduceIte,reduceCtorEq,zq,zr,zs,zt,st7,nm2,Ig,pb8,aa]
  refine (ce ex _ _ v7 cs7 (opB ((s.1.length:Int)+1) s7) _ w8 km8 (by rw [ec];exact Op.at (by omega)) (hM7.op _) (by omega) (by rw [dy];omega)).mono ?_
  rintro y h9 n9 ⟨rfl,v9,cs9,w9,g9⟩
  have o9:=(dh p kn e ex (opB ((s.1.length:Int)+1) s7)).2.2 (by rw [ec];exact Op.at (by omega))
  generalize slG p kn ex e (opB ((s.1.length:Int)+1) s7)=s9 at w9 o9
  simp -implicitDefEqProofs only [RR,RE,aa,zp,↓reduceIte,reduceCtorEq,zq,zr,zs,zt]
  refine (uq p f ex c m h9 n9 v9 cs9 s9 w9 o9 ((s.1.length:Int)+2)).mono ?_
  rintro y ha na ⟨rfl,va,csa,wa,ga⟩
  have sta:=st1 (off:=3) (x:=.int .i64 ((s.1.length:Int)+2)) wa.cell (by simp [wrC]) rfl
  obtain ⟨wz,gz⟩:=wa.open ((s.1.length:Int)+2) ex
  simp only [wrC,HG,HH] at sta wz gz
  simp -implicitDefEqProofs only [RR,RE,aa,zp,↓reduceIte,reduceCtorEq,zq,zr,zs,zt,sta,R61]
  exact ⟨rfl,va,csa,wz,g0.trans (g1.trans (gb2.trans (g2.trans (g3.trans (g4.trans (g5.trans (g6.trans (g7.trans (g8.trans (g9.trans (ga.trans gz)))))))))))⟩
theorem rp (i:Int) (s:WSt):(opB i s).2=i:=rfl
theorem w62 (p:Pr) (f ex:Int) (c m:Nat) (kn:List Pm) (h:Heap) (nx:Nat) (v:AV) (cs:List (List AV)) (s:WSt) (w:WS p f ex c m h nx v cs s) (km:KB c h nx v cs m (kO c)) (o:Op s) (wd:Int) (n fn:Nm) (l:List Ex) (b e:List Sm) (M:Nat) (hM:SB M s) (hb:M+dr b≤900000) (hl:s.1.length+3*dr b≤899997) (cb:C68 p f c m kn b) :
  AC Tryz.prog 62 [.op c 0,.agg (smC 5 n fn wd l b e),cg (l.map (exT p kn))] h nx (WP p f ex c m h nx v cs (stG p kn ex (.mk 5 n fn wd l b e) s) (.tup [])):=by
 refine AC.go aj is62 (by simp) ?_
 obtain ⟨w0,g0⟩:=lA p f ex c m h nx v cs s w (smC 5 n fn wd l b e)
 have kx:KB c ((nx,.cells (smC 5 n fn wd l b e))::h) (nx+1) v cs nx (.cells (smC 5 n fn wd l b e)):=⟨by rw [ai,if_pos rfl],by omega,by have:=w.cn;omega,fun hf=>by have:=w.blk.lt hf;omega⟩
 have km0:=km.go g0
 generalize hh0:((nx,AO.cells (smC 5 n fn wd l b e))::h:Heap)=h0 at w0 g0 kx km0
 simp only [smC] at hh0 ⊢
 rw [stG]
 simp only [Ie,or_self,if_false,if_true]
 have l1:((mkB s).1.length:Int)=(s.1.length:Int)+1:=by rw [aW];omega
 have l2:((mkB (mkB s)).1.length:Int)=(s.1.length:Int)+2:=by rw [aW,aW];omega
 simp -implicitDefEqProofs only [RR,RE,aa,zp,↓reduceIte,reduceCtorEq,zq,zr,zs,zt,A62,FJ,↓aT,↓aS,↓aB,↓aA,↓cw,↓cu,hh0]
 refine (w67 p f ex c m h0 (nx+1) v cs s w0 (by omega)).mono ?_
 rintro y h1 n1 ⟨rfl,v1,cs1,w1,g1⟩
 have kx1:=kx.go g1
 have km1:=km0.go g1
 simp -implicitDefEqProofs only [RR,RE,aa,zp,↓reduceIte,reduceCtorEq,zq,zr,zs,zt]
 refine (w67 p f ex c m h1 n1 v1 cs1 (mkB s) w1 (by rw [aW];omega)).mono ?_
 rintro y h2 n2 ⟨rfl,v2,cs2,w2,g2⟩
 have kx2:=kx1.go g2
 have km2:=km1.go g2
 rw [l1]
 simp -implicitDefEqProofs only [RR,RE,aa,zp,↓reduceIte,reduceCtorEq,zq,zr,zs,zt]
 refine (w67 p f ex c m h2 n2 v2 cs2 (mkB (mkB s)) w2 (by rw [aW,aW];omega)).mono ?_
 rintro y h3 n3 ⟨rfl,v3,cs3,w3,g3⟩
 have kx3:=kx2.go g3
 have km3:=km2.go g3
 rw [l2]
 simp -implicitDefEqProofs only [RR,RE,aa,zp,↓reduceIte,reduceCtorEq,zq,zr,zs,zt]
 refine (uq p f ex c m h3 n3 v3 cs3 (mkB (mkB (mkB s))) w3 o.mk.mk.mk (s.1.length:Int)).mono ?_
 rintro y h4 n4 ⟨rfl,v4,cs4,w4,g4⟩
 have kx4:=kx3.go g4
 have km4:=km3.go g4
 generalize hs4:jmp (s.1.length:Int) (mkB (mkB (mkB s)))=s4 at w4
 have hl4:s4.1.length=s.1.length+3:=by rw [← hs4,ep,aW,aW,aW]
 have hM4:SB M s4:=by rw [← hs4];exact hM.mk.mk.mk.jm _
 have st4:=st1 (off:=3) (x:=.int .i64 (s.1.length:Int)) w4.cell (by simp [wrC]) rfl
 obtain ⟨w5,g5⟩:=w4.open (s.1.length:Int) ex
 have kx5:=kx4.go g5
 have km5:=km4.go g5
 simp only [wrC,rp,HG,HH] at st4 w5 g5 kx5 km5
 simp -implicitDefEqProofs only [RR,RE,aa,zp,↓reduceIte,reduceCtorEq,zq,zr,zs,zt,st4,br,↓cw,↓cu]
 refine (w69 p f ex c m _ n4 v4 cs4 (opB s.1.length s4) w5 (Op.at (by omega)) 6 (cg (l.map (exT p kn))) (cP [(s.1.length:Int)+1,(s.1.length:Int)+2]) _ _ (.inl rfl) (.inl rfl)).mono ?_
 rintro y h6 n6 ⟨rfl,v6,cs6,w6,g6⟩
 have kx6:=kx5.go g6
 have km6:=km5.go g6
 generalize hs6:cQ 6 (l.map (exT p kn)) [(s.1.length:Int)+1,(s.1.length:Int)+2] (opB s.1.length s4)=s6 at w6
 have hl6:s6.1.length=s.1.length+3:=by rw [← hs6,dn,dy];exact hl4
 have hM6:SB M s6:=by rw [← hs6];exact (hM4.op _).en _ _ _
 have pe6:=bK (off:=4) w6.cell rfl
 have st6:=st1 (off:=3) (x:=.int .i64 ((s.1.length:Int)+1)) w6.cell (by simp [wrC]) rfl
 obtain ⟨w7,g7⟩:=w6.open ((s.1.length:Int)+1) ex
 have st7:=st1 (off:=4) (x:=.int .i64 ((s.1.length:Int)+2)) w7.cell (by simp [wrC]) rfl
 obtain ⟨w8,g8⟩:=w7.open ((s.1.length:Int)+1) ((s.1.length:Int)+2)
 have kx8:=(kx6.go g7).go g8
 have km8:=(km6.go g7).go g8
 have pb8:=bK (off:=5) kx8.at_ rfl
 simp only [smC] at pb8
 have ec:((s.1.length:Int)+1)=((s.1.length+1:Nat):Int):=by omega
 have op8:Op (opB ((s.1.length:Int)+1) s6):=by rw [ec];exact Op.at (by omega)
 simp only [wrC,rp,HG,HH] at pe6 st6 st7 w8 g7 g8 kx8 km8 pb8
 simp -implicitDefEqProofs only [RR,RE,aa,zp,↓reduceIte,reduceCtorEq,zq,zr,zs,zt,pe6,st6,st7,pb8,aa]
 refine (cb ((s.1.length:Int)+2) _ _ v6 cs6 (opB ((s.1.length:Int)+1) s6) M w8 km8 op8 (hM6.op _) (by omega) (by rw [dy];omega)).mono ?_
 rintro y h9 n9 ⟨rfl,v9,cs9,w9,g9⟩
 have o9:=(dh p kn b ((s.1.length:Int)+2) (opB ((s.1.length:Int)+1) s6)).2.2 op8
 generalize slG p kn ((s.1.length:Int)+2) b (opB ((s.1.length:Int)+1) s6)=s9 at w9 o9
 simp -implicitDefEqProofs only [RR,RE,aa,zp,↓reduceIte,reduceCtorEq,zq,zr,zs,zt]
 refine (uq p f _ c m h9 n9 v9 cs9 s9 w9 o9 (s.1.length:Int)).mono ?_
 rintro y ha na ⟨rfl,va,csa,wa,ga⟩
 have sta:=st1 (off:=3) (x:=.int .i64 ((s.1.length:Int)+2)) wa.cell (by simp [wrC]) rfl
 obtain ⟨wy,gy⟩:=wa.open ((s.1.length:Int)+2) ((s.1.length:Int)+2)
 have sty:=st1 (off:=4) (x:=.int .i64 ex) wy.cell (by simp [wrC]) rfl
 obtain ⟨wz,gz⟩:=wy.open ((s.1.length:Int)+2) ex
 simp only [wrC,rp,HG,HH] at sta sty wz gz gy
 simp -implicitDefEqProofs only [RR,RE,aa,zp,↓reduceIte,reduceCtorEq,zq,zr,zs,zt,sta,sty,R62]
 exact ⟨rfl,va,csa,wz,g0.trans (g1.trans (g2.trans (g3.trans (g4.trans (g5.trans (g6.trans (g7.trans (g8.trans (g9.trans (ga.trans (gy.trans gz)))))))))))⟩
theorem w60 (p:Pr) (op:OkP p) (hck:ckE p=0) (f ex:Int) (c m:Nat) (h:Heap) (nx:Nat) (v:AV) (cs:List (List AV)) (s:WSt) (w:WS p f ex c m h nx v cs s) (hr:rX s) (k wd:Int) (n fn:Nm) (l:List Ex) (b e:List Sm) (t0 t1:Tm) (ha:¬ arI p n<0) :
  AC Tryz.prog 60 [.op c 0,.agg (smC k n fn wd l b e),cg [t0,t1]] h nx (WP p f ex c m h nx v cs (fW ⟨2,[],[],[t1,elT (uJ p n) (vr p n) t0]⟩ s) (.tup [])):=by
 refine AC.go aj is60 (by simp) ?_
 obtain ⟨i,bk,hi,hb,hl⟩:=hr
 obtain ⟨w0,g0⟩:=lA p f ex c m h nx v cs s w (smC k n fn wd l b e)
 obtain ⟨j,a,e1,e2,e3⟩:=iw ha
 have hwa:=mT hck
 obtain ⟨zz,e4,hz0,hz1⟩:=oo op.al hwa e2
 have oal:=op.al
 rw [lT e1 e2,lJ e1 e4]
 have c45:=w45 p (plW p) (vsW p) n t0 j a zz (by omega) e1 e2 e4 (hwa a (G8 e2)) hz0 hz1
 have gc:=w0.cell
 have i0:=ek t0 [t1]
 have i1:=nW t0 t1 []
 rw [← cT] at i0 i1
 have ra:=rl1 (bK (off:=0) gc rfl)
 have rb:cI ((nx,AO.cells (smC k n fn wd l b e))::h) 1 false (.op nx 1)=some (.str n):=rl1 (r:=[.str fn,.int .i64 wd,aR l,ay b,ay e]) (bK (off:=1) (cs:=smC k n fn wd l b e) (by simp [af]) rfl)
 simp only [smC] at w0 g0 ra rb ⊢
 simp -implicitDefEqProofs only [RR,RE,aa,zp,↓reduceIte,reduceCtorEq,zq,zr,zs,zt,A60,FM,↓aT,↓aS,↓aB,↓aA,↓cw,↓cu,i0,i1,ra,rb,aV,aQ,aa]
 refine c45.use fun n2 hn2=>?_
 simp -implicitDefEqProofs only [RR,RE,aa,zp,↓reduceIte,reduceCtorEq,zq,zr,zs,zt,ra,rb,aV,aQ,aa,i0,i1,br]
 refine (yQ p f ex c m _ _ v cs s (w0.more hn2 fun _ _ _ h=>h) ⟨2,[],[],[t1,elT zz a t0]⟩ i bk hi hb hl).mono ?_
 rintro y h2 n3 ⟨rfl,v',cs',w2,g2⟩
 simp -implicitDefEqProofs only [RR,RE,aa,zp,↓reduceIte,reduceCtorEq,zq,zr,zs,zt,R60]
 exact ⟨rfl,v',cs',w2,(g0.trans (GrW.refl hn2 fun _ _ _ h=>h)).trans g2⟩
theorem Dw (k:Int) (n fn:Nm) (w:Int) (l:List Ex) (b e:List Sm):smE (.mk k n fn w l b e)=smC k n fn w l b e:=by rw [cH];rfl
theorem mG:∀ {l:List Sm} {x:Sm},x∈l→nst x≤dr l
 | [],x,h=>by simp at h
 | y::r,x,h=>by
  simp only [dr]
  rcases List.mem_cons.1 h with rfl|h
  ·omega
  ·have:=mG h;omega
theorem lkK {H:Heap} {c m:Nat} (hm:af H m=some (kO c)):fB H .int .nilF false (.mp m) (.int .u8 1)=some (.bm (.func 59) [.op c 0] [])∧fB H .int .nilF false (.mp m) (.int .u8 2)=some (.bm (.func 59) [.op c 0] [])∧fB H .int .nilF false (.mp m) (.int .u8 3)=some (.bm (.func 60) [.op c 0] []) ∧
  fB H .int .nilF false (.mp m) (.int .u8 4)=some (.bm (.func 61) [.op c 0] [])∧fB H .int .nilF false (.mp m) (.int .u8 5)=some (.bm (.func 62) [.op c 0] [])∧fB H .int .nilF false (.mp m) (.int .u8 6)=some (.bm (.func 63) [.op c 0] []) ∧
  fB H .int .nilF false (.mp m) (.int .u8 7)=some (.bm (.func 64) [.op c 0] [])∧fB H .int .nilF false (.mp m) (.int .u8 8)=some (.bm (.func 65) [.op c 0] [])∧fB H .int .nilF false (.mp m) (.int .u8 9)=some (.bm (.func 66) [.op c 0] []):=by
 refine ⟨?_,?_,?_,?_,?_,?_,?_,?_,?_⟩ <;> · simp only [fB,jx,hm,kO,kM];rfl
theorem w68 (p:Pr) (op:OkP p) (hck:ckE p=0) (f:Nat) (c m:Nat) (kn:List Pm) (hf:(vsW p)[f]?=some kn) (hkl:kn.length≤1000000):∀ (N:Nat) (L:List Sm),dr L≤N→∀ (loop:Bool),okL p kn loop L→bS L≤5000→C68 p f c m kn L:=by
 intro N
 induction N with
 | zero =>
  intro L hL loop _ _ ex h nx v cs s M w km o hM hMb hlb
  have hL0:L=[]:=by
   cases L with
   | nil=>rfl
   | cons x r=>cases x;simp only [dr,nst] at hL;omega
  subst hL0
  refine AC.go aj DF (by simp) ?_
  have lv:dt (ay [])=some 0:=rfl
  simp -implicitDefEqProofs only [RA,aa,zp,↓reduceIte,reduceCtorEq,zq,zr,zs,zt,A68,CQ,lv]
  refine aq (fun q st=>q=0∧ab st.env 10=some (.int .i64 0)∧ab st.env 11=some (.int .i64 0)∧st.heap=h∧st.nx=nx∧st.dm=[]) (n:=0) aj ⟨rfl,by simp [ab],by simp [ab],rfl,rfl,rfl⟩ ?_
  rintro q ⟨env,heap,nx',dm⟩ ⟨rfl,g10,g11,gh,gn,hdm⟩
  simp only at g10 g11 gh gn hdm
  subst hdm;subst gh;subst gn
  have hc:((0:Int)<0)=False:=eq_false (by omega)
  simp -implicitDefEqProofs only [RA,aa,zp,↓reduceIte,reduceCtorEq,zq,zr,zs,zt,qV,mY,g10,g11,hc,R68]
  exact ⟨rfl,v,cs,by rw [slG];exact w,GrW.refl (H4 _) fun _ _ _ h=>h⟩
 | succ N ih =>
  intro L hL loop hok hsz ex h nx v cs s M w km o hM hMb hlb
  refine AC.go aj DF (by simp) ?_
  have lv:=aO L
  have hLl:L.length≤5000:=by
   have key:∀ l:List Sm,l.length≤bS l:=by
    intro l
    induction l with
    | nil=>simp [bS]
    | cons x r ih=>have:=lF x;simp only [Hc,bS];omega
   have:=key L;omega
  simp -implicitDefEqProofs only [RA,aa,zp,↓reduceIte,reduceCtorEq,zq,zr,zs,zt,A68,CQ,lv]
  refine aq (fun q st=>∃ (i:Nat) (v1:AV) (cs1:List (List AV)) (s1:WSt) (M1:Nat),q=L.length-i∧i≤L.length∧slG p kn ex (L.drop i) s1=slG p kn ex L s∧ab st.env 0=some (.op c 0)∧ab st.env 9=some (ay L)∧ab st.env 10=some (.int .i64 L.length)∧ab st.env 11=some (.int .i64 i)∧WS p f ex c m st.heap st.nx v1 cs1 s1∧KB c st.heap st.nx v1 cs1 m (kO c)∧GrW c h nx v cs st.heap st.nx v1 cs1∧Op s1∧SB M1 s1∧M1+dr (L.drop i)≤900000∧s1.1.length+3*dr (L.drop i)≤900000∧st.dm=[]) (n:=L.length) aj
   ⟨0,v,cs,s,M,rfl,by omega,by simp,by simp [ab],by simp [ab],by simp [ab],by simp [ab],w,km,GrW.refl (H4 _) fun _ _ _ h=>h,o,hM,hMb,hlb,rfl⟩ ?_
  rintro q ⟨env,heap,nx',dm⟩ ⟨i,v1,cs1,s1,M1,rfl,hi,hres,g0,g9,g10,g11,w1,km1,G1,o1,hM1,hMb1,hlb1,hdm⟩
  simp only at g0 g9 g10 g11 w1 km1 G1 hdm
  subst hdm
  have f1:=wS (i:=i) (by omega)
  by_cases hc:(i:Int)<(L.length:Int)
  case neg =>
   have:L.drop i=[]:=List.drop_of_length_le (by omega)
   rw [this,slG] at hres
   rw [← hres]
   simp -implicitDefEqProofs only [RA,aa,zp,↓reduceIte,reduceCtorEq,zq,zr,zs,zt,qV,mY,g10,g11,hc,R68]
   exact ⟨rfl,v1,cs1,w1,G1⟩
  have hr:=G7 (show i<L.length by omega)
  generalize L[i]=x at hr
  have hmem:=G8 hr
  rw [cG hr,slG] at hres
  have hnd:dr (L.drop i)=nst x+dr (L.drop (i+1)):=by rw [cG hr,dr]
  have ix:=eQ hr
  have gc:=w1.cell
  have a1:(nx'=c)=False:=eq_false (by have:=w1.cn;omega)
  obtain ⟨k,n,fn,wd,l,b,e⟩:=x
  have hokx:=oE hok hmem
  rw [Dw] at ix
  simp only [smC,wrC] at ix gc
  have gk1:∀ q a,q<nx'→af heap q=some a→af ((nx',AO.cells [.int .u8 k,.str n,.str fn,.int .i64 wd,aR l,ay b,ay e])::(nx',.cells [.int .u8 0,.str [],.str [],.int .i64 0,.nilS,.nilS,.nilS])::heap) q=some a:=fun q a hk ho=>by rw [ai,if_neg (by omega),ai,if_neg (by omega)];exact ho
  have wA:=w1.more (n':=nx'+1) (by omega) gk1
  have gA:GrW c heap nx' v1 cs1 _ (nx'+1) v1 cs1:=GrW.refl (by omega) gk1
  rcases ah (s1.2=-1) with ⟨d1',d1⟩|⟨d1',d1⟩
  case inl =>
   rw [if_pos d1'] at hres
   rw [← hres]
   simp -implicitDefEqProofs only [RA,aa,zp,↓reduceIte,reduceCtorEq,zq,zr,zs,zt,qV,mY,g0,g9,g10,g11,hc,ix,gc,a1,d1,R68]
   exact ⟨rfl,v1,cs1,wA,G1.trans gA⟩
  rw [if_neg d1'] at hres
  have kmA:=km1.go gA
  have kx:KB c ((nx',AO.cells [.int .u8 k,.str n,.str fn,.int .i64 wd,aR l,ay b,ay e])::(nx',.cells [.int .u8 0,.str [],.str [],.int .i64 0,.nilS,.nilS,.nilS])::heap) (nx'+1) v1 cs1 nx' (.cells [.int .u8 k,.str n,.str fn,.int .i64 wd,aR l,ay b,ay e]):=⟨by rw [ai,if_pos rfl],by omega,by have:=w1.cn;omega,fun hf=>by have:=w1.blk.lt hf;omega⟩
  have le:=aP l
  obtain ⟨hk,hwf,h3,h6,hokb,hoke⟩:=hokx
  have hszx:=bH hmem
  simp only [szS] at hszx
  have hll:l.length≤5000:=by
   have key:∀ l:List Ex,l.length≤cD l:=by
    intro l
    induction l with
    | nil=>simp [cD]
    | cons x r ih=>cases x;simp only [Hc,cD,szE];omega
   have:=key l;omega
  simp -implicitDefEqProofs only [RA,aa,zp,↓reduceIte,reduceCtorEq,zq,zr,zs,zt,qV,mY,g0,g9,g10,g11,hc,ix,gc,a1,d1,le]
  generalize hH:((nx',AO.cells [AV.int .u8 k,.str n,.str fn,.int .i64 wd,aR l,ay b,ay e])::(nx',.cells [.int .u8 0,.str [],.str [],.int .i64 0,.nilS,.nilS,.nilS])::heap:Heap)=H1 at wA gA kmA kx
  refine fq (fun q st=>∃ (j:Nat) (z:AV),q=l.length-j∧j≤l.length∧ab st.env 0=some (.op c 0)∧ab st.env 5=some (.op nx' 0)∧ab st.env 6=some z∧ab st.env 9=some (ay L)∧ab st.env 10=some (.int .i64 L.length)∧ab st.env 11=some (.int .i64 i)∧ab st.env 21=some (aR l)∧ab st.env 22=some (.int .i64 l.length)∧ab st.env 23=some (.int .i64 j)∧aF 34 6 st.heap st.nx z (((l.take j).map (exT p kn)).map tmE)∧(∀ b,aw z=some b→nx'+1≤b)∧(∀ q a,q<nx'+1→af H1 q=some a→af st.heap q=some a)∧nx'+1≤st.nx∧st.dm=[]) 2
   (fun st=>∃ (z:AV),ab st.env 0=some (.op c 0)∧ab st.env 5=some (.op nx' 0)∧ab st.env 6=some z∧ab st.env 9=some (ay L)∧ab st.env 10=some (.int .i64 L.length)∧ab st.env 11=some (.int .i64 i)∧aF 34 6 st.heap st.nx z ((l.map (exT p kn)).map tmE)∧(∀ b,aw z=some b→nx'+1≤b)∧(∀ q a,q<nx'+1→af H1 q=some a→af st.heap q=some a)∧nx'+1≤st.nx∧st.dm=[]) (n:=l.length) aj
   ⟨0,.nilS,rfl,by omega,by simp [ab,g0],by simp [ab],by simp [ab],by simp [ab,g9],by simp [ab,g10],by simp [ab,g11],by simp [ab],by simp [ab],by simp [ab],.inl ⟨rfl,by simp⟩,by simp [aw],fun q a hq ha=>ha,by simp,rfl⟩ ?_ ?_
  ·rintro q ⟨env2,hp,nx2,dm⟩ ⟨j,z,rfl,hj,e0,e5,e6,e9,e10,e11,e21,e22,e23,hoz,hzb,hkp,hnx2,hdm⟩
   simp only at e0 e5 e6 e9 e10 e11 e21 e22 e23 hoz hkp hnx2 hdm
   subst hdm
   have f2:=wS (i:=j) (by omega)
   by_cases hd:(j:Int)<(l.length:Int)
   case neg =>
    rw [show l.take j=l from Ha (by omega)] at hoz
    simp -implicitDefEqProofs only [RA,aa,zp,↓reduceIte,reduceCtorEq,zq,zr,zs,zt,cr,cL,cM,cN,xX,sf,e0,e5,e6,e9,e10,e11,e22,e23,hd]
    repeat' (first|exact hoz|exact hzb|exact hkp|apply And.intro)
    all_goals first|assumption|rfl|omega|(simp [ab, *];done)
   have hr2:=G7 (show j<l.length by omega)
   generalize l[j]=y at hr2
   have iy:=bA hr2
   have hym:=G8 hr2
   obtain ⟨hwy,hey⟩:=hwf y hym
   have hny:=mH y
   have hsy:=eO hym
   have yl:=bI y
   have yt:=bC y
   have gcI:=hkp c _ (by have:=w1.cn;omega) wA.cell
   have b1:(nx2=c)=False:=eq_false (by have:=w1.cn;omega)
   simp only [wrC] at gcI
   rw [eT] at iy
   simp -implicitDefEqProofs only [RA,aa,zp,↓reduceIte,reduceCtorEq,zq,zr,zs,zt,cr,cL,cM,cN,xX,sf,e0,e5,e6,e9,e10,e11,e21,e22,e23,hd,iy,gcI,b1]
   rw [← eT]
   refine (w21 p op hck f kn hf hkl _ y (H4 _) (by omega) hwy hey).use fun n3 hn3=>?_
   have gk2:∀ b o,b<nx2→af hp b=some o→af ((nx2,AO.cells (exE y))::(nx2,.cells [.int .u8 0,.int .i64 0,.int .u64 0,.str [],.int .u8 0,.nilS])::hp) b=some o:=fun b o hb ho=>by rw [ai,if_neg (by omega),ai,if_neg (by omega)];exact ho
   have ho2:aF 34 6 ((nx2,AO.cells (exE y))::(nx2,.cells [.int .u8 0,.int .i64 0,.int .u64 0,.str [],.int .u8 0,.nilS])::hp) n3 z (((l.take j).map (exT p kn)).map tmE):=hoz.keep (by omega) fun b o hb hg=>gk2 b o (hoz.blk hb).2.2 hg
   have hlt:(l.take j).length≤l.length:=by rw [List.length_take];omega
   obtain ⟨z',h3',n4,ea,ow,hn4,hk3,hb3⟩:=ho2.grw (bytes:=72) (ns:=[tmE (exT p kn y)]) (gv _) (by simp [aV]) (by simp only [He,Hc,Hd];omega) (by simp only [He,Hc,Hd,maxLen];omega)
   simp -implicitDefEqProofs only [RA,aa,zp,↓reduceIte,reduceCtorEq,zq,zr,zs,zt,cr,cL,cM,cN,e0,e5,e6,e9,e10,e11,e21,e22,e23,aV,aQ,ea,f2]
   refine ⟨l.length-(j+1),by omega,j+1,z',rfl,by omega,rfl,rfl,?_,fun b hb=>?_,fun q a hq ha=>hk3 q a (by omega) (gk2 q a (by omega) (hkp q a hq ha)) fun e=>?_,by omega⟩
   ·rw [az hr2,Hk,Hk];exact ow
   ·rcases hb3 b hb with h|h
    ·omega
    ·exact hzb b h
   ·have:=hzb q e;omega
  rintro ⟨env2,hp0,nx2,dm⟩ ⟨z,e0,e5,e6,e9,e10,e11,hoz,hzb,hkp,hnx2,hdm⟩
  simp only at e0 e5 e6 e9 e10 e11 hoz hkp hnx2 hdm
  subst hdm
  obtain ⟨H2,hfz,hk4⟩:=hoz.frz2 (gv _)
  have gk2:∀ q a,q<nx'+1→af H1 q=some a→af H2 q=some a:=fun q a hq ha=>hk4 q a (hkp q a hq ha) fun y e=>by
   have:=hzb q (by rw [e];rfl)
   omega
  have wB:=wA.more hnx2 gk2
  have gB:GrW c H1 (nx'+1) v1 cs1 H2 nx2 v1 cs1:=GrW.refl hnx2 gk2
  have kmB:=kmA.go gB
  have kxB:=kx.go gB
  have rm:=rl1 (bK (off:=5) wB.cell rfl)
  have rk:=rl1 (bK (off:=0) kxB.at_ rfl)
  have rb:cI H2 7 true (.op nx' 0)=some (.agg [.int .u8 k,.str n,.str fn,.int .i64 wd,aR l,ay b,ay e]):=rlA (bK (off:=0) kxB.at_ rfl) rfl
  obtain ⟨k1,k2,k3,k4,k5,k6,k7,k8,k9⟩:=lkK kmB.at_
  refine ⟨6,z,cg (l.map (exT p kn)),H2,e6,hfz,?_⟩
  have ts:=SB.le hM1 (show M1≤1000000 by omega)
  have hrm:rX s1:=Dx o1 hM1 (by omega) d1'
  have smc:smC k n fn wd l b e=[.int .u8 k,.str n,.str fn,.int .i64 wd,aR l,ay b,ay e]:=rfl
  have sl1:=nY p kn (.mk k n fn wd l b e) ex s1
  have sb1:=qZ p kn (.mk k n fn wd l b e) ex s1 M1 hM1
  have hnm:=mG hmem
  simp only [nst] at hnm hnd sl1 sb1
  have next:∀ (h3:Heap) (n3:Nat) (v3:AV) (cs3:List (List AV)),WS p f ex c m h3 n3 v3 cs3 (stG p kn ex (.mk k n fn wd l b e) s1)→GrW c H2 nx2 v1 cs1 h3 n3 v3 cs3 →
    ∃ m_1,m_1<L.length-i∧∃ (i':Nat) (v1':AV) (cs1':List (List AV)) (s1':WSt) (M1':Nat),m_1=L.length-i'∧i'≤L.length∧slG p kn ex (L.drop i') s1'=slG p kn ex L s∧some (AV.int .i64 ((i+1:Nat):Int))=some (.int .i64 (i':Int))∧WS p f ex c m h3 n3 v1' cs1' s1'∧KB c h3 n3 v1' cs1' m (kO c)∧GrW c h nx v cs h3 n3 v1' cs1'∧Op s1'∧SB M1' s1'∧M1'+dr (L.drop i')≤900000∧s1'.1.length+3*dr (L.drop i')≤900000:=by
   intro h3 n3 v3 cs3 w3 g3
   exact ⟨L.length-(i+1),by omega,i+1,v3,cs3,_,_,rfl,by omega,hres,rfl,w3,kmB.go g3,G1.trans (gA.trans (gB.trans g3)),sl1.2.2 o1,sb1,by omega,by omega⟩
  rcases hk with rfl|rfl|rfl|rfl|rfl|rfl|rfl|rfl|rfl
  ·simp -implicitDefEqProofs only [RR,RE,aa,zp,↓reduceIte,reduceCtorEq,zq,zr,zs,zt,e0,e5,e6,e9,e10,e11,rm,rk,rb,k1]
   refine (w59 p f ex c m H2 nx2 v1 cs1 s1 wB 1 wd n fn l b e (l.map (exT p kn)) hrm).mono ?_
   rintro y h3 n3 ⟨rfl,v3,cs3,w3,g3⟩
   simp -implicitDefEqProofs only [RR,RE,aa,zp,↓reduceIte,reduceCtorEq,zq,zr,zs,zt,e0,e5,e6,e9,e10,e11,f1]
   exact next h3 n3 v3 cs3 (by rw [stG];simpa using w3) g3
  ·simp -implicitDefEqProofs only [RR,RE,aa,zp,↓reduceIte,reduceCtorEq,zq,zr,zs,zt,e0,e5,e6,e9,e10,e11,rm,rk,rb,k2]
   refine (w59 p f ex c m H2 nx2 v1 cs1 s1 wB 2 wd n fn l b e (l.map (exT p kn)) hrm).mono ?_
   rintro y h3 n3 ⟨rfl,v3,cs3,w3,g3⟩
   simp -implicitDefEqProofs only [RR,RE,aa,zp,↓reduceIte,reduceCtorEq,zq,zr,zs,zt,e0,e5,e6,e9,e10,e11,f1]
   exact next h3 n3 v3 cs3 (by rw [stG];simpa using w3) g3
  ·obtain ⟨ha,hl2⟩:=h3 rfl
   obtain ⟨x0,x1,rfl⟩:∃ x0 x1,l=[x0,x1]:=by
    match l,hl2 with
    | [a,b],_=>exact ⟨a,b,rfl⟩
   simp -implicitDefEqProofs only [RR,RE,aa,zp,↓reduceIte,reduceCtorEq,zq,zr,zs,zt,e0,e5,e6,e9,e10,e11,rm,rk,rb,k3]
   refine (w60 p op hck f ex c m H2 nx2 v1 cs1 s1 wB hrm 3 wd n fn [x0,x1] b e (exT p kn x0) (exT p kn x1) ha).mono ?_
   rintro y h4 n4 ⟨rfl,v4,cs4,w4,g4⟩
   simp -implicitDefEqProofs only [RR,RE,aa,zp,↓reduceIte,reduceCtorEq,zq,zr,zs,zt,e0,e5,e6,e9,e10,e11,f1]
   exact next h4 n4 v4 cs4 (by rw [stG];simpa [hdT] using w4) g4
  ·simp -implicitDefEqProofs only [RR,RE,aa,zp,↓reduceIte,reduceCtorEq,zq,zr,zs,zt,e0,e5,e6,e9,e10,e11,rm,rk,rb,k4]
   refine (w61 p f ex c m kn H2 nx2 v1 cs1 s1 wB kmB o1 wd n fn l b e M1 hM1 (by omega) (by omega) (ih b (by omega) _ hokb (by omega)) (ih e (by omega) _ hoke (by omega))).mono ?_
   rintro y h4 n4 ⟨rfl,v4,cs4,w4,g4⟩
   simp -implicitDefEqProofs only [RR,RE,aa,zp,↓reduceIte,reduceCtorEq,zq,zr,zs,zt,e0,e5,e6,e9,e10,e11,f1]
   exact next h4 n4 v4 cs4 w4 g4
  ·simp -implicitDefEqProofs only [RR,RE,aa,zp,↓reduceIte,reduceCtorEq,zq,zr,zs,zt,e0,e5,e6,e9,e10,e11,rm,rk,rb,k5]
   refine (w62 p f ex c m kn H2 nx2 v1 cs1 s1 wB kmB o1 wd n fn l b e M1 hM1 (by omega) (by omega) (ih b (by omega) _ hokb (by omega))).mono ?_
   rintro y h4 n4 ⟨rfl,v4,cs4,w4,g4⟩
   simp -implicitDefEqProofs only [RR,RE,aa,zp,↓reduceIte,reduceCtorEq,zq,zr,zs,zt,e0,e5,e6,e9,e10,e11,f1]
   exact next h4 n4 v4 cs4 w4 g4
  ·simp -implicitDefEqProofs only [RR,RE,aa,zp,↓reduceIte,reduceCtorEq,zq,zr,zs,zt,e0,e5,e6,e9,e10,e11,rm,rk,rb,k6]
   refine (w63 p f ex c m H2 nx2 v1 cs1 s1 wB 6 wd n fn l b e (l.map (exT p kn)) o1).mono ?_
   rintro y h3 n3 ⟨rfl,v3,cs3,w3,g3⟩
   simp -implicitDefEqProofs only [RR,RE,aa,zp,↓reduceIte,reduceCtorEq,zq,zr,zs,zt,e0,e5,e6,e9,e10,e11,f1]
   exact next h3 n3 v3 cs3 (by rw [stG];simpa using w3) g3
  ·simp -implicitDefEqProofs only [RR,RE,aa,zp,↓reduceIte,reduceCtorEq,zq,zr,zs,zt,e0,e5,e6,e9,e10,e11,rm,rk,rb,k7]
   refine (w64' p f ex c m H2 nx2 v1 cs1 s1 wB 7 wd n fn l b e (l.map (exT p kn)) hrm).mono ?_
   rintro y h3 n3 ⟨rfl,v3,cs3,w3,g3⟩
   simp -implicitDefEqProofs only [RR,RE,aa,zp,↓reduceIte,reduceCtorEq,zq,zr,zs,zt,e0,e5,e6,e9,e10,e11,f1]
   exact next h3 n3 v3 cs3 (by rw [stG];simpa using w3) g3
  ·simp -implicitDefEqProofs only [RR,RE,aa,zp,↓reduceIte,reduceCtorEq,zq,zr,zs,zt,e0,e5,e6,e9,e10,e11,rm,rk,rb,k8]
   refine (w65 p f ex c m H2 nx2 v1 cs1 s1 wB 8 wd n fn l b e (l.map (exT p kn)) o1).mono ?_
   rintro y h3 n3 ⟨rfl,v3,cs3,w3,g3⟩
   simp -implicitDefEqProofs only [RR,RE,aa,zp,↓reduceIte,reduceCtorEq,zq,zr,zs,zt,e0,e5,e6,e9,e10,e11,f1]
   exact next h3 n3 v3 cs3 (by rw [stG];simpa using w3) g3
  ·simp -implicitDefEqProofs only [RR,RE,aa,zp,↓reduceIte,reduceCtorEq,zq,zr,zs,zt,e0,e5,e6,e9,e10,e11,rm,rk,rb,k9]
   refine (w66 p f ex c m H2 nx2 v1 cs1 s1 wB 9 wd n fn l b e (l.map (exT p kn)) hrm).mono ?_
   rintro y h3 n3 ⟨rfl,v3,cs3,w3,g3⟩
   simp -implicitDefEqProofs only [RR,RE,aa,zp,↓reduceIte,reduceCtorEq,zq,zr,zs,zt,e0,e5,e6,e9,e10,e11,f1]
   exact next h3 n3 v3 cs3 (by rw [stG];simpa using w3) g3
end Go.Proofs.YtgeieafamocnhaaGreatDoor
