/- Arguments of the statements: programs of the intermediate language, numbers, and their sizes; the listed variable. -/
import Derived.Test.YtkhjclmfbmfahaaDoorGQ
import Derived.Test.YtkhjclmfbmfahaaDoorCards
import Derived.Test.YtkhjclmfbmfahaaDoorTie
import Derived.WalkKit
import Derived.OpenShut
import Derived.ShutString
import Derived.ChangeOld
import Derived.Below
import Derived.FnData
import Derived.LaidLaws
import Derived.Deep.DeepHandedRow
import Derived.Deep.DeepWitnessRowRef
import Derived.Deep.CondSized
namespace Go.Proofs.YtkhjclmfbmfahaaDoor
open List renaming getElem?_eq_getElem → D9, getElem?_eq_some_iff → Eb, mem_cons → En, getElem?_map → Ez
set_option maxHeartbeats 64000000
open Go Go.Ab Go.Proofs
open Go.ChangeShapes Go.WideShapes Go.ChangeAt Go.RowKit
set_option linter.unusedVariables false
set_option maxRecDepth 100000
theorem ownK:ownKnob Tryd.prog.godebug=none:=by kernel_rfl
theorem xM:laidOutB Tryd.prog=true:=by kernel_rfl
theorem fJ {n:Nat} {y:List AV} {t:TypeId} {k:IntKind} (hu:Tryd.prog.underlying t=some (.int k)) (h:AT Tryd.prog n t y):∃ a:Int,y=[.int k a]∧(Lit.int k a).wf=true:=by
 cases n with
 | zero=>exact h.elim
 | succ n =>
  simp only [AT,hu] at h
  exact h
theorem Bq {a:Int} (h:(Lit.int .u8 a).wf=true):0≤a∧a<256:=by
 simp [Lit.wf,IntKind.min,IntKind.max,IntKind.signed,IntKind.bits] at h;omega
theorem zJ {a:Int} (h:(Lit.int .u64 a).wf=true):0≤a∧a<18446744073709551616:=by
 simp [Lit.wf,IntKind.min,IntKind.max,IntKind.signed,IntKind.bits] at h;omega
theorem jN {n:Nat} {y:List AV} (h:AT Tryd.prog n 9 y):∃ s:Nm,y=[.str s]:=by
 cases n with
 | zero=>exact h.elim
 | succ n =>
  simp only [AT,Tryd.underlying9] at h
  obtain ⟨s,h1,h2⟩:=h
  exact ⟨s,h1⟩
theorem oY {n:Nat} {y:List AV} {t e:TypeId} {sz:Nat} (hu:Tryd.prog.underlying t=some (.slice e)) (hc:Tryd.prog.cellsOf e=sz) (h:AT Tryd.prog (n+1) t y):∃ es,y=[.lst sz es]∧∀ x∈es,AT Tryd.prog n e x:=by
 simp only [AT,hu] at h
 obtain ⟨es,h1,h2,h3⟩:=h
 rw [hc] at h1
 exact ⟨es,h1,fun x hx=>(h3 x hx).2⟩
theorem mQ {α:Type} {f:α→List AV} {p:α→Prop}:∀ (es:List (List AV)),(∀ x∈es,∃ a,x=f a∧p a)→∃ l:List α,es=l.map f∧∀ a∈l,p a
 | [],_=>⟨[],rfl,by simp⟩
 | e::es,h=>by
  obtain ⟨l,hl,hp⟩:=mQ es fun x hx=>h x (List.mem_cons_of_mem _ hx)
  obtain ⟨a,ha,hq⟩:=h e List.mem_cons_self
  exact ⟨a::l,by rw [hl,ha];rfl,fun b hb=>by
   rcases En.1 hb with e|e
   ·subst e;exact hq
   ·exact hp b e⟩
theorem ml {n:Nat} {y:List AV} {t e:TypeId} {sz:Nat} {α:Type} {f:α→List AV} {p:α→Prop} (hu:Tryd.prog.underlying t=some (.slice e)) (hc:Tryd.prog.cellsOf e=sz) (hf:∀ (n:Nat) (x:List AV),AT Tryd.prog n e x→∃ a,x=f a∧p a) (h:AT Tryd.prog n t y):∃ l:List α,y=[.lst sz (l.map f)]∧∀ a∈l,p a:=by
 cases n with
 | zero=>exact h.elim
 | succ n =>
  obtain ⟨es,rfl,hes⟩:=oY hu hc h
  obtain ⟨l,rfl,hp⟩:=mQ (f:=f) (p:=p) es fun x hx=>hf n x (hes x hx)
  exact ⟨l,rfl,hp⟩
theorem BC {k w b:Int} {n:Nm} {lo:Int} {l:List Tm} (hk:kdN (.mk k w b n lo l)) (hl:∀ x∈l,kdT x):kdT (.mk k w b n lo l):=by
 intro y hy
 rw [eY] at hy
 rcases En.1 hy with e|e
 ·subst e;exact hk
 ·have key:∀ m:List Tm,(∀ x∈m,kdT x)→y∈bP m→kdN y:=by
   intro m
   induction m with
   | nil=>intro _ h;simp [bP] at h
   | cons a r ih =>
    intro hm h
    rw [bP] at h
    rcases List.mem_append.1 h with e|e
    ·exact hm a (by simp) y e
    ·exact ih (fun x hx=>hm x (List.mem_cons_of_mem _ hx)) e
  exact key l hl e
theorem p8:∀ n:Nat,(∀ y,AT Tryd.prog n 90 y→∃ x:Tm,y=tmE x∧kdT x)∧(∀ y,AT Tryd.prog n 43 y→∃ l:List Tm,y=[br l]∧∀ x∈l,kdT x)
 | 0=>⟨fun y h=>h.elim,fun y h=>h.elim⟩
 | n+1=>by
  obtain ⟨ih1,ih2⟩:=p8 n
  refine ⟨fun y h=>?_,fun y h=>?_⟩
  ·simp only [AT,Tryd.underlying90] at h
   obtain ⟨y1,z1,rfl,h1,y2,z2,rfl,h2,y3,z3,rfl,h3,y4,z4,rfl,h4,y5,z5,rfl,h5,y6,z6,rfl,h6,h7⟩:=h
   subst h7
   obtain ⟨k,rfl,r1⟩:=fJ Tryd.underlying5 h1
   obtain ⟨w,rfl,_⟩:=fJ Tryd.underlying3 h2
   obtain ⟨b,rfl,r2⟩:=fJ Tryd.underlying56 h3
   obtain ⟨nm,rfl⟩:=jN h4
   obtain ⟨o,rfl,_⟩:=fJ Tryd.underlying3 h5
   obtain ⟨l,rfl,hl⟩:=ih2 _ h6
   have r1:=Bq r1
   have r2:=zJ r2
   exact ⟨.mk k w b nm o l,by rw [iG];rfl,BC ⟨r1.1,r1.2,r2.1,r2.2⟩ hl⟩
  ·obtain ⟨es,rfl,hes⟩:=oY Tryd.underlying43 (show Tryd.prog.cellsOf 90=6 by kernel_rfl) h
   obtain ⟨l,rfl,hl⟩:=mQ (f:=tmE) (p:=kdT) es fun x hx=>ih1 x (hes x hx)
   exact ⟨l,rfl,hl⟩
theorem CB (n:Nat) (y:List AV) (h:AT Tryd.prog n 77 y):∃ s:St,y=stE s∧∀ t∈s.terms,kdT t:=by
 cases n with
 | zero=>exact h.elim
 | succ n =>
  simp only [AT,Tryd.underlying77] at h
  obtain ⟨y1,z1,rfl,h1,y2,z2,rfl,h2,y3,z3,rfl,h3,y4,z4,rfl,h4,h5⟩:=h
  subst h5
  obtain ⟨k,rfl,_⟩:=fJ Tryd.underlying5 h1
  obtain ⟨v,rfl⟩:=jN h2
  obtain ⟨f,rfl⟩:=jN h3
  obtain ⟨l,rfl,hl⟩:=(p8 n).2 _ h4
  exact ⟨⟨k,v,f,l⟩,rfl,hl⟩
theorem AI (n:Nat) (y:List AV) (h:AT Tryd.prog n 3 y):∃ a:Int,y=inE a∧True:=by
 obtain ⟨a,h1,_⟩:=fJ Tryd.underlying3 h
 exact ⟨a,h1,trivial⟩
theorem CD (n:Nat) (y:List AV) (h:AT Tryd.prog n 48 y):∃ b:Bk,y=bkE b∧(∀ s∈b.steps,∀ t∈s.terms,kdT t)∧∀ t∈b.terms,kdT t:=by
 cases n with
 | zero=>exact h.elim
 | succ n =>
  simp only [AT,Tryd.underlying48] at h
  obtain ⟨y1,z1,rfl,h1,y2,z2,rfl,h2,h3⟩:=h
  subst h3
  obtain ⟨ss,rfl,hs⟩:=ml (f:=stE) (p:=fun s=>∀ t∈s.terms,kdT t) Tryd.underlying42 (show Tryd.prog.cellsOf 77=4 by kernel_rfl) CB h1
  cases n with
  | zero=>exact h2.elim
  | succ n =>
   simp only [AT,Tryd.underlying46] at h2
   obtain ⟨x1,w1,rfl,g1,x2,w2,rfl,g2,x3,w3,rfl,g3,x4,w4,rfl,g4,g5⟩:=h2
   subst g5
   obtain ⟨k,rfl,_⟩:=fJ Tryd.underlying5 g1
   obtain ⟨f,rfl⟩:=jN g2
   obtain ⟨l,rfl,hl⟩:=(p8 n).2 _ g3
   obtain ⟨to,rfl,_⟩:=ml (f:=inE) (p:=fun _=>True) Tryd.underlying44 (show Tryd.prog.cellsOf 3=1 by kernel_rfl) AI g4
   exact ⟨⟨ss,k,f,l,to⟩,rfl,hs,hl⟩
theorem y7 (n:Nat) (y:List AV) (h:AT Tryd.prog n 40 y):∃ v:Pm,y=pmE v∧True:=by
 cases n with
 | zero=>exact h.elim
 | succ n =>
  simp only [AT,Tryd.underlying40] at h
  obtain ⟨y1,z1,rfl,h1,y2,z2,rfl,h2,h3⟩:=h
  subst h3
  obtain ⟨nm,rfl⟩:=jN h1
  obtain ⟨w,rfl,_⟩:=fJ Tryd.underlying3 h2
  exact ⟨(nm,w),rfl,trivial⟩
def kdF (f:Fn):Prop:=∀ b∈f.blocks,(∀ s∈b.steps,∀ t∈s.terms,kdT t)∧∀ t∈b.terms,kdT t
theorem CC (n:Nat) (y:List AV) (h:AT Tryd.prog n 37 y):∃ f:Fn,y=fnE f∧kdF f:=by
 cases n with
 | zero=>exact h.elim
 | succ n =>
  simp only [AT,Tryd.underlying37] at h
  obtain ⟨y1,z1,rfl,h1,y2,z2,rfl,h2,y3,z3,rfl,h3,y4,z4,rfl,h4,y5,z5,rfl,h5,h6⟩:=h
  subst h6
  obtain ⟨nm,rfl⟩:=jN h1
  obtain ⟨ps,rfl,_⟩:=ml (f:=pmE) (p:=fun _=>True) Tryd.underlying34 (show Tryd.prog.cellsOf 40=2 by kernel_rfl) y7 h2
  obtain ⟨r,rfl,_⟩:=fJ Tryd.underlying3 h3
  obtain ⟨ls,rfl,_⟩:=ml (f:=pmE) (p:=fun _=>True) Tryd.underlying34 (show Tryd.prog.cellsOf 40=2 by kernel_rfl) y7 h4
  obtain ⟨bs,rfl,hb⟩:=ml (f:=bkE) (p:=fun b=>(∀ s∈b.steps,∀ t∈s.terms,kdT t)∧∀ t∈b.terms,kdT t) Tryd.underlying35 (show Tryd.prog.cellsOf 48=5 by kernel_rfl) CD h5
  exact ⟨⟨nm,ps,r,ls,bs⟩,rfl,hb⟩
theorem xy {n:Nat} {y:List AV} (h:AT Tryd.prog n 24 y):∃ P:Pi,y=piE P∧kdI P:=by
 cases n with
 | zero=>exact h.elim
 | succ n =>
  simp only [AT,Tryd.underlying24] at h
  obtain ⟨y1,z1,rfl,h1,h2⟩:=h
  subst h2
  obtain ⟨fs,rfl,hf⟩:=ml (f:=fnE) (p:=kdF) Tryd.underlying22 (show Tryd.prog.cellsOf 37=5 by kernel_rfl) CC h1
  exact ⟨fs,rfl,hf⟩
theorem uz {n:Nat} {x:AV} (h:AT Tryd.prog n 3 [x]):∃ a:Int,x=.int .i64 a:=by
 obtain ⟨a,h1,_⟩:=fJ Tryd.underlying3 h
 exact ⟨a,by simpa using h1⟩
mutual
theorem Cw:∀ x:Tm,szT x≤cF (tmE x)
 | .mk k w b n o s=>by
  have:=p7 s
  simp only [tmE,szT,cF,avz];omega
theorem p7:∀ l:List Tm,bF l≤fG (pp l)
 | []=>by simp [bF]
 | x::r=>by
  have:=Cw x
  have:=p7 r
  simp only [pp,bF,fG];omega
end
theorem rY (l:List Tm):bF l≤fG (l.map tmE):=by have:=p7 l;rwa [kx] at this
theorem nc {α:Type} {f:α→List AV} (h:∀ a,1≤cF (f a)):∀ l:List α,l.length≤fG (l.map f)
 | []=>by simp
 | x::r=>by
  have:=nc h r
  have:=h x
  simp only [List.map_cons,List.length_cons,fG];omega
theorem nb {α:Type} {f:α→List AV} {g:α→Nat} (h:∀ a,g a≤cF (f a)):∀ l:List α,bu g l≤fG (l.map f)
 | []=>by simp [bu]
 | x::r=>by
  have:=nb h r
  have:=h x
  simp only [List.map_cons,bu,fG];omega
theorem Cx (s:St):szS s≤cF (stE s):=by
 have:=rY s.terms
 simp only [szS,stE,br,cF,avz];omega
theorem CA (b:Bk):szB b≤cF (bkE b):=by
 have h1:=nb Cx b.steps
 have h2:=rY b.terms
 have h3:=nc (f:=inE) (fun a=>by simp [inE,cF,avz]) b.to
 simp only [szB,iZ,bkE,iK,br,cL,cF,avz];omega
theorem Cz (f:Fn):szF f≤cF (fnE f):=by
 have h1:=nb CA f.blocks
 have h2:=nc (f:=pmE) (fun a=>by simp [pmE,cF,avz]) f.params
 have h3:=nc (f:=pmE) (fun a=>by simp [pmE,cF,avz]) f.locals
 simp only [szF,fnE,bj,cg,cF,avz];omega
theorem Cy (P:Pi):szI P≤cF (piE P):=by
 have h1:=nb Cz P
 simp only [szI,piE,cr,cF,avz];omega
def jd:List (Nm × Int × Int):=[([],0,0),([],0,0),([],0,0),([110,111,116],1,1),([110,101,103],1,1),([97,100,100],2,1),([115,117,98],2,1),([109,117,108],2,1),([97,110,100],2,1),([111,114],2,1),([120,111,114],2,1),([115,104,108],2,1),([115,104,114],2,1),([115,97,114],2,1),([117,100,105,118],2,1),([117,114,101,109],2,1),([101,113],2,2),([117,108,116],2,2),([115,108,116],2,2),([105,116,101],3,3),([99,111,110,99,97,116],2,4),([101,120,116,114,97,99,116],1,5),([122,101,120,116],1,6),([115,101,120,116],1,6),([108,111,97,100],1,7)]
theorem xV:GL 0=some (jd.map fun r=>[AV.str r.1,.int .i64 r.2.1,.int .i64 r.2.2]).flatten:=rfl
theorem tf:(Rows.laid_retarget_term_shapes:DataW Unit)=.agg (jd.map fun r=>.agg [.lit (.string r.1),.lit (.int .i64 r.2.1),.lit (.int .i64 r.2.2)]):=rfl
theorem rI:Tryd.prog.globalNamed "retarget/term.shapes" = some 0:=by kernel_rfl
theorem oH:(Tryd.prog.globals[0]?).map (·.type)=some 136:=by kernel_rfl
theorem Az:Tryd.prog.cellsOf 9=1:=by kernel_rfl
theorem AA:Tryd.prog.cellsOf 3=1:=by kernel_rfl
theorem oS:Tryd.prog.cellsOf 128=3:=by kernel_rfl
section
variable {w:World} {base:Nat} {spare:Nat→Bool} {held:Bool}
theorem sL {fuel:Nat} {cs:List Value} {a:Nm} {b c:Int} {p:List MemPlace} (h:DataW.trod (fun _=>()) Tryd.prog w base spare held fuel 128 cs=some (.agg [.lit (.string a),.lit (.int .i64 b),.lit (.int .i64 c)],p)) :
  ∃ s:ByteArray,cs=[.string s,.int .i64 b,.int .i64 c]∧s.data.toList=a:=by
 obtain ⟨xs,m,rfl,hx,hl,hn,hf⟩:=DataW.trod_struct Tryd.underlying128 h
 rw [oS] at hl
 obtain ⟨v0,v1,v2,rfl⟩:∃ v0 v1 v2,cs=[v0,v1,v2]:=by
  match cs,hl with
  | [v0,v1,v2],_=>exact ⟨_,_,_,rfl⟩
 simp only [Prod.mk.injEq,DataW.agg.injEq] at hx
 obtain ⟨hx,_⟩:=hx
 have hg:∀ i:Nat,(xs.map (·.1))[i]?=([.lit (.string a),.lit (.int .i64 b),.lit (.int .i64 c)]:List (DataW Unit))[i]?:=fun i=>by rw [← hx]
 have h0:=hf 0 { name := "word",type:=9,offset:=0,embedded:=false,tag := "",pkgPath := "retarget/term",byteOffset:=0 } rfl
 have h1:=hf 1 { name := "parts",type:=3,offset:=1,embedded:=false,tag := "",pkgPath := "retarget/term",byteOffset:=16 } rfl
 have h2:=hf 2 { name := "how",type:=3,offset:=2,embedded:=false,tag := "",pkgPath := "retarget/term",byteOffset:=24 } rfl
 dsimp only at h0 h1 h2
 rw [Az] at h0
 rw [AA] at h1 h2
 simp only [List.drop_zero,List.take_succ_cons,List.take_zero,List.drop_succ_cons] at h0 h1 h2
 have g0:=hg 0
 have g1:=hg 1
 have g2:=hg 2
 rw [Ez] at g0 g1 g2
 cases e0:xs[0]? with
 | none=>rw [e0] at g0;cases g0
 | some x0 =>
 cases e1:xs[1]? with
 | none=>rw [e1] at g1;cases g1
 | some x1 =>
 cases e2:xs[2]? with
 | none=>rw [e2] at g2;cases g2
 | some x2 =>
 rw [e0] at h0 g0
 rw [e1] at h1 g1
 rw [e2] at h2 g2
 obtain ⟨s,q0,r0,_⟩:=DataW.trod_string Tryd.underlying9 h0
 obtain ⟨n1,q1,r1,_⟩:=DataW.trod_int Tryd.underlying3 h1
 obtain ⟨n2,q2,r2,_⟩:=DataW.trod_int Tryd.underlying3 h2
 subst r0;subst r1;subst r2
 simp at g0 g1 g2 q0 q1 q2
 subst g1;subst g2;subst q0;subst q1;subst q2
 exact ⟨s,rfl,g0⟩
theorem uf {fuel:Nat} {cs:List Value} {p:List MemPlace} (h:DataW.trod (fun _=>()) Tryd.prog w base spare held fuel 136 cs=some (Rows.laid_retarget_term_shapes,p)) {i:Nat} {r:Nm × Int × Int} (hr:jd[i]?=some r) :
  ∃ s:ByteArray,(cs.drop (i*3)).take 3=[.string s,.int .i64 r.2.1,.int .i64 r.2.2]∧s.data.toList=r.1:=by
 obtain ⟨xs,m,rfl,hx,hl,hn,hf⟩:=DataW.trod_array Tryd.underlying136 h
 rw [tf] at hx
 simp only [Prod.mk.injEq,DataW.agg.injEq] at hx
 obtain ⟨hx,_⟩:=hx
 have hi:i<25:=by
  have:=(Eb.1 hr).1
  exact this
 have hg:(xs.map (·.1))[i]?=some (.agg [.lit (.string r.1),.lit (.int .i64 r.2.1),.lit (.int .i64 r.2.2)]):=by rw [← hx,Ez,hr];rfl
 rw [Ez] at hg
 have h1:=hf i hi
 rw [oS] at h1
 cases e:xs[i]? with
 | none=>rw [e] at hg;cases hg
 | some x =>
  rw [e] at hg h1
  obtain ⟨d,ps⟩:=x
  simp only [Option.map_some,Option.some.injEq] at hg
  subst hg
  exact sL h1
end
theorem xL {W:World} {laid:List (String × DataW Unit)} (hlaid:laid=[("retarget/term.shapes",Rows.laid_retarget_term_shapes)]) (h:laidMet Tryd.prog laid W):GlR (wd0 W) 0:=by
 subst hlaid
 obtain ⟨ps,⟨g',t',cs,fuel,p,q,hg',ht',hvar,hd,_,_⟩,_⟩:=h
 obtain rfl:=Option.some.inj (rI.symm.trans hg')
 obtain rfl:=Option.some.inj (oH.symm.trans ht')
 intro g gcs hgl
 have hg0:g=0:=by
  unfold GL at hgl
  split at hgl
  ·assumption
  ·cases hgl
 subst hg0
 rw [xV] at hgl
 simp only [Option.some.injEq] at hgl
 subst hgl
 have hall:∀ z∈jd.map fun r=>[AV.str r.1,.int .i64 r.2.1,.int .i64 r.2.2],z.length=3:=fun z hz=>by
  obtain ⟨r,_,rfl⟩:=List.mem_map.1 hz;rfl
 have hlen:(jd.map fun r=>[AV.str r.1,.int .i64 r.2.1,.int .i64 r.2.2]).flatten.length=75:=rfl
 have key:∀ j,j<75→∃ (r:Nm × Int × Int) (s:ByteArray) (v:Value) (x:AV),jd[j / 3]?=some r∧s.data.toList=r.1∧cs[j]?=some v∧([.string s,.int .i64 r.2.1,.int .i64 r.2.2]:List Value)[j % 3]?=some v∧([AV.str r.1,.int .i64 r.2.1,.int .i64 r.2.2])[j % 3]?=some x∧(jd.map fun r=>[AV.str r.1,.int .i64 r.2.1,.int .i64 r.2.2]).flatten[j]?=some x:=by
  intro j hj
  have hjl:j / 3<jd.length:=by show j / 3<25;omega
  obtain ⟨r,hr⟩:∃ r,jd[j / 3]?=some r:=⟨_,D9 hjl⟩
  obtain ⟨s,h1,h2⟩:=uf hd hr
  have hm:j % 3<3:=Nat.mod_lt _ (by omega)
  have hj3:j / 3*3+j % 3=j:=by omega
  have hv:(cs.toList)[j]?=([.string s,.int .i64 r.2.1,.int .i64 r.2.2]:List Value)[j % 3]?:=by
   rw [← h1,List.getElem?_take,if_pos hm,List.getElem?_drop,hj3]
  have e1:=D9 (l:=([.string s,.int .i64 r.2.1,.int .i64 r.2.2]:List Value)) (show j % 3<3 from hm)
  have e2:=D9 (l:=[AV.str r.1,.int .i64 r.2.1,.int .i64 r.2.2]) (show j % 3<3 from hm)
  refine ⟨r,s,_,_,hr,h2,?_,e1,e2,?_⟩
  ·rw [← e1,← hv];simp
  ·have:=fC hall (j / 3) _ (by rw [Ez,hr];rfl) (j % 3) _ e2
   rwa [hj3] at this
 refine .fp _ _ (fun j=>cs[j]?.getD undef) (fun j x hx=>?_) (fun k hk=>?_) (fun j x hx=>?_)
 ·have hj:j<75:=by rw [← hlen];exact (Eb.1 hx).1
  obtain ⟨r,s,v,y,h1,h2,h3,h4,h5,h6⟩:=key j hj
  rw [h6] at hx
  cases hx
  match hq:j % 3,h5 with
  | 0,h5=>simp at h5;subst h5;rfl
  | 1,h5=>simp at h5;subst h5;rfl
  | 2,h5=>simp at h5;subst h5;rfl
  | k+3,h5=>omega
 ·rw [hlen] at hk
  obtain ⟨r,s,v,y,h1,h2,h3,h4,h5,h6⟩:=key k hk
  have hc:=World.var?_cell rI hvar k
  rw [h3] at hc
  have hc2:(wd0 W).w.cell? ((⟨0,0,none⟩:Addr).add k)=some v:=by rw [cH,Nat.zero_add];exact hc
  exact ⟨by rw [h3];exact hc2,Old.wd0 W _ _ (mX hc2)⟩
 ·have hj:j<75:=by rw [← hlen];exact (Eb.1 hx).1
  obtain ⟨r,s,v,y,h1,h2,h3,h4,h5,h6⟩:=key j hj
  rw [h6] at hx
  cases hx
  rw [h3]
  match hq:j % 3,h4,h5 with
  | 0,h4,h5=>simp at h4 h5;subst h4;subst h5;exact .str _ _ h2
  | 1,h4,h5=>simp at h4 h5;subst h4;subst h5;exact .int _ _
  | 2,h4,h5=>simp at h4 h5;subst h4;subst h5;exact .int _ _
  | k+3,h4,h5=>omega
noncomputable def jK (os:Os):World :=
 let w0:=World.holding Tryd.prog os ⟨#[],#[],[]⟩
 { w0 with heap:=w0.heap.modify 0 fun
   | .cells _ t frozen=>.cells #[.string ⟨#[]⟩,.int .i64 0,.int .i64 0,.string ⟨#[]⟩,.int .i64 0,.int .i64 0,.string ⟨#[]⟩,.int .i64 0,.int .i64 0,.string ⟨#[110,111,116]⟩,.int .i64 1,.int .i64 1,.string ⟨#[110,101,103]⟩,.int .i64 1,.int .i64 1,.string ⟨#[97,100,100]⟩,.int .i64 2,.int .i64 1,.string ⟨#[115,117,98]⟩,.int .i64 2,.int .i64 1,.string ⟨#[109,117,108]⟩,.int .i64 2,.int .i64 1,.string ⟨#[97,110,100]⟩,.int .i64 2,.int .i64 1,.string ⟨#[111,114]⟩,.int .i64 2,.int .i64 1,.string ⟨#[120,111,114]⟩,.int .i64 2,.int .i64 1,.string ⟨#[115,104,108]⟩,.int .i64 2,.int .i64 1,.string ⟨#[115,104,114]⟩,.int .i64 2,.int .i64 1,.string ⟨#[115,97,114]⟩,.int .i64 2,.int .i64 1,.string ⟨#[117,100,105,118]⟩,.int .i64 2,.int .i64 1,.string ⟨#[117,114,101,109]⟩,.int .i64 2,.int .i64 1,.string ⟨#[101,113]⟩,.int .i64 2,.int .i64 2,.string ⟨#[117,108,116]⟩,.int .i64 2,.int .i64 2,.string ⟨#[115,108,116]⟩,.int .i64 2,.int .i64 2,.string ⟨#[105,116,101]⟩,.int .i64 3,.int .i64 3,.string ⟨#[99,111,110,99,97,116]⟩,.int .i64 2,.int .i64 4,.string ⟨#[101,120,116,114,97,99,116]⟩,.int .i64 1,.int .i64 5,.string ⟨#[122,101,120,116]⟩,.int .i64 1,.int .i64 6,.string ⟨#[115,101,120,116]⟩,.int .i64 1,.int .i64 6,.string ⟨#[108,111,97,100]⟩,.int .i64 1,.int .i64 7] t frozen
   | o=>o }
noncomputable def rZ:Array Value:=#[.agg #[.slice none 0 0],.int .i64 0]
theorem uX (os:Os):laidMet Tryd.prog Rows.flowLoopsUptoRow.laid ((jK os).forCall (fun _ _=>0) ⟨#[],rZ,[]⟩).memory :=
 laidMet_of_run' 8 (by kernel_rfl) (by kernel_rfl)
theorem Bt (os:Os) {H:Type} (enc:TypeId × Value→H):∃ places,DataW.whole enc Tryd.prog ((jK os).forCall (fun _ _=>0) ⟨#[],rZ,[]⟩).memory Tryd.f3.params.toList Rows.flowLoopsSpec.vars false rZ.toList 8=some ([.agg [.nil],.lit (.int .i64 0)],[],places) :=
 ⟨[],by kernel_rfl⟩
set_option maxRecDepth 100000 in
theorem jM (os:Os) (started:os.Started) (H:Type) (enc:TypeId × Value→H) (F:Stop.Interp) :
  ReturnsInHanded {} Tryd.checked os 3 .any ((Rows.OpenSpec.upto Rows.flowLoopsSpec).preRow enc Tryd.prog Tryd.f3 Rows.flowLoopsUptoRow.domain false Rows.flowLoopsUptoRow.laid) (((Rows.OpenSpec.upto Rows.flowLoopsSpec).at F).post enc Tryd.prog Tryd.f3 false true false false):=by
 obtain ⟨places,hx⟩:=Bt os enc
 refine returnsInHanded_of_row (C:=Tryd.checked) (s:=Rows.OpenSpec.upto Rows.flowLoopsSpec) ownK started (by kernel_rfl) Tryd.func3
  (witness_row_atRef (enc:=enc) (C:=Tryd.checked) false (jK os) rZ rfl (by kernel_rfl) (by kernel_rfl) (by kernel_rfl)
   (OpenSpec.preRow_of_cond 8 hx (by kernel_rfl) (fun k hk=>by cases hk;kernel_rfl) (by kernel_rfl) (uX os))) ?_
 intro W base args ds gs before hval0 hW _ hcond _ hL _ _
 have hval:∀ (j:Nat) t v,Tryd.f3.params[j]?=some t→args[j]?=some v→Value.okWide Tryd.prog W .any base t v:=hval0
 have hbk:Rows.uptoSmall H (ds++gs)=true:=hcond _ rfl
 have hgl:=xL rfl hL
 have hW':=hW
 obtain ⟨p,q,hA0,hV,rfl,hfz,hnd⟩:=hW
 have hA:DataW.TrodAll enc Tryd.prog W 0 (fun _=>true) true Tryd.f3.params.toList args.toList ds p:=hA0
 have hB:∀ W',Below W.heap.size W W'→DataW.TrodAll enc Tryd.prog W' 0 (fun b=>decide (b<W.heap.size)) true Tryd.f3.params.toList args.toList ds p:=fun W' bel=>mj xM bel _ _ _ _ (by kernel_rfl) hA
 rw [Tryd.params3] at hA hval hB
 obtain ⟨v0,vs0,d0,ds0,p0,q0,hargs,rfl,rfl,h0,r0⟩:=trodAll_cons hA
 obtain ⟨v1,vs1,d1,ds1,p1,q1,rfl,rfl,rfl,h1,r1⟩:=trodAll_cons r0
 obtain ⟨rfl,rfl,rfl⟩:=trodAll_nil r1
 obtain rfl:args=#[v0,v1]:=by cases args;simp_all
 obtain ⟨rfl,rfl⟩:=trodVars_none hV
 have hb:=of_decide_eq_true hbk
 simp only [List.append_nil,Rows.uptoBulkAll] at hb
 obtain ⟨c0,rfl,_⟩:=okWide_struct Tryd.underlying24 (hval 0 24 v0 rfl rfl)
 have n1:∀ c,v1≠.agg c:=by obtain ⟨_,e⟩:=okWide_int Tryd.underlying3 (hval 1 3 v1 rfl rfl);intro c;rw [e];simp
 obtain ⟨f0,x0,a0,wv0,b0⟩:=vL (S:=[24,22,37,9,34,40,3,35,48,42,77,5,43,90,56,46,44]) (by kernel_rfl) (by decide) h0
 obtain ⟨f1,x1,a1,wv1,b1⟩:=vK (S:=[3]) (by kernel_rfl) (by decide) n1 h1
 obtain ⟨y0,rfl,hk0⟩:=xy a0
 obtain ⟨y1,rfl⟩:=uz a1
 have s0:=Cy y0
 refine (te (xs:=[.agg (piE y0),.int .i64 y1]) (((w203 y0 y1 (by omega) hk0) [] 0).mono fun y h' n' h=>h.1) (mm wv0 (mm wv1 vM)) hgl).mono fun e W' ⟨he,bel⟩=>?_
 subst he
 exact ⟨_,rfl,_,_,_,[],_,[],hW',trodAll_mk1 (shut_bool Tryd.underlying4 _),hB W' bel,rfl,bel.frame _,fun h=>by cases h⟩
theorem iP:Rows.FlowLoopsUptoSaid :=
 OpenClaim.holds_of_cond 3 Tryd.f3 rfl rfl rfl rfl rfl rfl rfl ⟨rfl,rfl,rfl,rfl,rfl⟩ rfl rfl rfl rfl rfl (by kernel_rfl) Tryd.func3 (by kernel_rfl)
  (of_decide_eq_true (by kernel_rfl)) (by unfold Func.isWrapper;first|(rw [if_pos (by decide +kernel)];kernel_rfl)|(rw [if_neg (by decide +kernel)];exact ⟨rfl,rfl⟩))
  (fun os started H enc _ F=>by rw [OpenClaim.pre_eq_preRow];exact jM os started H enc F)
theorem z9 (f:FuncId) (fn:Func) (hf:Tryd.pinned.checked.prog.funcNamed "retarget/retargetlaw22.FlowLoops" = some f) (hfn:Tryd.pinned.checked.prog.funcs[f]?=some fn) :
  false=Tryd.pinned.checked.prog.looks []∧∀ (j:Nat) t,fn.params[j]?=some t→Tryd.pinned.checked.prog.wantsStandIn t=false:=by
 obtain rfl:f=3:=Option.some.inj ((show Tryd.prog.funcNamed "retarget/retargetlaw22.FlowLoops" = some 3 by kernel_rfl).symm.trans hf) |>.symm
 obtain rfl:fn=Tryd.f3:=(Option.some.inj (Tryd.func3.symm.trans hfn)).symm
 refine ⟨by kernel_rfl,fun j t ht=>?_⟩
 rw [Tryd.params3] at ht
 have hm:=Array.mem_of_getElem? ht
 simp only [List.mem_toArray,En,List.not_mem_nil,or_false] at hm
 rcases hm with rfl|rfl
 ·exact (show Tryd.prog.wantsStandIn 24=false by kernel_rfl)
 ·exact (show Tryd.prog.wantsStandIn 3=false by kernel_rfl)
theorem flowLoopsUptoCard_holds:Rows.FlowLoopsUptoCardSaid :=
 Claim7.holds_tied_plain_at .later [] _ _ _ _ iP (fun _ h=>by cases h) (by kernel_rfl) (fun _ h=>by cases h) flowLoopsUpto_row_tie rfl ⟨rfl,rfl⟩ (by kernel_rfl) rfl z9 (by kernel_rfl)
#print axioms flowLoopsUptoCard_holds
end Go.Proofs.YtkhjclmfbmfahaaDoor
