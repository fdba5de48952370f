/- Copies of programs: the reference's Twin of layer 20. -/
import Derived.Test.YtgeieafamocnhaaGreatDoorGV
import Derived.Test.YtgeieafamocnhaaGreatDoorRows
import Derived.Test.YtgeieafamocnhaaGreatDoorCards
import Derived.Test.YtgeieafamocnhaaGreatDoorTie
import Derived.WalkKit
import Derived.OpenShut
import Derived.ShutString
import Derived.ChangeOld
import Derived.Below
import Derived.FnData
import Derived.LaidLaws
import Derived.Deep.DeepHandedRow
import Derived.Deep.DeepWitnessRowRef
namespace Go.Proofs.YtgeieafamocnhaaGreatDoor
open List renaming getElem?_eq_getElem → G7, mem_of_getElem? → G8, getElem?_eq_some_iff → G9, length_cons → Hc, length_nil → Hd, length_map → He, mem_map → Hg, all_eq_true → Hh, getElem?_of_mem → Hp, nil_append → Hs, getElem?_map → Hw, map_cons → Hy
open Option renaming map_some → HN
open Bool renaming and_eq_true → HR
open Nat renaming le_refl → H4
set_option maxHeartbeats 64000000
open Go Go.Ab Go.Proofs
open Nat renaming reduceEqDiff → zp, reduceAdd → zq, reduceLeDiff → zr, reduceLT → zs, reduceBEq → zt
set_option linter.unusedVariables false
set_option linter.unusedSimpArgs false
set_option maxRecDepth 20000
def sec (c:List AV):AV:=(c.drop 1).headD .nilS
structure TwS (h:Heap) (nx na:Nat) (vf:AV) (cs:List (List AV)) (fs:List Fu):Prop where
 own:aF 62 4 h nx vf cs
 len:cs.length=fs.length
 at_:∀ (i:Nat) c f,cs[i]?=some c→fs[i]?=some f→∃ vp,c=[.str f.name,vp,.int .i64 f.result,ay f.body]∧aF 64 2 h nx vp (f.params.map pmE)∧∀ b,aw vp=some b→na<b
 ap:∀ (i j:Nat) c d,i≠j→cs[i]?=some c→cs[j]?=some d→apart (sec c) (sec d)
 av:∀ (i:Nat) c,cs[i]?=some c→apart (sec c) vf
 hi:∀ b,aw vf=some b→na<b
section
variable {h H:Heap} {nx na N:Nat} {vf:AV} {cs:List (List AV)} {fs:List Fu}
theorem TwS.has (T:TwS h nx na vf cs fs) {i:Nat} {c:List AV} (hc:cs[i]?=some c):∃ f vp,fs[i]?=some f∧c=[.str f.name,vp,.int .i64 f.result,ay f.body]∧aF 64 2 h nx vp (f.params.map pmE)∧∀ b,aw vp=some b→na<b:=by
 have hl:=(G9.1 hc).1
 have hf:fs[i]?=some (fs[i]'(by rw [← T.len];exact hl)):=G7 _
 obtain ⟨vp,h1⟩:=T.at_ i c _ hc hf
 exact ⟨_,vp,hf,h1⟩
theorem TwS.all (T:TwS h nx na vf cs fs):∀ z∈cs,z.length=4:=fun z hz=>by
 obtain ⟨i,hi⟩:=Hp hz
 obtain ⟨_,_,_,rfl,_⟩:=T.has hi
 rfl
theorem TwS.keep (T:TwS h nx na vf cs fs) (hN:nx≤N) (hk:∀ k a,k<nx→na<k→af h k=some a→af H k=some a):TwS H N na vf cs fs :=
 ⟨T.own.keep hN fun k a hb hg=>hk k a (T.own.blk hb).2.2 (T.hi k hb) hg,T.len,fun i c f hc hf=>by
  obtain ⟨vp,rfl,o,hb⟩:=T.at_ i c f hc hf
  exact ⟨vp,rfl,o.keep hN fun k a hk1 hg=>hk k a (o.blk hk1).2.2 (hb k hk1) hg,hb⟩,T.ap,T.av,T.hi⟩
theorem TwS.add (T:TwS h nx na vf cs fs) (hna:na<nx) (hN:nx≤N) (hk:∀ k a,k<nx→na<k→af h k=some a→af H k=some a) (f:Fu) {vp:AV} (ho:aF 64 2 H N vp (f.params.map pmE)) (hb:∀ b,aw vp=some b→nx≤b) (hl:cs.length≤1000) :
  ∃ v2 h2 n2,eC 62 4 72 H N vf (.lst 4 [[.str f.name,vp,.int .i64 f.result,ay f.body]])=some (v2,h2,n2)∧cellsOf v2=[v2]∧v2.plain=true∧TwS h2 n2 na v2 (cs++[[.str f.name,vp,.int .i64 f.result,ay f.body]]) (fs++[f])∧N≤n2∧∀ k a,k<N→af H k=some a→aw vf≠some k→af h2 k=some a:=by
 have T1:=T.keep hN hk
 obtain ⟨v2,h2,n2,ea,ow,hn,k9,b9⟩:=T1.own.grw (bytes:=72) (ns:=[[.str f.name,vp,.int .i64 f.result,ay f.body]]) T1.all (by simp) (by simp only [Hc,Hd];omega) (by simp only [Hc,Hd,maxLen];omega)
 have hx:∀ {i:Nat} {c:List AV},(cs++[[.str f.name,vp,.int .i64 f.result,ay f.body]])[i]?=some c→cs[i]?=some c∨(i=cs.length∧c=[.str f.name,vp,.int .i64 f.result,ay f.body]):=fun {i c} hc=>by
  rw [List.getElem?_append] at hc
  split at hc
  ·exact .inl hc
  ·cases hq:i-cs.length with
   | zero=>rw [hq] at hc;simp at hc;exact .inr ⟨by omega,hc.symm⟩
   | succ q=>rw [hq] at hc;simp at hc
 have old:∀ {i:Nat} {c:List AV},cs[i]?=some c→∀ b,aw (sec c)=some b→b<nx:=fun {i c} hc b hb1=>by
  obtain ⟨_,vp',_,rfl,o,_⟩:=T.has hc
  exact (o.blk hb1).2.2
 have oldv:∀ b,aw vf=some b→b<nx:=fun b hb1=>(T.own.blk hb1).2.2
 refine ⟨v2,h2,n2,ea,(bE ow).1,(bE ow).2,⟨ow,by simp [T.len],fun i c g hc hg=>?_,fun i j c d hij hc hd=>?_,fun i c hc=>?_,fun b hb1=>?_⟩,hn,k9⟩
 ·rcases hx hc with hc|⟨hc,rfl⟩
  ·have hi:=(G9.1 hc).1
   rw [List.getElem?_append_left (by rw [← T.len];exact hi)] at hg
   obtain ⟨vp',rfl,o,hb'⟩:=T1.at_ i c g hc hg
   exact ⟨vp',rfl,o.keep hn fun k a hk1 hg1=>k9 k a (o.blk hk1).2.2 hg1 fun e=>T.av i _ hc k hk1 e,hb'⟩
  ·rw [List.getElem?_append_right (by rw [← T.len];omega),show i-fs.length=0 by rw [← T.len];omega] at hg
   simp at hg
   subst hg
   exact ⟨vp,rfl,ho.keep hn fun k a hk1 hg1=>k9 k a (ho.blk hk1).2.2 hg1 fun e=>by have:=hb k hk1;have:=oldv k e;omega,fun b hb1=>by have:=hb b hb1;omega⟩
 ·rcases hx hc with hc|⟨rfl,rfl⟩ <;> rcases hx hd with hd|⟨rfl,rfl⟩
  ·exact T.ap i j c d hij hc hd
  ·exact fun b h1 h3=>by have:=old hc b h1;have:=hb b h3;omega
  ·exact fun b h1 h3=>by have:=old hd b h3;have:=hb b h1;omega
  ·exact absurd rfl hij
 ·intro b h1 h3
  rcases hx hc with hc|⟨_,rfl⟩
  ·rcases b9 b h3 with h4|h4
   ·have:=old hc b h1;omega
   ·exact T.av i c hc b h1 h4
  ·rcases b9 b h3 with h4|h4
   ·have:=(ho.blk h1).2.2;omega
   ·have:=hb b h1;have:=oldv b h4;omega
 ·rcases b9 b hb1 with h4|h4
  ·omega
  ·exact T.hi b h4
theorem tH {nx na:Nat}:∀ (cs:List (List AV)) (fs:List Fu) (h:Heap),cs.length=fs.length→(∀ (i:Nat) c f,cs[i]?=some c→fs[i]?=some f→∃ vp,c=[.str f.name,vp,.int .i64 f.result,ay f.body]∧aF 64 2 h nx vp (f.params.map pmE)∧∀ b,aw vp=some b→na<b)→(∀ (i j:Nat) c d,i≠j→cs[i]?=some c→cs[j]?=some d→apart (sec c) (sec d))→∃ h',qR h cs h' (fs.map fuE)
 | [],[],h,_,_,_=>⟨h,.nil h⟩
 | [],_::_,h,hl,_,_=>by simp at hl
 | _::_,[],h,hl,_,_=>by simp at hl
 | c::cs,f::fs,h,hl,hc,ha=>by
  obtain ⟨vp,rfl,ho,_⟩:=hc 0 c f rfl rfl
  obtain ⟨h1,fz,hk⟩:=ho.frz2 (dX _)
  obtain ⟨h2,hr⟩:=tH cs fs h1 (by simpa using hl) (fun i d g hd hg=>by
   obtain ⟨vp2,rfl,ho2,r⟩:=hc (i+1) d g (by simpa using hd) (by simpa using hg)
   refine ⟨vp2,rfl,ho2.keep (H4 _) fun k a hk2 hg=>hk k a hg fun y e=>?_,r⟩
   exact ha (i+1) 0 [.str g.name,vp2,.int .i64 g.result,ay g.body] _ (by omega) (by simpa using hd) rfl k hk2 (by show aw vp=some k;rw [e];rfl)) fun i j d e hij hd he=>ha (i+1) (j+1) d e (by omega) (by simpa using hd) (by simpa using he)
  exact ⟨h2,.cons (.keep rfl (.cons fz rfl (.keep rfl (.keep rfl (.nil _))))) hr⟩
theorem TwS.frz (T:TwS h nx na vf cs fs):∃ h',Frz h vf h' (bR fs):=by
 obtain ⟨h1,f1,k1⟩:=T.own.frz2 T.all
 obtain ⟨h2,f2⟩:=tH (nx:=nx) (na:=na) cs fs h1 T.len (fun i c f hc hf=>by
  obtain ⟨vp,rfl,ho,r⟩:=T.at_ i c f hc hf
  exact ⟨vp,rfl,ho.keep (H4 _) fun k a hk hg=>k1 k a hg fun y e=>T.av i _ hc k hk (by rw [e];rfl),r⟩) T.ap
 exact ⟨h2,f1.trans (Frz.lstL (fun x hx=>by obtain ⟨r,_,rfl⟩:=Hg.1 hx;rfl) f2)⟩
end
theorem tP (l:List Ar):∀ z∈l.map arE,z.length=3:=fun z hz=>by
 obtain ⟨r,_,rfl⟩:=Hg.1 hz;rfl
theorem w12 (p:Pr) (o:OkP p):Pure Tryz.prog 12 [.agg (prE p)] (.agg (prE p)):=by
 have hal:=o.al
 have hfl:=o.fl
 refine Pure.frz fun nx=>AC.go aj is12 (by simp) ?_
 have n1:(nx+1=nx)=False:=eq_false (by omega)
 have n2:(nx=nx+1)=False:=eq_false (by omega)
 have n3:(nx+1+1=nx)=False:=eq_false (by omega)
 have n4:(nx+1+1=nx+1)=False:=eq_false (by omega)
 have hz:aF 58 3 ((nx+1+1,.cells [])::(nx+1,.cells [.nilS,.nilS])::(nx,.cells [bU p.arrays,bR p.funcs])::[]) (nx+1+1+1) (.os (nx+1+1) 0 58 3 0) []:=.inr ⟨nx+1+1,rfl,by simp [af],by omega⟩
 obtain ⟨va,ha,na,ea,oa,hna,fra,ida⟩:=hz.grw (bytes:=32) (ns:=p.arrays.map arE) (by simp) (tP _) (by simp;omega) (by simp [maxLen];omega)
 simp only [Hs] at oa
 obtain ⟨ca,pa⟩:=bE oa
 have gp:=fra nx (.cells [bU p.arrays,bR p.funcs]) (by omega) (by simp [af,n3,n1]) (by simp [aw];omega)
 have gr:=fra (nx+1) (.cells [.nilS,.nilS]) (by omega) (by simp [af,n4]) (by simp [aw])
 have fz:([]:List (List AV)).flatten=[]:=rfl
 have ea':eC 58 3 32 ((nx+1+1,.cells [])::(nx+1,.cells [.nilS,.nilS])::(nx,.cells [bU p.arrays,bR p.funcs])::[]) (nx+1+1+1) (.os (nx+1+1) 0 58 3 0) (bU p.arrays)=some (va,ha,na):=ea
 have lv:=cZ p.funcs
 have bva:∀ b,aw va=some b→nx+1<b∧b<na:=fun b hb=>⟨by
  rcases ida b hb with h|h
  ·omega
  ·simp [aw] at h;omega,(oa.blk hb).2.2⟩
 simp -implicitDefEqProofs only [RA,aa,zp,↓reduceIte,reduceCtorEq,zq,zr,zs,zt,A12,GI,prE,n1,n2,n3,n4,fz,ea',ca,pa]
 refine aq (fun k st=>∃ (i:Nat) (vf:AV) (cs:List (List AV)),k=p.funcs.length-i∧i≤p.funcs.length∧ab st.env 1=some (.op nx 0)∧ab st.env 2=some (.op (nx+1) 0)∧ab st.env 3=some (.op na 0)∧ab st.env 4=some (.int .i64 i)∧na<st.nx∧af st.heap nx=some (.cells [bU p.arrays,bR p.funcs])∧af st.heap (nx+1)=some (.cells [.nilS,.nilS])∧af st.heap na=some (.cells [va,vf])∧aF 58 3 st.heap st.nx va (p.arrays.map arE)∧TwS st.heap st.nx na vf cs (p.funcs.take i)∧st.dm=[]) (n:=p.funcs.length) aj
  ⟨0,.nilS,[],rfl,by omega,by simp [ab],by simp [ab],by simp [ab],by simp [ab],by simp,?_,?_,by simp [af],?_,⟨.inl ⟨rfl,rfl⟩,rfl,fun i c f hc _=>by simp at hc,fun i j c d _ hc _=>by simp at hc,fun i c hc=>by simp at hc,by simp [aw]⟩,rfl⟩ ?_
 ·simp only [ai];rw [if_neg (by omega),if_neg (by omega)];exact gp
 ·simp only [ai];rw [if_neg (by omega),if_neg (by omega)];exact gr
 ·exact oa.keep (by simp only;omega) fun b o hb hg=>by
   have:=(oa.blk hb).2.2
   simp only [ai];rw [if_neg (by omega),if_neg (by omega)];exact hg
 rintro k ⟨env,heap,nx',dm⟩ ⟨i,vf,cs,rfl,hi,g1,g2,g3,g4,hlt,gp',gr',gq,ova,T,hdm⟩
 simp only at g1 g2 g3 g4 hlt gp' gr' gq ova T hdm
 subst hdm
 by_cases hc:(i:Int)<(p.funcs.length:Int)
 case neg =>
  rw [List.take_of_length_le (by omega)] at T
  obtain ⟨qf1,qf2⟩:=bE T.own
  simp -implicitDefEqProofs only [RA,aa,zp,↓reduceIte,reduceCtorEq,zq,zr,zs,zt,yG,sV,g1,g2,g3,g4,gp',gr',gq,lv,hc,qf1,qf2,ca,pa,R12]
  have ova2:aF 58 3 ((nx+1,.cells [va,vf])::heap) nx' va _:=ova.keep (H4 _) fun b a hb hg=>by
   have:=bva b hb
   rw [ai,if_neg (by omega)];exact hg
  obtain ⟨j1,f1,k1⟩:=ova2.frz2 (tP _)
  have T2:TwS j1 nx' na vf cs p.funcs:=T.keep (H4 _) fun k a h1 h2 h3=>k1 k a (by rw [ai,if_neg (by omega)];exact h3) fun y e=>by
   have:=bva k (by rw [e];rfl)
   omega
  obtain ⟨j2,f2⟩:=T2.frz
  exact ⟨_,_,rfl,Frz.agg (.cons f1 rfl (.cons f2 rfl (.nil _)))⟩
 have ha2:=G7 (show i<p.funcs.length by omega)
 generalize p.funcs[i]=f at ha2
 have hf:=G8 ha2
 have ia:=cJ ha2
 have hpl:=o.fp f hf
 have hbl:=o.fb f hf
 have n5:(nx'+1=nx')=False:=eq_false (by omega)
 have n6:(nx'=na)=False:=eq_false (by omega)
 have n7:(nx'+1=na)=False:=eq_false (by omega)
 have n8:(nx'=nx)=False:=eq_false (by omega)
 have f1:=wS (i:=i) (by omega)
 have hz2:aF 64 2 ((nx'+1,.cells [])::(nx',.cells [.str f.name,bw f.params,.int .i64 f.result,ay f.body])::(nx',.cells [.str [],.nilS,.int .i64 0,.nilS])::heap) (nx'+1+1) (.os (nx'+1) 0 64 2 0) []:=.inr ⟨nx'+1,rfl,by simp [af],by omega⟩
 obtain ⟨vp,hp,np,eb,opp,hnp,frb,idb⟩:=hz2.grw (bytes:=24) (ns:=f.params.map pmE) (by simp) (dX _) (by simp;omega) (by simp [maxLen];omega)
 simp only [Hs] at opp
 have eb':eC 64 2 24 ((nx'+1,.cells [])::(nx',.cells [.str f.name,bw f.params,.int .i64 f.result,ay f.body])::(nx',.cells [.str [],.nilS,.int .i64 0,.nilS])::heap) (nx'+1+1) (.os (nx'+1) 0 64 2 0) (bw f.params)=some (vp,hp,np):=eb
 have old:∀ b o,b<nx'→af heap b=some o→af hp b=some o:=fun b o hb hg=>frb b o (by omega) (by simp only [ai];rw [if_neg (by omega),if_neg (by omega),if_neg (by omega)];exact hg) (by simp [aw];omega)
 have gF:=frb nx' (.cells [.str f.name,bw f.params,.int .i64 f.result,ay f.body]) (by omega) (by simp [af]) (by simp [aw])
 have gq2:=old na _ hlt gq
 obtain ⟨cp,pp⟩:=bE opp
 have cb:=aB f.body
 have pb:=aA f.body
 have bvp:∀ b,aw vp=some b→nx'+1≤b:=fun b hb=>by
  rcases idb b hb with h|h
  ·omega
  ·simp [aw] at h;omega
 simp -implicitDefEqProofs only [RA,aa,zp,↓reduceIte,reduceCtorEq,zq,zr,zs,zt,yG,sV,fuE,g1,g2,g3,g4,gp',gq,lv,hc,ia,n5,n6,n7,n8,fz,eb',gF,and_true]
 refine (w27 4000000 f.body (by omega) (by omega)).use fun n2 hn2=>?_
 have hcs:cs.length≤1000:=by rw [T.len,List.length_take];omega
 have key:=fun X Y:AO=>T.add (H:=(nx',X)::(nx',Y)::hp) (N:=n2) hlt (by omega) (fun b a hb _ hg=>by simp only [ai];rw [if_neg (by omega),if_neg (by omega)];exact old b a hb hg) f
  (opp.keep (by omega) fun b a hb hg=>by have:=bvp b hb;simp only [ai];rw [if_neg (by omega),if_neg (by omega)];exact hg) (fun b hb=>by have:=bvp b hb;omega) hcs
 obtain ⟨vf',h3,n3',ec,cf',pf',T',hn3,fr3⟩:=key (.cells [.str f.name,vp,.int .i64 f.result,ay f.body]) (.cells [.str f.name,vp,.int .i64 f.result,ay f.body])
 have fr:∀ b a,b<nx'→af heap b=some a→aw vf≠some b→af h3 b=some a:=fun b a hb hg hv=>fr3 b a (by omega) (by simp only [ai];rw [if_neg (by omega),if_neg (by omega)];exact old b a hb hg) hv
 have nvf:∀ b,b≤na→aw vf≠some b:=fun b hb e=>by have:=T.hi b e;omega
 have gq3:=fr na _ hlt gq (nvf _ (H4 _))
 have hone:((1:Nat)=0)=False:=by simp
 simp -implicitDefEqProofs only [RA,aa,zp,↓reduceIte,reduceCtorEq,zq,zr,zs,zt,g1,g2,g3,g4,gF,gq2,gq3,n5,n6,n7,n8,cp,pp,cb,pb,ec,cf',pf',ca,pa,f1,hone,and_true]
 have qx:=fr nx _ (by omega) gp' (nvf _ (by omega))
 have qy:=fr (nx+1) _ (by omega) gr' (nvf _ (by omega))
 refine ⟨p.funcs.length-(i+1),by omega,i+1,vf',cs++[[.str f.name,vp,.int .i64 f.result,ay f.body]],rfl,by omega,rfl,by omega,by rw [if_neg (by omega)];exact qx,by rw [if_neg (by omega)];exact qy,rfl,ova.keep (by omega) (fun b a hb hg=>?_),?_⟩
 ·have:=bva b hb
  rw [ai,if_neg (by omega)]
  exact fr b a (by omega) hg (nvf _ (by omega))
 ·rw [az ha2]
  exact T'.keep (H4 _) fun b a _ hb hg=>by rw [ai,if_neg (by omega)];exact hg
theorem Cd {p:Pr} (o:OkP p):(loW p).1.length≤1000∧∀ f∈(loW p).1,zm f:=by
 have hfl:=o.fl
 unfold loW
 split
 ·rename_i hck
  split
  ·exact ⟨by simp,fun f hf=>by simp at hf⟩
  ·refine ⟨by simp only [He];omega,fun f hf=>?_⟩
   obtain ⟨g,hg,rfl⟩:=Hg.1 hf
   exact Ci o hck hg
 ·exact ⟨by simp,fun f hf=>by simp at hf⟩
theorem w4 (p:Pr) (hB:szP p≤4000000):Pure Tryz.prog 4 [.agg (prE p)] (.bool true):=by
 refine Pure.of fun nx=>AC.go aj is4 (by simp) ?_
 have hpe:=ct p
 have c5:=w5 p hB
 rw [hpe] at c5 ⊢
 simp -implicitDefEqProofs only [RA,aa,zp,↓reduceIte,reduceCtorEq,zq,zr,zs,zt,A4,A4p,↓bf,↓bc,↓be,↓ba]
 refine c5.use fun n2 hn2=>?_
 cases hg:grP p with
 | true =>
  simp -implicitDefEqProofs only [RA,aa,zp,↓reduceIte,reduceCtorEq,zq,zr,zs,zt,R4]
 | false =>
 have o:=Cf hg
 have c12:=w12 p o
 have c13:Pure Tryz.prog 13 [.agg (prE p)] (.tup [.agg [j7 (loW p).1],.int .i64 (loW p).2]):=w13 p o
 have c14:Pure Tryz.prog 14 [.agg (prE p)] (.tup [.agg [j7 (loW p).1],.int .i64 (loW p).2]):=w14 p o
 have c16:=w16 p o
 obtain ⟨k1,k2⟩:=Cd o
 have c15:=w15 (loW p).1 k1 k2
 rw [hpe] at c12 c13 c14 c16
 simp -implicitDefEqProofs only [RA,aa,zp,↓reduceIte,reduceCtorEq,zq,zr,zs,zt,↓bf,↓bc,↓be,↓ba]
 refine c12.use fun n3 hn3=>?_
 have a1:(n3=nx)=False:=eq_false (by omega)
 simp -implicitDefEqProofs only [RA,aa,zp,↓reduceIte,reduceCtorEq,zq,zr,zs,zt,a1,↓bf,↓bc,↓be,↓ba]
 refine c13.use fun n4 hn4=>?_
 have a2:(n4=nx)=False:=eq_false (by omega)
 have a3:(n4=n3)=False:=eq_false (by omega)
 simp -implicitDefEqProofs only [RA,aa,zp,↓reduceIte,reduceCtorEq,zq,zr,zs,zt,a1,a2,a3,↓bf,↓bc,↓be,↓ba,↓tL,↓tB]
 refine c14.use fun n5 hn5=>?_
 have a4:(n5=nx)=False:=eq_false (by omega)
 have a5:(n5=n3)=False:=eq_false (by omega)
 have a6:(n5=n4)=False:=eq_false (by omega)
 simp -implicitDefEqProofs only [RA,aa,zp,↓reduceIte,reduceCtorEq,zq,zr,zs,zt,a1,a2,a3,a4,a5,a6,↓bf,↓bc,↓be,↓ba,↓tL,↓tB]
 refine c15.use fun n6 hn6=>?_
 have d1:((loW p).2=(loW p).2)=True:=eq_true rfl
 simp -implicitDefEqProofs only [RA,aa,zp,↓reduceIte,reduceCtorEq,zq,zr,zs,zt,a1,a2,a3,a4,a5,a6,d1,↓bf,↓bc,↓be,↓ba,↓tL,↓tB]
 refine c16.use fun n7 hn7=>?_
 simp -implicitDefEqProofs only [RA,aa,zp,↓reduceIte,reduceCtorEq,zq,zr,zs,zt,R4]
end Go.Proofs.YtgeieafamocnhaaGreatDoor
namespace Go.Ab
open List renaming getElem?_eq_getElem → G7, mem_of_getElem? → G8, getElem?_eq_some_iff → G9, length_cons → Hc, length_nil → Hd, length_map → He, mem_map → Hg, all_eq_true → Hh, getElem?_of_mem → Hp, nil_append → Hs, getElem?_map → Hw, map_cons → Hy
open Option renaming map_some → HN
open Bool renaming and_eq_true → HR
open Nat renaming le_refl → H4
set_option maxHeartbeats 64000000
open Go.RowKit Go.ChangeShapes Go.Proofs.YtgeieafamocnhaaGreatDoor.Rows
set_option linter.unusedVariables false
set_option linter.unusedSimpArgs false
mutual
def avz:AV→Nat
 | .str s=>s.length+1
 | .lst _ es=>fD es+1
 | .agg cs=>eh cs+1
 | .tup cs=>eh cs+1
 | .fp cs=>eh cs+1
 | _=>1
def eh:List AV→Nat
 | []=>0
 | x::r=>avz x+eh r
def fD:List (List AV)→Nat
 | []=>0
 | x::r=>eh x+fD r
end
theorem qM:∀ a b:List AV,eh (a++b)=eh a+eh b
 | [],b=>by simp [eh]
 | x::a,b=>by simp only [List.cons_append,eh,qM a b];omega
theorem qK {H:Type}:∀ (es:List (List AV)) (ps:List (DataW H)),es.length=ps.length→(∀ (i:Nat) x d,es[i]?=some x→ps[i]?=some d→eh x≤uptoBulk d)→fD es≤uptoBulkAll ps
 | [],_,_,_=>by simp [fD]
 | x::es,[],h,_=>by simp at h
 | x::es,d::ps,h,hb=>by
  have h1:=hb 0 x d rfl rfl
  have h2:=qK es ps (by simpa using h) fun i y e hy he=>hb (i+1) y e (by simpa using hy) (by simpa using he)
  simp only [fD,uptoBulkAll];omega
section
variable {H:Type} {enc:TypeId × Value→H} {P:Program} {K:Wd} {base:Nat} {spare:Nat→Bool} {held:Bool}
theorem zk {S:List TypeId} (hS:okS P S=true) (hK:Old K):∀ (fuel:Nat) (t:TypeId) (cs:List Value) (x:DataW H × List MemPlace),t∈S→DataW.trod enc P K.w base spare held fuel t cs=some x →
  ∃ xs,AT P fuel t xs∧CR K 0 xs cs∧eh xs≤uptoBulk x.1:=by
 intro fuel
 induction fuel with
 | zero=>intro t cs x _ h;simp [DataW.trod] at h
 | succ n ih =>
  intro t cs x ht h
  have hok:=Hh.1 hS t ht
  have fields:∀ (ts:List (TypeId × Nat)) (ps:List (DataW H × List MemPlace)) (cs:List Value) (o:Nat),(∀ q∈ts,q.1∈S∧q.2=P.cellsOf q.1)→ps.length=ts.length→cs.length=o+(ts.map (·.2)).sum →
    (∀ i q,ts[i]?=some q→DataW.trod enc P K.w base spare held n q.1 ((cs.drop (o+((ts.take i).map (·.2)).sum)).take q.2)=ps[i]?)→∃ xs,ATl (AT P n) (ts.map (·.1)) xs∧CR K 0 xs (cs.drop o)∧eh xs≤uptoBulkAll (ps.map (·.1)):=by
   intro ts
   induction ts with
   | nil =>
    intro ps cs o _ _ hl _
    refine ⟨[],rfl,?_,by simp [eh]⟩
    rw [List.drop_of_length_le (by simp at hl;omega)];exact .nil _ _
   | cons q ts ihs =>
    intro ps cs o hq hu hl hf
    match ps,hu with
    | y::ps,hu =>
    have hy:=hf 0 q rfl
    simp only [List.take_zero,List.map_nil,List.sum_nil,Nat.add_zero,List.getElem?_cons_zero] at hy
    obtain ⟨ys,h1,h2,h2b⟩:=ih _ _ _ (hq q List.mem_cons_self).1 hy
    obtain ⟨zs,h3,h4,h4b⟩:=ihs ps cs (o+q.2) (fun r hr=>hq r (List.mem_cons_of_mem _ hr)) (by simpa using hu) (by rw [hl];simp;omega) (fun i r hr=>by
     have hy':=hf (i+1) r (by simpa using hr)
     rw [List.getElem?_cons_succ] at hy'
     rw [← hy']
     simp only [List.take_succ_cons,Hy,List.sum_cons,Nat.add_assoc])
    refine ⟨ys++zs,⟨ys,zs,rfl,h1,h3⟩,?_,by rw [qM,Hy,uptoBulkAll];omega⟩
    have:cs.drop o=(cs.drop o).take q.2++cs.drop (o+q.2):=by
     rw [← List.drop_drop,List.take_append_drop]
    rw [this]
    exact h2.append h4
  simp only [AT]
  cases hu:P.underlying t with
  | none=>simp [hu] at hok
  | some d =>
   simp only [hu] at hok
   cases d <;> simp only at hok <;> first|(cases hok;done)|skip
   case bool =>
    obtain ⟨b,rfl,rfl⟩:=DataW.trod_bool hu h
    exact ⟨[.bool b],⟨b,rfl⟩,.single (.bool b) rfl,by simp [eh,avz,uptoBulk]⟩
   case int k =>
    obtain ⟨i,rfl,rfl,hw⟩:=DataW.trod_int hu h
    exact ⟨[.int k i],⟨i,rfl,hw⟩,.single (.int k i) rfl,by simp [eh,avz,uptoBulk]⟩
   case string =>
    obtain ⟨s,rfl,rfl,hw⟩:=DataW.trod_string hu h
    exact ⟨[.str s.data.toList],⟨_,rfl,by simpa using hw⟩,.single (.str _ s rfl) rfl,by simp [eh,avz,uptoBulk]⟩
   case pointer e =>
    have he:e∈S:=by simpa using hok
    rcases DataW.trod_pointer hu h with ⟨rfl,rfl⟩|⟨a,cs',y,m,hm,rfl,rfl,hc,hy⟩
    ·exact ⟨[.nilP],.inl rfl,.single .nilP rfl,by simp [eh,avz,uptoBulk]⟩
    ·obtain rfl:m=n:=by omega
     obtain ⟨ys,h1,h2,h2b⟩:=ih e cs' y he hy
     obtain ⟨h3,h4⟩:=i8 hc
     refine ⟨[.fp ys],.inr ⟨ys,rfl,h1⟩,.single (.fp ys a (fun k=>cs'.getD k undef) h2.one (fun k hk=>?_) fun j x hx=>?_) rfl,by simp only [eh,avz,uptoBulk];omega⟩
     ·have hkl:k<cs'.length:=by rw [h2.len];exact hk
      have:=h4 k (by omega)
      rw [G7 hkl] at this
      refine ⟨by simp only [this,List.getD_eq_getElem?_getD,G7 hkl,Option.getD_some],hK _ _ ?_⟩
      exact lQ this
     ·have hj:=(G9.1 hx).1
      have hjl:j<cs'.length:=by rw [h2.len];exact hj
      refine h2.at_ j x _ hx ?_
      simp only [List.getD_eq_getElem?_getD,G7 hjl,Option.getD_some]
   case slice e =>
    have he:e∈S:=by simpa using hok
    rcases DataW.trod_slice hu h with ⟨rfl,rfl⟩|⟨a,len,cap,elems,rest,m,hm,rfl,hx,_,hlc,hcap,hlen,hel,_,_⟩
    ·exact ⟨[.lst (P.cellsOf e) []],⟨[],rfl,by simp,fun x hx=>by simp at hx⟩,.single (.lst0 _ _ _ _ _ rfl rfl fun _=>rfl) rfl,by simp [eh,avz,fD,uptoBulk]⟩
    ·obtain rfl:m=n:=by omega
     obtain ⟨es,h1,h2⟩:=lr (α:=List AV) (p:=fun i xs=>AT P m e xs∧∃ cs,K.w.cells? base (a.add (i*P.cellsOf e)) (P.cellsOf e)=some cs∧CR K 0 xs cs∧∀ d,elems[i]?=some d→eh xs≤uptoBulk d.1) len fun i hi=>by
      have h3:=hel i hi
      have hy:elems[i]?=some (elems[i]'(by omega)):=G7 (by omega)
      rw [hy] at h3
      obtain ⟨cs,h4,h5⟩:=Option.bind_eq_some_iff.1 h3
      obtain ⟨xs,h6,h7,h8⟩:=ih e cs _ he h5
      exact ⟨xs,h6,cs,h4,h7,fun d hd=>by rw [hy] at hd;injection hd with hd;subst hd;exact h8⟩
     have hlenE:∀ (i:Nat) (x:List AV),es[i]?=some x→x.length=P.cellsOf e:=fun i x hx=>by
      obtain ⟨_,cs,h4,h5,_⟩:=h2 i x hx
      rw [← h5.len];exact (i8 h4).1
     have hbk:fD es≤uptoBulkAll (elems.map (·.1)):=qK es _ (by rw [He,hlen,h1]) fun i x d hx hd=>by
      rw [Hw] at hd
      cases hel:elems[i]? with
      | none=>rw [hel] at hd;cases hd
      | some y =>
       rw [hel] at hd;simp only [HN,Option.some.injEq] at hd;subst hd
       obtain ⟨_,_,_,_,h6⟩:=h2 i x hx
       exact h6 y hel
     refine ⟨[.lst (P.cellsOf e) es],⟨es,rfl,by omega,fun x hx=>?_⟩,.single ?_ rfl,by rw [hx];simp only [eh,avz,uptoBulk];omega⟩
     ·obtain ⟨i,hi⟩:=Hp hx
      exact ⟨hlenE i x hi,(h2 i x hi).1⟩
     ·refine .lst _ es a len cap (fun k=>(K.w.cell? (a.add k)).getD undef) h1.symm hlc hcap hlenE (fun i x hx j y hy=>?_) (fun k hk=>?_) fun i x hx j y hy=>?_
      ·obtain ⟨_,cs,h4,h5,_⟩:=h2 i x hx
       exact h5.one j y hy
      ·have hpos:0<P.cellsOf e:=by
        rcases Nat.eq_zero_or_pos (P.cellsOf e) with h|h
        ·rw [h] at hk;simp at hk
        ·exact h
       have hi:k / P.cellsOf e<len:=by rw [Nat.div_lt_iff_lt_mul hpos];exact hk
       have hx:es[k / P.cellsOf e]?=some (es[k / P.cellsOf e]'(by omega)):=G7 (by omega)
       obtain ⟨_,cs,h4,h5,_⟩:=h2 _ _ hx
       obtain ⟨h6,h7⟩:=i8 h4
       have hmod:k % P.cellsOf e<P.cellsOf e:=Nat.mod_lt _ hpos
       have h8:=h7 (k % P.cellsOf e) hmod
       rw [G7 (by omega)] at h8
       have h9:=o7 _ _ _ _ _ h8
       rw [Nat.mul_comm,Nat.div_add_mod] at h9
       exact ⟨by rw [h9];rfl,hK _ _ (lQ h9)⟩
      ·obtain ⟨_,cs,h4,h5,_⟩:=h2 i x hx
       obtain ⟨h6,h7⟩:=i8 h4
       have hj:=(G9.1 hy).1
       have hjl:j<cs.length:=by rw [h5.len];exact hj
       have h8:=h7 j (by omega)
       rw [G7 hjl] at h8
       have h9:=o7 _ _ _ _ _ h8
       rw [h9]
       exact h5.at_ j y _ hy (G7 hjl)
   case struct fs =>
    simp only [HR,Hh,beq_iff_eq] at hok
    obtain ⟨hmem,htile⟩:=hok
    obtain ⟨ys,m,hm,rfl,hl,hyl,hf⟩:=DataW.trod_struct hu h
    obtain rfl:m=n:=by omega
    have off:∀ (l:List Field) (o r:Nat),pZ P o l=some r→r=o+(l.map fun f=>P.cellsOf f.type).sum∧∀ i f,l[i]?=some f→f.offset=o+((l.take i).map fun f=>P.cellsOf f.type).sum:=by
     intro l
     induction l with
     | nil=>intro o r h;simp only [pZ,Option.some.injEq] at h;subst h;exact ⟨by simp,fun i f h=>by simp at h⟩
     | cons f l ihl =>
      intro o r h
      simp only [pZ] at h
      split at h
      ·rename_i ho
       obtain ⟨h1,h2⟩:=ihl _ _ h
       refine ⟨by rw [h1];simp;omega,fun i g hg=>?_⟩
       cases i with
       | zero=>simp at hg;subst hg;simpa using ho
       | succ i=>rw [h2 i g (by simpa using hg)];simp;omega
      ·cases h
    obtain ⟨h1,h2⟩:=off fs.toList 0 _ htile
    have hmm:∀ (l:List Field),(l.map fun f=>(f.type,P.cellsOf f.type)).map (·.1)=l.map (·.type):=fun l=>by simp
    obtain ⟨xs,h3,h4,h4b⟩:=fields (fs.toList.map fun f=>(f.type,P.cellsOf f.type)) ys cs 0 (fun q hq=>by
      obtain ⟨f,hf,rfl⟩:=Hg.1 hq
      exact ⟨by simpa using hmem f hf,rfl⟩) (by rw [He,hyl];simp) (by rw [hl,h1,List.map_map];rfl) (fun i q hq=>by
      rw [Hw] at hq
      cases hfi:fs.toList[i]? with
      | none=>rw [hfi] at hq;cases hq
      | some f =>
       rw [hfi] at hq
       simp only [HN,Option.some.injEq] at hq;subst hq
       have hfi':fs[i]?=some f:=by simpa using hfi
       have h5:=hf i f hfi'
       rw [← h5,h2 i f hfi,← List.map_take,List.map_map];rfl)
    rw [hmm] at h3
    exact ⟨xs,h3,by simpa using h4,by simp only [uptoBulk];omega⟩
   case array m e =>
    simp only [HR,beq_iff_eq] at hok
    obtain ⟨hmem,hsz⟩:=hok
    obtain ⟨ys,m',hm,rfl,hl,hyl,hf⟩:=DataW.trod_array hu h
    obtain rfl:m'=n:=by omega
    have hsum:∀ k,((List.replicate k (e,P.cellsOf e)).map (·.2)).sum=k*P.cellsOf e:=fun k=>by simp
    obtain ⟨xs,h3,h4,h4b⟩:=fields (List.replicate m (e,P.cellsOf e)) ys cs 0 (fun q hq=>by
      have:q=(e,P.cellsOf e):=(List.mem_replicate.1 hq).2
      subst this
      exact ⟨by simpa using hmem,rfl⟩) (by rw [List.length_replicate];exact hyl) (by rw [hl,hsz,hsum];omega) (fun i q hq=>by
      have hi:i<m:=by have:=(G9.1 hq).1;simpa using this
      have:q=(e,P.cellsOf e):=(List.mem_replicate.1 (G8 hq)).2
      subst this
      have h5:=hf i hi
      rw [← h5,List.take_replicate,hsum,Nat.min_eq_left (by omega),Nat.zero_add])
    refine ⟨xs,?_,by simpa using h4,by simp only [uptoBulk];omega⟩
    simpa using h3
theorem xD {S:List TypeId} (hS:okS P S=true) {W:World} {t:TypeId} {c:Array Value} {d:DataW H} {p:List MemPlace} (ht:t∈S) (h:DataW.Trod enc P W base spare held t (.agg c) d p) :
  ∃ n xs,AT P n t xs∧VR (wd0 W) 0 (.agg xs) (.agg c)∧eh xs≤uptoBulk d:=by
 obtain ⟨fuel,hf⟩:=h
 obtain ⟨xs,h1,h2,h3⟩:=zk (K:=wd0 W) hS (Old.wd0 W) fuel t _ _ ht hf
 exact ⟨fuel,xs,h1,h2.toAgg',h3⟩
end
end Go.Ab
namespace Go.Proofs.YtgeieafamocnhaaGreatDoor
open List renaming getElem?_eq_getElem → G7, mem_of_getElem? → G8, getElem?_eq_some_iff → G9, length_cons → Hc, length_nil → Hd, length_map → He, mem_map → Hg, all_eq_true → Hh, getElem?_of_mem → Hp, nil_append → Hs, getElem?_map → Hw, map_cons → Hy
open Option renaming map_some → HN
open Bool renaming and_eq_true → HR
open Nat renaming le_refl → H4
set_option maxHeartbeats 64000000
open Go Go.Ab Go.Proofs
open Nat renaming reduceEqDiff → zp, reduceAdd → zq, reduceLeDiff → zr, reduceLT → zs, reduceBEq → zt
open Go.ChangeShapes Go.WideShapes Go.ChangeAt Go.RowKit
set_option linter.unusedVariables false
set_option maxRecDepth 100000
theorem ownK:ownKnob Tryz.prog.godebug=none:=by kernel_rfl
theorem zy:laidOutB Tryz.prog=true:=by kernel_rfl
theorem gI {n:Nat} {y:List AV} {t:TypeId} {k:IntKind} (hu:Tryz.prog.underlying t=some (.int k)) (h:AT Tryz.prog n t y):∃ a:Int,y=[.int k a]:=by
 cases n with
 | zero=>exact h.elim
 | succ n =>
  simp only [AT,hu] at h
  obtain ⟨a,h1,h2⟩:=h
  exact ⟨a,h1⟩
theorem kP {n:Nat} {y:List AV} (h:AT Tryz.prog n 9 y):∃ s:Nm,y=[.str s]:=by
 cases n with
 | zero=>exact h.elim
 | succ n =>
  simp only [AT,Tryz.underlying9] at h
  obtain ⟨s,h1,h2⟩:=h
  exact ⟨s,h1⟩
theorem mU {n:Nat} {y:List AV} {t e:TypeId} {sz:Nat} (hu:Tryz.prog.underlying t=some (.slice e)) (hc:Tryz.prog.cellsOf e=sz) (h:AT Tryz.prog (n+1) t y):∃ es,y=[.lst sz es]∧∀ x∈es,AT Tryz.prog n e x:=by
 simp only [AT,hu] at h
 obtain ⟨es,h1,h2,h3⟩:=h
 rw [hc] at h1
 exact ⟨es,h1,fun x hx=>(h3 x hx).2⟩
theorem lL {α:Type} {f:α→List AV}:∀ (es:List (List AV)),(∀ x∈es,∃ a,x=f a)→∃ l:List α,es=l.map f
 | [],_=>⟨[],rfl⟩
 | e::es,h=>by
  obtain ⟨l,hl⟩:=lL es fun x hx=>h x (List.mem_cons_of_mem _ hx)
  obtain ⟨a,ha⟩:=h e List.mem_cons_self
  exact ⟨a::l,by rw [hl,ha];rfl⟩
theorem xC:∀ n:Nat,(∀ y,AT Tryz.prog n 29 y→∃ x:Ex,y=exE x)∧(∀ y,AT Tryz.prog n 27 y→∃ l:List Ex,y=[aR l])
 | 0=>⟨fun y h=>h.elim,fun y h=>h.elim⟩
 | n+1=>by
  obtain ⟨ih1,ih2⟩:=xC n
  refine ⟨fun y h=>?_,fun y h=>?_⟩
  ·simp only [AT,Tryz.underlying29] at h
   obtain ⟨y1,z1,rfl,h1,y2,z2,rfl,h2,y3,z3,rfl,h3,y4,z4,rfl,h4,y5,z5,rfl,h5,y6,z6,rfl,h6,h7⟩:=h
   subst h7
   obtain ⟨k,rfl⟩:=gI Tryz.underlying5 h1
   obtain ⟨w,rfl⟩:=gI Tryz.underlying3 h2
   obtain ⟨b,rfl⟩:=gI Tryz.underlying26 h3
   obtain ⟨nm,rfl⟩:=kP h4
   obtain ⟨o,rfl⟩:=gI Tryz.underlying5 h5
   obtain ⟨l,rfl⟩:=ih2 _ h6
   exact ⟨.mk k w b nm o l,by rw [dE];rfl⟩
  ·obtain ⟨es,rfl,hes⟩:=mU Tryz.underlying27 (show Tryz.prog.cellsOf 29=6 by kernel_rfl) h
   obtain ⟨l,rfl⟩:=lL (f:=exE) es fun x hx=>ih1 x (hes x hx)
   exact ⟨l,rfl⟩
theorem xA:∀ n:Nat,(∀ y,AT Tryz.prog n 106 y→∃ x:Sm,y=smE x)∧(∀ y,AT Tryz.prog n 60 y→∃ l:List Sm,y=[ay l])
 | 0=>⟨fun y h=>h.elim,fun y h=>h.elim⟩
 | n+1=>by
  obtain ⟨ih1,ih2⟩:=xA n
  refine ⟨fun y h=>?_,fun y h=>?_⟩
  ·simp only [AT,Tryz.underlying106] at h
   obtain ⟨y1,z1,rfl,h1,y2,z2,rfl,h2,y3,z3,rfl,h3,y4,z4,rfl,h4,y5,z5,rfl,h5,y6,z6,rfl,h6,y7,z7,rfl,h7,h8⟩:=h
   subst h8
   obtain ⟨k,rfl⟩:=gI Tryz.underlying5 h1
   obtain ⟨nm,rfl⟩:=kP h2
   obtain ⟨fn,rfl⟩:=kP h3
   obtain ⟨w,rfl⟩:=gI Tryz.underlying3 h4
   obtain ⟨l,rfl⟩:=(xC n).2 _ h5
   obtain ⟨b,rfl⟩:=ih2 _ h6
   obtain ⟨e,rfl⟩:=ih2 _ h7
   exact ⟨.mk k nm fn w l b e,by rw [cH];rfl⟩
  ·obtain ⟨es,rfl,hes⟩:=mU Tryz.underlying60 (show Tryz.prog.cellsOf 106=7 by kernel_rfl) h
   obtain ⟨l,rfl⟩:=lL (f:=smE) es fun x hx=>ih1 x (hes x hx)
   exact ⟨l,rfl⟩
theorem EN {n:Nat} {y:List AV} (h:AT Tryz.prog n 64 y):∃ v:Pm,y=pmE v:=by
 cases n with
 | zero=>exact h.elim
 | succ n =>
  simp only [AT,Tryz.underlying64] at h
  obtain ⟨y1,z1,rfl,h1,y2,z2,rfl,h2,h3⟩:=h
  subst h3
  obtain ⟨nm,rfl⟩:=kP h1
  obtain ⟨w,rfl⟩:=gI Tryz.underlying3 h2
  exact ⟨(nm,w),rfl⟩
theorem EP {n:Nat} {y:List AV} (h:AT Tryz.prog n 58 y):∃ v:Ar,y=arE v:=by
 cases n with
 | zero=>exact h.elim
 | succ n =>
  simp only [AT,Tryz.underlying58] at h
  obtain ⟨y1,z1,rfl,h1,y2,z2,rfl,h2,y3,z3,rfl,h3,h4⟩:=h
  subst h4
  obtain ⟨nm,rfl⟩:=kP h1
  obtain ⟨w,rfl⟩:=gI Tryz.underlying3 h2
  obtain ⟨l,rfl⟩:=gI Tryz.underlying3 h3
  exact ⟨⟨nm,w,l⟩,rfl⟩
theorem xB {n:Nat} {y:List AV} {t e:TypeId} {sz:Nat} {α:Type} {f:α→List AV} (hu:Tryz.prog.underlying t=some (.slice e)) (hc:Tryz.prog.cellsOf e=sz) (hf:∀ (n:Nat) (x:List AV),AT Tryz.prog n e x→∃ a,x=f a) (h:AT Tryz.prog n t y):∃ l:List α,y=[.lst sz (l.map f)]:=by
 cases n with
 | zero=>exact h.elim
 | succ n =>
  obtain ⟨es,rfl,hes⟩:=mU hu hc h
  obtain ⟨l,rfl⟩:=lL (f:=f) es fun x hx=>hf n x (hes x hx)
  exact ⟨l,rfl⟩
theorem EO {n:Nat} {y:List AV} (h:AT Tryz.prog n 62 y):∃ v:Fu,y=fuE v:=by
 cases n with
 | zero=>exact h.elim
 | succ n =>
  simp only [AT,Tryz.underlying62] at h
  obtain ⟨y1,z1,rfl,h1,y2,z2,rfl,h2,y3,z3,rfl,h3,y4,z4,rfl,h4,h5⟩:=h
  subst h5
  obtain ⟨nm,rfl⟩:=kP h1
  obtain ⟨ps,rfl⟩:=xB (f:=pmE) Tryz.underlying59 (show Tryz.prog.cellsOf 64=2 by kernel_rfl) (fun n x=>EN) h2
  obtain ⟨r,rfl⟩:=gI Tryz.underlying3 h3
  obtain ⟨b,rfl⟩:=(xA n).2 _ h4
  exact ⟨⟨nm,ps,r,b⟩,rfl⟩
theorem zl {n:Nat} {y:List AV} (h:AT Tryz.prog n 25 y):∃ p:Pr,y=prE p:=by
 cases n with
 | zero=>exact h.elim
 | succ n =>
  simp only [AT,Tryz.underlying25] at h
  obtain ⟨y1,z1,rfl,h1,y2,z2,rfl,h2,h3⟩:=h
  subst h3
  obtain ⟨ars,rfl⟩:=xB (f:=arE) Tryz.underlying22 (show Tryz.prog.cellsOf 58=3 by kernel_rfl) (fun n x=>EP) h1
  obtain ⟨fus,rfl⟩:=xB (f:=fuE) Tryz.underlying23 (show Tryz.prog.cellsOf 62=4 by kernel_rfl) (fun n x=>EO) h2
  exact ⟨⟨ars,fus⟩,rfl⟩
mutual
theorem EM:∀ x:Ex,szE x≤eh (exE x)
 | .mk k w b n o s=>by
  have:=rT s
  simp only [exE,szE,eh,avz];omega
theorem rT:∀ l:List Ex,cD l≤fD (qA l)
 | []=>by simp [cD]
 | x::r=>by
  have:=EM x
  have:=rT r
  simp only [qA,cD,fD];omega
end
mutual
theorem EK:∀ x:Sm,szS x≤eh (smE x)
 | .mk k n f w l b e=>by
  have:=rT l
  have:=oV b
  have:=oV e
  simp only [smE,szS,eh,avz];omega
theorem oV:∀ l:List Sm,bS l≤fD (qd l)
 | []=>by simp [bS]
 | x::r=>by
  have:=EK x
  have:=oV r
  simp only [qd,bS,fD];omega
end
theorem xz:∀ l:List Ar,eX l≤fD (l.map arE)
 | []=>by simp [eX]
 | x::r=>by
  have:=xz r
  simp only [Hy,eX,fD,arE,eh,avz];omega
theorem xw:∀ l:List Pm,eN l≤fD (l.map pmE)
 | []=>by simp [eN]
 | x::r=>by
  have:=xw r
  simp only [Hy,eN,fD,pmE,eh,avz];omega
theorem xy:∀ l:List Fu,fE l≤fD (l.map fuE)
 | []=>by simp [fE]
 | x::r=>by
  have:=xy r
  have h1:=xw x.params
  have h2:=oV x.body
  rw [mz] at h2
  simp only [Hy,fE,szF,fD,fuE,bw,ay,eh,avz];omega
theorem EL (p:Pr):szP p≤eh (prE p):=by
 have h1:=xz p.arrays
 have h2:=xy p.funcs
 simp only [szP,prE,bU,bR,eh,avz];omega
theorem xc:Tryz.prog.globalNamed "retarget/retargetref20.words" = some 0:=by kernel_rfl
theorem rM:(Tryz.prog.globals[0]?).map (·.type)=some 125:=by kernel_rfl
theorem Cs:Tryz.prog.cellsOf 9=1:=by kernel_rfl
theorem Dt {K:Wd} (hK:Old K) {base:Nat} {spare:Nat→Bool} {held:Bool} {fuel:Nat} {cs:List Value} {bs:List Nm} {rest:List (DataW Unit)} {ps:List MemPlace}
  (h:DataW.trod (fun _=>()) Tryz.prog K.w base spare held fuel 125 cs=some (.slice (bs.map fun b=>.lit (.string b)) rest,ps)) :
  ∃ v,cs=[v]∧VR K 0 (.lst 1 (bs.map fun b=>[AV.str b])) v:=by
 rcases DataW.trod_slice Tryz.underlying125 h with ⟨_,hx⟩|⟨a,len,cap,elems,rst,m,hm,hcs,hx,_,hlc,hcap,hlen,hel,_,_⟩
 ·simp at hx
 ·simp only [Prod.mk.injEq,DataW.slice.injEq] at hx
  obtain ⟨⟨he,_⟩,_⟩:=hx
  rw [Cs] at hel
  have key:∀ (i:Nat) (b:Nm),bs[i]?=some b→i<len∧∃ s:ByteArray,K.w.cell? (a.add i)=some (.string s)∧s.data.toList=b:=by
   intro i b hb
   have h1:(elems.map (·.1))[i]?=some (.lit (.string b)):=by rw [← he,Hw,hb];rfl
   rw [Hw] at h1
   cases hy:elems[i]? with
   | none=>rw [hy] at h1;cases h1
   | some y =>
    rw [hy] at h1
    simp only [HN,Option.some.injEq] at h1
    have hi:i<len:=by rw [← hlen];exact (G9.1 hy).1
    have h2:=hel i hi
    rw [hy,Nat.mul_one] at h2
    obtain ⟨c,h3,h4⟩:=Option.bind_eq_some_iff.1 h2
    obtain ⟨s,rfl,hys,_⟩:=DataW.trod_string Tryz.underlying9 h4
    rw [hys] at h1
    simp only [DataW.lit.injEq,Lit.string.injEq] at h1
    obtain ⟨_,h6⟩:=i8 h3
    have h7:=h6 0 (by omega)
    refine ⟨hi,s,?_,h1⟩
    have h8:=o7 a i 0 (.string s) K.w (by simpa using h7)
    simpa using h8
  have hlb:bs.length=len:=by
   have:=congrArg List.length he
   simp only [He] at this
   omega
  refine ⟨_,hcs,.lst 1 _ a len cap (fun k=>(K.w.cell? (a.add k)).getD undef) (by simp [hlb]) hlc hcap (fun i e hi=>?_) (fun i e hi j x hx=>?_) (fun k hk=>?_) (fun i e hi j x hx=>?_)⟩
  ·rw [Hw] at hi
   cases hb:bs[i]? with
   | none=>rw [hb] at hi;cases hi
   | some b=>rw [hb] at hi;simp only [HN,Option.some.injEq] at hi;subst hi;rfl
  ·rw [Hw] at hi
   cases hb:bs[i]? with
   | none=>rw [hb] at hi;cases hi
   | some b =>
    rw [hb] at hi;simp only [HN,Option.some.injEq] at hi;subst hi
    match j,hx with
    | 0,hx=>simp at hx;subst hx;rfl
  ·have hk':k<bs.length:=by omega
   obtain ⟨_,s,h1,_⟩:=key k _ (G7 hk')
   exact ⟨by rw [h1];rfl,hK _ _ (lQ h1)⟩
  ·rw [Hw] at hi
   cases hb:bs[i]? with
   | none=>rw [hb] at hi;cases hi
   | some b =>
    rw [hb] at hi;simp only [HN,Option.some.injEq] at hi;subst hi
    match j,hx with
    | 0,hx =>
     simp at hx;subst hx
     obtain ⟨_,s,h1,h2⟩:=key i b hb
     rw [Nat.mul_one,Nat.add_zero,h1]
     exact .str b s h2
theorem zx {W:World} (h:laidMet Tryz.prog Rows.lowerMatchesUptoRow.laid W):GlR (wd0 W) 0:=by
 obtain ⟨ps,⟨g',t',cs,fuel,p,q,hg',ht',hvar,hd,_,_⟩,_⟩:=h
 obtain rfl:=Option.some.inj (xc.symm.trans hg')
 obtain rfl:=Option.some.inj (rM.symm.trans ht')
 obtain ⟨v,hv1,hv2⟩:=Dt (K:=wd0 W) (Old.wd0 W) (bs:=[[97,114,114,97,121],[102,117,110,99],[118,97,114],[105,102],[101,108,115,101],[119,104,105,108,101],[98,114,101,97,107],[116,101,108,108],[114,101,116,117,114,110],[115,105,103,110,101,100],[98,105,116],[98,121,116,101],[104,97,108,102],[119,111,114,100]]) hd
 intro g gcs hgl
 unfold GL at hgl
 split at hgl
 ·rename_i hg0
  subst hg0
  simp only [Option.some.injEq] at hgl
  subst hgl
  have hc:=World.var?_cell xc hvar 0
  have hc0:cs[0]?=some v:=by
   have:cs.toList[0]?=some v:=by rw [hv1];rfl
   simpa using this
  rw [hc0] at hc
  refine .fp _ _ (fun _=>v) (fun j x hx=>?_) (fun k hk=>?_) (fun j x hx=>?_)
  ·match j,hx with
   | 0,hx=>simp at hx;subst hx;rfl
  ·have hk0:k=0:=by simp at hk;exact hk
   subst hk0
   exact ⟨hc,Old.wd0 W _ _ (lQ hc)⟩
  ·match j,hx with
   | 0,hx=>simp at hx;subst hx;exact hv2
 ·cases hgl
end Go.Proofs.YtgeieafamocnhaaGreatDoor
