/- Dominators by rounds. -/
import Derived.Test.YtkhjclmfbmfahaaGreatDoorGL
namespace Go.Proofs.YtkhjclmfbmfahaaGreatDoor
open List renaming mem_cons → FD
open Bool renaming and_eq_true → Gd
set_option maxHeartbeats 64000000
open Go Go.Ab Go.Proofs
open Nat renaming reduceEqDiff → zp, reduceAdd → zq, reduceLeDiff → zr, reduceLT → zs, reduceBEq → zt
set_option linter.unusedVariables false
set_option linter.unusedSimpArgs false
set_option maxRecDepth 20000
theorem lY:∀ (dm:List Nat) (h:Heap) (k:Nat),k∉dm→aq (fm h dm) k=aq h k
 | [],_,_,_=>rfl
 | b::r,h,k,hk=>by
  simp only [FD,not_or] at hk
  rw [fm,lY r _ k hk.2,bT hk.1]
theorem rV:∀ (dm:List Nat) (h:Heap),dm.Nodup→(∀ d∈dm,aq h d=some .dfd)→lA h dm
 | [],_,_,_=>trivial
 | b::r,h,hn,hd=>by
  obtain ⟨n1,n2⟩:=List.nodup_cons.1 hn
  exact ⟨hd b (by simp),rV r _ n2 fun d hm=>by rw [bT (fun e=>n1 (by rw [← e];exact hm))];exact hd d (List.mem_cons_of_mem _ hm)⟩
theorem we (rs:List RV) (Q:AE→Heap→Nat→Prop) (env:Env) (h:Heap) (n:Nat) (dm:List Nat):Ab.Fin rs Q .ret ⟨env,h,n,dm⟩=(lA h dm∧∃ ys,ey env (fm h dm) rs=some ys∧Q (.ret (iA ys)) (fm h dm) n):=by simp [Ab.Fin]
structure DS (g:Fn) (cG cO bo cA all:Nat) (h:Heap) (nx:Nat) (dm D:List Nat):Prop where
 gG:aq h cG=some (.cells (fnE g))
 gO:aq h cO=some (.cells [.os bo 0 78 1 D.length])
 gb:aq h bo=some (.cells (D.map cY))
 gA:aq h cA=some (.cells [.int .u64 all])
 lt:cG<nx∧cO<nx∧bo<nx∧cA<nx
 ne:cG≠cO∧cG≠bo∧cG≠cA∧cO≠bo∧cO≠cA∧bo≠cA
 d1:∀ d∈dm,d<nx∧aq h d=some .dfd
 d2:dm.Nodup
theorem DS.ext {g:Fn} {cG cO bo cA all:Nat} {h h':Heap} {nx nx':Nat} {dm D:List Nat} (S:DS g cG cO bo cA all h nx dm D) (hn:nx≤nx') (hk:∀ k o,k<nx→aq h k=some o→aq h' k=some o):DS g cG cO bo cA all h' nx' dm D :=
 ⟨hk _ _ S.lt.1 S.gG,hk _ _ S.lt.2.1 S.gO,hk _ _ S.lt.2.2.1 S.gb,hk _ _ S.lt.2.2.2 S.gA,by have:=S.lt;omega,S.ne,fun d hd=>⟨by have:=(S.d1 d hd).1;omega,hk _ _ (S.d1 d hd).1 (S.d1 d hd).2⟩,S.d2⟩
theorem DS.set {g:Fn} {cG cO bo cA all:Nat} {h:Heap} {nx:Nat} {dm D:List Nat} (S:DS g cG cO bo cA all h nx dm D) (b v:Nat):DS g cG cO bo cA all ((bo,.cells ((D.set b v).map cY))::h) nx dm (D.set b v):=by
 obtain ⟨a1,a2,a3,a4,a5,a6,a7,a8⟩:=S
 refine ⟨by rw [af,if_neg (by omega)];exact a1,by rw [af,if_neg (by omega),List.length_set];exact a2,by rw [af,if_pos rfl],by rw [af,if_neg (by omega)];exact a4,a5,a6,fun d hd=>⟨(a7 d hd).1,?_⟩,a8⟩
 rw [af,if_neg (fun e=>?_)]
 ·exact (a7 d hd).2
 ·have:=(a7 d hd).2
  rw [← e,a3] at this;cases this
theorem DS.mark {g:Fn} {cG cO bo cA all:Nat} {h h':Heap} {nx nx' d:Nat} {dm D:List Nat} (S:DS g cG cO bo cA all h nx dm D) (hn:nx≤d) (hd:d<nx') (hk:∀ k o,k<nx→aq h k=some o→aq h' k=some o) (hh:aq h' d=some .dfd):DS g cG cO bo cA all h' nx' (d::dm) D:=by
 have S':=S.ext (nx':=nx') (by omega) hk
 refine ⟨S'.gG,S'.gO,S'.gb,S'.gA,S'.lt,S'.ne,fun e he=>?_,List.nodup_cons.2 ⟨fun hm=>?_,S.d2⟩⟩
 ·rcases FD.1 he with e1|e1
  ·subst e1;exact ⟨hd,hh⟩
  ·exact S'.d1 e e1
 ·have:=(S.d1 d hm).1;omega
theorem DS.all {g:Fn} {cG cO bo cA all:Nat} {h:Heap} {nx:Nat} {dm D:List Nat} (S:DS g cG cO bo cA all h nx dm D) (v:Nat):DS g cG cO bo cA v ((cA,.cells [.int .u64 v])::h) nx dm D:=by
 obtain ⟨a1,a2,a3,a4,a5,a6,a7,a8⟩:=S
 refine ⟨by rw [af,if_neg (by omega)];exact a1,by rw [af,if_neg (by omega)];exact a2,by rw [af,if_neg (by omega)];exact a3,by rw [af,if_pos rfl],a5,a6,fun d hd=>⟨(a7 d hd).1,?_⟩,a8⟩
 rw [af,if_neg (fun e=>?_)]
 ·exact (a7 d hd).2
 ·have:=(a7 d hd).2
  rw [← e,a4] at this;cases this
def o9 (l:List Nat):Nat:=l.foldl (fun m b=>m ||| 2 ^ b) 0
theorem r8 (i:Nat):∀ (l:List Nat) (m:Nat),(l.foldl (fun m b=>m ||| 2 ^ b) m).testBit i=(m.testBit i||decide (i∈l))
 | [],m=>by simp
 | b::l,m=>by
  rw [List.foldl_cons,r8 i l,Nat.testBit_or,Nat.testBit_two_pow]
  by_cases h:b=i
  ·subst h;simp
  ·have h':¬ i=b:=fun e=>h e.symm
   simp [h,h']
theorem kr (l:List Nat) (i:Nat):(o9 l).testBit i=decide (i∈l):=by rw [o9,r8];simp
theorem r9:∀ (l:List Nat) (m:Nat),m<18446744073709551616→(∀ x∈l,x<64)→l.foldl (fun m b=>m ||| 2 ^ b) m<18446744073709551616
 | [],m,h,_=>h
 | b::l,m,h,hl=>r9 l _ (iD h (jz (hl b (by simp)))) fun x hx=>hl x (List.mem_cons_of_mem _ hx)
theorem zi {l:List Nat} (h:∀ x∈l,x<64):o9 l<18446744073709551616:=r9 l 0 (by omega) h
theorem Bp (n:Nat):(List.replicate n [AV.int .u64 0]).flatten=(List.replicate n 0).map cY:=by
 rw [show (List.replicate n [AV.int .u64 0]).flatten=List.replicate n (AV.int .u64 0) by simp,List.map_replicate];rfl
section
variable {G:Nat→List Nat}
def Bw (G:Nat→List Nat) (h u:Nat):Prop:=h∈G u∧Dm G h u
def LI (G:Nat→List Nat) (h b:Nat):Prop:=b=h∨(Rch G b∧∃ u,Bw G h u∧Wy G (fun x=>x=h) b u)
theorem Bw.rch {h u:Nat} (b:Bw G h u):Rch G u:=b.2.2.1
theorem LI.bk {h u:Nat} (b:Bw G h u):LI G h u:=by
 by_cases e:u=h
 ·exact .inl e
 ·exact .inr ⟨b.rch,u,b,.nil e⟩
theorem LI.back {h b c:Nat} (hb:Rch G b) (hc:c∈G b) (hl:LI G h c) (hne:c≠h):LI G h b:=by
 by_cases e:b=h
 ·exact .inl e
 ·rcases hl with e2|⟨_,u,h1,h2⟩
  ·exact absurd e2 hne
  ·exact .inr ⟨hb,u,h1,(Wy.one (av:=fun x=>x=h) e hc hne).trans h2⟩
theorem LI.rch {h b:Nat} (hh:Rch G h) (hl:LI G h b):Rch G b:=by
 rcases hl with e|h
 ·subst e;exact hh
 ·exact h.1
structure LP (G:Nat→List Nat) (n h m:Nat):Prop where
 lt:m<18446744073709551616
 sub:∀ x,m.testBit x=true→x<n∧LI G h x
 hd:m.testBit h=true
 bk:∀ u,Bw G h u→m.testBit u=true
theorem LP.add {n h m b c:Nat} (l:LP G n h m) (hn:n≤60) (hb:b<n) (hr:Rch G b) (hc:c∈G b) (hm:m.testBit c=true) (hne:c≠h):LP G n h (m ||| 2 ^ b):=by
 refine ⟨iD l.lt (jz (by omega)),fun x hx=>?_,?_,fun u hu=>?_⟩
 ·rw [Nat.testBit_or,Nat.testBit_two_pow,Bool.or_eq_true,decide_eq_true_eq] at hx
  rcases hx with h1|h1
  ·exact l.sub x h1
  ·subst h1;exact ⟨hb,LI.back hr hc (l.sub c hm).2 hne⟩
 ·rw [Nat.testBit_or,l.hd];rfl
 ·rw [Nat.testBit_or,l.bk u hu];rfl
theorem LP.done {n h m:Nat} (l:LP G n h m) (hG:∀ x,Rch G x→x<n) (hh:h<n) (hf:∀ b,b<n→∀ c∈G b,Rch G b→m.testBit c=true→c≠h→m.testBit b=true):m=mkP n fun x=>LI G h x:=by
 apply kT
 intro x
 rw [pu,Bool.eq_iff_iff,Gd,decide_eq_true_eq,eY]
 refine ⟨fun hx=>l.sub x hx,fun ⟨h1,h2⟩=>?_⟩
 rcases h2 with e|⟨hr,u,hu,hw⟩
 ·subst e;exact l.hd
 ·exact hw.back (p:=fun x=>m.testBit x=true) (l.bk u hu) fun u' c w hc hv hp=>hf u' (hG _ (w.rchFrom hr)) c hc (w.rchFrom hr) hp hv
noncomputable def bkN (G:Nat→List Nat) (n h:Nat):Nat:=mkP n fun u=>Bw G h u
theorem LP.first {n h:Nat} (hn:n≤60) (hh:h<n) (hG:∀ x,Rch G x→x<n):LP G n h (bkN G n h ||| 2 ^ h):=by
 refine ⟨iD (Bq (by omega)) (jz (by omega)),fun x hx=>?_,?_,fun u hu=>?_⟩
 ·rw [Nat.testBit_or,Nat.testBit_two_pow,Bool.or_eq_true,decide_eq_true_eq,bkN,pu,Gd,decide_eq_true_eq,eY] at hx
  rcases hx with ⟨h1,h2⟩|h1
  ·exact ⟨h1,.bk h2⟩
  ·subst h1;exact ⟨hh,.inl rfl⟩
 ·rw [Nat.testBit_or,Nat.testBit_two_pow,decide_eq_true rfl,Bool.or_true]
 ·rw [Nat.testBit_or,bkN,pu,decide_eq_true (hG u hu.rch),pZ hu];rfl
end
def Que (h:Heap) (nx:Nat) (v:AV) (l:List Nat):Prop:=∃ b off cs,v=.os b off 3 1 l.length∧aq h b=some (.cells cs)∧cs.length=off+l.length∧cs.drop off=l.map icN∧b<nx
theorem Que.len {h:Heap} {nx:Nat} {v:AV} {l:List Nat} (q:Que h nx v l):eN v=some l.length:=by obtain ⟨b,off,cs,rfl,_⟩:=q;rfl
theorem Que.lt {h:Heap} {nx:Nat} {v:AV} {l:List Nat} (q:Que h nx v l) {k:Nat} (hk:aP v=some k):k<nx:=by
 obtain ⟨b,off,cs,rfl,_,_,_,hlt⟩:=q
 simp only [aP] at hk;cases hk;exact hlt
theorem Que.keep {h h':Heap} {nx nx':Nat} {v:AV} {l:List Nat} (q:Que h nx v l) (hn:nx≤nx') (hk:∀ k o,aP v=some k→aq h k=some o→aq h' k=some o):Que h' nx' v l:=by
 obtain ⟨b,off,cs,rfl,h1,h2,h3,h4⟩:=q
 exact ⟨b,off,cs,rfl,hk _ _ rfl h1,h2,h3,by omega⟩
theorem Que.head {h:Heap} {nx:Nat} {v:AV} {x:Nat} {r:List Nat} (q:Que h nx v (x::r)):∃ p cs,idxA 1 v 0=some p∧bK h p=some (.int .i64 x::cs)∧p.isFp=false:=by
 obtain ⟨b,off,cs,rfl,h1,h2,h3,h4⟩:=q
 refine ⟨.op b off,r.map icN,?_,?_,rfl⟩
 ·simp [idxA]
 ·simp only [bK,h1,h3];rfl
structure WI (G:Nat→List Nat) (av:Nat→Prop) (n fr:Nat) (S Q:List Nat) (ex:Nat→Prop):Prop where
 nd:S.Nodup
 lt:∀ x∈S,x<n
 wy:∀ x∈S,Wy G av fr x
 sub:∀ x∈Q,x∈S
 fr:fr∈S
 cl:∀ u∈S,¬ ex u→u∈Q∨∀ c∈G u,¬ av c→c∈S
theorem WI.add {G:Nat→List Nat} {av:Nat→Prop} {n fr c u:Nat} {S Q:List Nat} {ex:Nat→Prop} (w:WI G av n fr S Q ex) (hc:c<n) (hn:c∉S) (hv:¬ av c) (hu:u∈S) (hcu:c∈G u):WI G av n fr (c::S) (Q++[c]) ex:=by
 refine ⟨List.nodup_cons.2 ⟨hn,w.nd⟩,fun x hx=>?_,fun x hx=>?_,fun x hx=>?_,List.mem_cons_of_mem _ w.fr,fun x hx he=>?_⟩
 ·rcases FD.1 hx with e|e
  ·omega
  ·exact w.lt x e
 ·rcases FD.1 hx with e|e
  ·subst e;exact .snoc (w.wy u hu) hcu hv
  ·exact w.wy x e
 ·rcases List.mem_append.1 hx with e|e
  ·exact List.mem_cons_of_mem _ (w.sub x e)
  ·simp at e;subst e;exact List.mem_cons_self
 ·rcases FD.1 hx with e|e
  ·subst e;exact .inl (by simp)
  ·rcases w.cl x e he with h|h
   ·exact .inl (List.mem_append_left _ h)
   ·exact .inr fun d hd hdv=>List.mem_cons_of_mem _ (h d hd hdv)
noncomputable def wyL (G:Nat→List Nat) (n fr:Nat) (av:Nat→Prop):List Bool:=(List.range n).map fun x=>dc (Wy G av fr x)
theorem WI.done {G:Nat→List Nat} {av:Nat→Prop} {n fr:Nat} {S:List Nat} (w:WI G av n fr S [] fun _=>False):blL n S=wyL G n fr av:=by
 unfold blL wyL
 apply List.map_congr_left
 intro x _
 rw [← BK]
 refine Dw ⟨fun h=>w.wy x h,fun h=>h.closed (S:=fun x=>x∈S) w.fr fun u c hu hc hv=>?_⟩
 rcases w.cl u hu (fun h=>h) with h|h
 ·simp at h
 ·exact h c hc hv
end Go.Proofs.YtkhjclmfbmfahaaGreatDoor
