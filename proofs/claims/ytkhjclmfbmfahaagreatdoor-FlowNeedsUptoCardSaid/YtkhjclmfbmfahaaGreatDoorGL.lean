/- The order of the package: entering a block. -/
import Derived.Test.YtkhjclmfbmfahaaGreatDoorGK
namespace Go.Proofs.YtkhjclmfbmfahaaGreatDoor
set_option maxHeartbeats 64000000
open Go Go.Ab Go.Proofs
open Nat renaming reduceEqDiff → zp, reduceAdd → zq, reduceLeDiff → zr, reduceLT → zs, reduceBEq → zt
set_option linter.unusedVariables false
set_option linter.unusedSimpArgs false
set_option maxRecDepth 20000
def nbG (g:Fn) (b:Nat):List Nat:=match g.blocks[b]? with|some blk=>(nxL blk.to).map Int.toNat|none=>[]
theorem i9 {g:Fn} {b:Nat} {blk:Bk} (h:g.blocks[b]?=some blk):nbG g b=(nxL blk.to).map Int.toNat:=by rw [nbG,h]
theorem mP {c:Int}:∀ {l pre:List Int},c∈nxA pre l→c∈l
 | [],_,h=>by simp [nxA] at h
 | a::l,pre,h=>by
  simp only [nxA] at h
  split at h
  ·exact List.mem_cons_of_mem _ (mP h)
  ·rcases List.mem_cons.1 h with e|e
   ·subst e;exact List.mem_cons_self
   ·exact List.mem_cons_of_mem _ (mP e)
theorem kI {P:Pi} {g:Fn} (G:GdF P g) {b:Nat} {blk:Bk} (h:g.blocks[b]?=some blk) {c:Int} (hc:c∈nxL blk.to):0≤c∧c<(g.blocks.length:Int):=G.toR blk (List.mem_of_getElem? h) c (mP hc)
theorem uX {P:Pi} {g:Fn} (G:GdF P g):∀ b,∀ c∈nbG g b,c<g.blocks.length:=by
 intro b c hc
 unfold nbG at hc
 split at hc
 ·rename_i blk hb
  obtain ⟨d,hd,e⟩:=List.mem_map.1 hc
  have:=kI G hb hd
  omega
 ·simp at hc
def inN (l:List Nat):List (List AV):=l.map fun x:Nat=>inE (x:Int)
structure WS (g:Fn) (cS cG cE cO:Nat) (h:Heap) (nx:Nat) (v:AV) (st:List Nat × List Nat):Prop where
 gS:aq h cS=some (.cells [.int .u64 (msk st.1)])
 gG:aq h cG=some (.cells (fnE g))
 gE:aq h cE=some (.cells [.fn (.func 54) [.op cS 0,.op cG 0,.op cE 0,.op cO 0]])
 gO:aq h cO=some (.cells [v])
 ow:aR 3 1 h nx v (inN st.2)
 lS:cS<nx
 lG:cG<nx
 lE:cE<nx
 lO:cO<nx
 d1:cS≠cG∧cS≠cE∧cS≠cO∧cG≠cE∧cG≠cO∧cE≠cO
 ap:aP v≠some cS∧aP v≠some cG∧aP v≠some cE∧aP v≠some cO
theorem WS.ext {g:Fn} {cS cG cE cO:Nat} {h h':Heap} {nx nx':Nat} {v:AV} {st:List Nat × List Nat} (W:WS g cS cG cE cO h nx v st) (hn:nx≤nx') (hk:∀ k o,(k=cS∨k=cG∨k=cE∨k=cO∨aP v=some k)→aq h k=some o→aq h' k=some o):WS g cS cG cE cO h' nx' v st :=
 ⟨hk _ _ (by simp) W.gS,hk _ _ (by simp) W.gG,hk _ _ (by simp) W.gE,hk _ _ (by simp) W.gO,W.ow.keep hn fun b o e h=>hk _ _ (by simp [e]) h,by have:=W.lS;omega,by have:=W.lG;omega,by have:=W.lE;omega,by have:=W.lO;omega,W.d1,W.ap⟩
section
variable {α:Type} {f:α→AV} {H:Heap} {b i n:Nat} {l:List α}
theorem fV {e:TypeId} (h:i<n):idxA 1 (.os b 0 e 1 n) (i:Int)=some (.op b i):=by
 have:(i:Int)<(n:Int):=by omega
 simp [idxA,this]
end
def icN (x:Nat):AV:=.int .i64 x
theorem eB {α:Type} {f:α→AV} {l:List α} {i:Nat} {x:α} (h:l[i]?=some x):(l.map f).drop i=f x::(l.map f).drop (i+1):=bA (by simp [h])
theorem kf {α:Type} {f:α→AV} {l:List α} {i:Nat} (h:i<l.length) (y:α):(l.map f).take i++f y::(l.map f).drop (i+1)=(l.set i y).map f:=by
 rw [List.map_set,List.set_eq_take_append_cons_drop,if_pos (by simpa using h)]
theorem mU {α:Type} {f:α→AV} {l:List α} {i:Nat} (h:i<l.length):(i+1≤(l.map f).length)=True:=eq_true (by simp;omega)
def blL (n:Nat) (s:List Nat):List Bool:=(List.range n).map fun x=>decide (x∈s)
theorem rZ (n:Nat) (s:List Nat):(blL n s).length=n:=by simp [blL]
theorem BU {n:Nat} {s:List Nat} {x:Nat} (h:x<n):(blL n s)[x]?=some (decide (x∈s)):=by simp [blL,h]
structure WR (N:List (List Int)) (w be:Nat) (h:Heap) (nx:Nat) (v:AV) (st:List Nat × List Nat):Prop where
 gW:aq h w=some (.cells [ntA N,.os be 0 4 1 N.length,v])
 gB:aq h be=some (.cells ((blL N.length st.1).map .bool))
 ow:aR 3 1 h nx v (inN st.2)
 lW:w<nx
 lB:be<nx
 ne:w≠be
 a1:aP v≠some w
 a2:aP v≠some be
theorem WR.ext {N:List (List Int)} {w be:Nat} {h h':Heap} {nx nx':Nat} {v:AV} {st:List Nat × List Nat} (W:WR N w be h nx v st) (hn:nx≤nx') (hk:∀ k o,(k=w∨k=be∨aP v=some k)→aq h k=some o→aq h' k=some o):WR N w be h' nx' v st :=
 ⟨hk _ _ (by simp) W.gW,hk _ _ (by simp) W.gB,W.ow.keep hn fun b o e h=>hk _ _ (by simp [e]) h,by have:=W.lW;omega,by have:=W.lB;omega,W.ne,W.a1,W.a2⟩
theorem zU {n b:Nat} (h:n≤4000000) (hb:b≤100):(0≤(n:Int)∧(n:Int)≤(n:Int)∧((b:Nat):Int)*(n:Int)≤281474976710656∧(n:Int)≤9223372036854775807)=True:=by
 have:b*n≤100*4000000:=Nat.mul_le_mul hb h
 exact eq_true ⟨by omega,by omega,by rw [← Int.natCast_mul];omega,by omega⟩
theorem CQ (n:Nat):(List.replicate n [AV.bool false]).flatten=(blL n []).map .bool:=by
 apply List.ext_getElem?
 intro i
 by_cases h:i<n
 ·have e1:((blL n []).map AV.bool)[i]?=some (.bool false):=by rw [List.getElem?_map,BU h];simp
  rw [e1,show (List.replicate n [AV.bool false]).flatten=List.replicate n (AV.bool false) by simp]
  simp [h]
 ·rw [List.getElem?_eq_none (by simp;omega),List.getElem?_eq_none (by simp [rZ];omega)]
noncomputable def dc (p:Prop):Bool:=@decide p (Classical.propDecidable p)
theorem eY {p:Prop}:dc p=true↔p:=@decide_eq_true_iff p (Classical.propDecidable p)
theorem pZ {p:Prop} (h:p):dc p=true:=eY.2 h
theorem Dv {p:Prop} (h:¬ p):dc p=false:=Bool.eq_false_iff.2 fun e=>h (eY.1 e)
theorem Dw {p q:Prop} (h:p↔q):dc p=dc q:=by rw [propext h]
theorem BK {p:Prop} [Decidable p]:dc p=decide p:=by
 by_cases h:p
 ·rw [pZ h,decide_eq_true h]
 ·rw [Dv h,decide_eq_false h]
noncomputable def mkP (n:Nat) (p:Nat→Prop):Nat:=msk ((List.range n).filter fun x=>dc (p x))
theorem pu {n x:Nat} {p:Nat→Prop}:(mkP n p).testBit x=(decide (x<n)&&dc (p x)):=by
 rw [mkP,ua]
 simp only [List.mem_filter,List.mem_range]
 by_cases h:x<n <;> cases hd:dc (p x) <;> simp [h]
theorem Bq {n:Nat} {p:Nat→Prop} (hn:n≤64):mkP n p<18446744073709551616:=uY fun x hx=>by
 have:=List.mem_range.1 (List.mem_filter.1 hx).1
 omega
theorem kT {a b:Nat} (h:∀ i,a.testBit i=b.testBit i):a=b:=Nat.eq_of_testBit_eq h
theorem oC {a b:Nat} (h:∀ i,a.testBit i=true→b.testBit i=true):a≤b:=by
 have e:a &&& b=a:=kT fun i=>by
  rw [Nat.testBit_and]
  cases ha:a.testBit i
  ·rfl
  ·rw [h i ha];rfl
 rw [← e];exact Nat.and_le_right
section
variable (G:Nat→List Nat) (ord:List Nat) (all:Nat)
def oi (D:Nat→Nat) (b:Nat):List Nat→Nat→Nat
 | [],m=>m
 | a::r,m=>oi D b r ((G a).foldl (fun m c=>if c=b then m &&& D a else m) m)
theorem rR (D:Nat→Nat) (b a i:Nat):∀ (l:List Nat) (m:Nat),(l.foldl (fun m c=>if c=b then m &&& D a else m) m).testBit i=(m.testBit i&&(!decide (b∈l)||(D a).testBit i))
 | [],m=>by simp
 | c::l,m=>by
  rw [List.foldl_cons,rR D b a i l]
  by_cases h:c=b
  ·subst h
   rw [if_pos rfl,Nat.testBit_and]
   cases m.testBit i <;> cases (D a).testBit i <;> simp
  ·have h':¬ b=c:=fun e=>h e.symm
   rw [if_neg h]
   simp [h']
theorem rI (D:Nat→Nat) (b i:Nat):∀ (l:List Nat) (m:Nat),(oi G D b l m).testBit i=true↔m.testBit i=true∧∀ a∈l,b∈G a→(D a).testBit i=true
 | [],m=>by simp [oi]
 | a::r,m=>by
  rw [oi,rI D b i r,rR]
  simp only [Bool.and_eq_true,Bool.or_eq_true,Bool.not_eq_true',decide_eq_false_iff_not,List.mem_cons,forall_eq_or_imp]
  constructor
  ·rintro ⟨⟨h1,h2⟩,h3⟩
   exact ⟨h1,fun hb=>h2.resolve_left fun hn=>hn hb,h3⟩
  ·rintro ⟨h1,h2,h3⟩
   refine ⟨⟨h1,?_⟩,h3⟩
   by_cases hb:b∈G a
   ·exact .inr (h2 hb)
   ·exact .inl hb
end
section
variable {G:Nat→List Nat}
structure DI (G:Nat→List Nat) (D:Nat→Nat):Prop where
 lt:∀ b,D b<18446744073709551616
 zero:D 0=1
 un:∀ b,¬ Rch G b→D b=0
 rch:∀ b i,(D b).testBit i=true→Rch G i
 up:∀ a b,Dm G a b→(D b).testBit a=true
 post:∀ b i,b≠0→Rch G b→i≠b→Rch G i→(∀ u,Rch G u→b∈G u→(D u).testBit i=true)→(D b).testBit i=true
theorem t9 (i:Nat):(1:Nat).testBit i=decide (i=0):=by
 have:=Nat.testBit_two_pow (n:=0) (m:=i)
 simp only [Nat.pow_zero] at this
 rw [this]
 by_cases h:i=0
 ·subst h;rfl
 ·rw [decide_eq_false h,decide_eq_false fun e=>h e.symm]
theorem DI.rb {D:Nat→Nat} (d:DI G D) {b i:Nat} (h:(D b).testBit i=true):Rch G b:=Classical.byContradiction fun hn=>by
 rw [d.un b hn] at h;simp at h
theorem DI.first {all:Nat} (hall:∀ i,all.testBit i=true↔Rch G i) (hlt:all<18446744073709551616) {D:Nat→Nat} (h0:D 0=1) (hr:∀ b,b≠0→Rch G b→D b=all) (hu:∀ b,¬ Rch G b→D b=0):DI G D:=by
 refine ⟨fun b=>?_,h0,hu,fun b i h=>?_,fun a b h=>?_,fun b i hb hbr hne hir _=>by rw [hr b hb hbr];exact (hall i).2 hir⟩
 ·by_cases e:b=0
  ·subst e;omega
  ·by_cases h:Rch G b
   ·rw [hr b e h];exact hlt
   ·rw [hu b h];omega
 ·by_cases e:b=0
  ·subst e
   rw [h0,t9] at h
   have:i=0:=of_decide_eq_true h
   subst this;exact .zero
  ·by_cases hb:Rch G b
   ·rw [hr b e hb] at h;exact (hall i).1 h
   ·rw [hu b hb] at h;simp at h
 ·by_cases e:b=0
  ·subst e
   have:=h.of_zero
   subst this
   rw [h0,t9];rfl
  ·rw [hr b e h.2.1];exact (hall a).2 h.1
def yD (G:Nat→List Nat) (ord:List Nat) (all:Nat) (D:Nat→Nat) (b:Nat):Nat:=oi G D b ord all ||| 2 ^ b
variable {ord:List Nat} {all:Nat}
theorem pG (hall:∀ i,all.testBit i=true↔Rch G i) (hord:∀ x,x∈ord↔Rch G x) (D:Nat→Nat) (b i:Nat):(yD G ord all D b).testBit i=true↔i=b∨(Rch G i∧∀ u,Rch G u→b∈G u→(D u).testBit i=true):=by
 rw [yD,Nat.testBit_or,Bool.or_eq_true,rI,hall,Nat.testBit_two_pow,decide_eq_true_eq]
 constructor
 ·rintro (⟨h1,h2⟩|h)
  ·exact .inr ⟨h1,fun u hu hb=>h2 u ((hord u).2 hu) hb⟩
  ·exact .inl h.symm
 ·rintro (h|⟨h1,h2⟩)
  ·exact .inr h.symm
  ·exact .inl ⟨h1,fun a ha hb=>h2 a ((hord a).1 ha) hb⟩
theorem DI.new_le {D:Nat→Nat} (d:DI G D) (hall:∀ i,all.testBit i=true↔Rch G i) (hord:∀ x,x∈ord↔Rch G x) {b:Nat} (hb:Rch G b) (h0:b≠0) (i:Nat) (h:(yD G ord all D b).testBit i=true):(D b).testBit i=true:=by
 rcases (pG hall hord D b i).1 h with e|⟨h1,h2⟩
 ·subst e;exact d.up _ _ (Dm.refl hb)
 ·by_cases e:i=b
  ·subst e;exact d.up _ _ (Dm.refl hb)
  ·exact d.post b i h0 hb e h1 h2
theorem DI.upd {D D':Nat→Nat} (d:DI G D) (hall:∀ i,all.testBit i=true↔Rch G i) (hord:∀ x,x∈ord↔Rch G x) {b:Nat} (hb:Rch G b) (h0:b≠0) (hn:D' b=yD G ord all D b) (he:∀ c,c≠b→D' c=D c):DI G D':=by
 have hle:∀ c i,(D' c).testBit i=true→(D c).testBit i=true:=fun c i h=>by
  by_cases e:c=b
  ·subst e;rw [hn] at h;exact d.new_le hall hord hb h0 i h
  ·rw [he c e] at h;exact h
 refine ⟨fun c=>Nat.lt_of_le_of_lt (oC (hle c)) (d.lt c),by rw [he 0 (fun e=>h0 e.symm)];exact d.zero,fun c hc=>?_,fun c i h=>d.rch c i (hle c i h),fun a c h=>?_,fun c i hc0 hcr hne hir hu=>?_⟩
 ·rw [he c (fun e=>by subst e;exact hc hb)];exact d.un c hc
 ·by_cases e:c=b
  ·subst e
   rw [hn,pG hall hord]
   by_cases ea:a=c
   ·exact .inl ea
   ·exact .inr ⟨h.1,fun u hu hcu=>d.up a u (h.pred ea hu hcu)⟩
  ·rw [he c e];exact d.up a c h
 ·by_cases e:c=b
  ·subst e
   rw [hn,pG hall hord]
   exact .inr ⟨hir,fun u h1 h2=>hle u i (hu u h1 h2)⟩
  ·rw [he c e];exact d.post c i hc0 hcr hne hir fun u h1 h2=>hle u i (hu u h1 h2)
theorem rn:∀ (D:List Nat) (b v:Nat),b<D.length→(D.set b v).sum+D.getD b 0=D.sum+v
 | [],_,_,h=>by simp at h
 | a::r,0,v,_=>by simp [List.getD_cons_zero];omega
 | a::r,b+1,v,h=>by
  have:=rn r b v (by simpa using h)
  simp only [List.set_cons_succ,List.sum_cons,List.getD_cons_succ];omega
end
def cY (x:Nat):AV:=.int .u64 x
theorem bE (n:Nat):(1≤n+1)=True:=eq_true (by omega)
end Go.Proofs.YtkhjclmfbmfahaaGreatDoor
