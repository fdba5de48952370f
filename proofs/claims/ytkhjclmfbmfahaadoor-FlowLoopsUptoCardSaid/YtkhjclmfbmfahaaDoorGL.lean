/- The order of the package: entering a block. -/
import Derived.Test.YtkhjclmfbmfahaaDoorGK
namespace Go.Proofs.YtkhjclmfbmfahaaDoor
open List renaming getElem?_eq_getElem → D9, mem_of_getElem? → Ea, length_cons → Ee, mem_map → Ei, flatten_cons → ED
open Bool renaming and_eq_true → EU
open Nat renaming le_refl → E5
set_option maxHeartbeats 64000000
open Go Go.Ab Go.Proofs
open Nat renaming reduceEqDiff → zp, reduceAdd → zq, reduceLeDiff → zr, reduceLT → zs, reduceBEq → zt
set_option linter.unusedVariables false
set_option linter.unusedSimpArgs false
set_option maxRecDepth 20000
def nbG (g:Fn) (b:Nat):List Nat:=match g.blocks[b]? with|some blk=>(nxL blk.to).map Int.toNat|none=>[]
theorem e8 {g:Fn} {b:Nat} {blk:Bk} (h:g.blocks[b]?=some blk):nbG g b=(nxL blk.to).map Int.toNat:=by rw [nbG,h]
theorem mK {c:Int}:∀ {l pre:List Int},c∈nxA pre l→c∈l
 | [],_,h=>by simp [nxA] at h
 | a::l,pre,h=>by
  simp only [nxA] at h
  split at h
  ·exact List.mem_cons_of_mem _ (mK h)
  ·rcases List.mem_cons.1 h with e|e
   ·subst e;exact List.mem_cons_self
   ·exact List.mem_cons_of_mem _ (mK e)
theorem gY {P:Pi} {g:Fn} (G:GdF P g) {b:Nat} {blk:Bk} (h:g.blocks[b]?=some blk) {c:Int} (hc:c∈nxL blk.to):0≤c∧c<(g.blocks.length:Int):=G.toR blk (Ea h) c (mK hc)
theorem lU {P:Pi} {g:Fn} (G:GdF P g):∀ b,∀ c∈nbG g b,c<g.blocks.length:=by
 intro b c hc
 unfold nbG at hc
 split at hc
 ·rename_i blk hb
  obtain ⟨d,hd,e⟩:=Ei.1 hc
  have:=gY G hb hd
  omega
 ·simp at hc
def inN (l:List Nat):List (List AV):=l.map fun x:Nat=>inE (x:Int)
theorem iB (l:List Nat):∀ z∈inN l,z.length=1:=fun z hz=>by
 obtain ⟨r,_,rfl⟩:=Ei.1 hz;rfl
structure WS (g:Fn) (cS cG cE cO:Nat) (h:Heap) (nx:Nat) (v:AV) (st:List Nat × List Nat):Prop where
 gS:ay h cS=some (.cells [.int .u64 (msk st.1)])
 gG:ay h cG=some (.cells (fnE g))
 gE:ay h cE=some (.cells [.fn (.func 37) [.op cS 0,.op cG 0,.op cE 0,.op cO 0]])
 gO:ay h cO=some (.cells [v])
 ow:aU 3 1 h nx v (inN st.2)
 lS:cS<nx
 lG:cG<nx
 lE:cE<nx
 lO:cO<nx
 d1:cS≠cG∧cS≠cE∧cS≠cO∧cG≠cE∧cG≠cO∧cE≠cO
 ap:aS v≠some cS∧aS v≠some cG∧aS v≠some cE∧aS v≠some cO
def Kp (cS cO:Nat) (h:Heap) (nx:Nat) (v:AV) (h':Heap):Prop:=∀ k o,k<nx→k≠cS→k≠cO→aS v≠some k→ay h k=some o→ay h' k=some o
theorem WS.ext {g:Fn} {cS cG cE cO:Nat} {h h':Heap} {nx nx':Nat} {v:AV} {st:List Nat × List Nat} (W:WS g cS cG cE cO h nx v st) (hn:nx≤nx') (hk:∀ k o,(k=cS∨k=cG∨k=cE∨k=cO∨aS v=some k)→ay h k=some o→ay h' k=some o):WS g cS cG cE cO h' nx' v st :=
 ⟨hk _ _ (by simp) W.gS,hk _ _ (by simp) W.gG,hk _ _ (by simp) W.gE,hk _ _ (by simp) W.gO,W.ow.keep hn fun b o e h=>hk _ _ (by simp [e]) h,by have:=W.lS;omega,by have:=W.lG;omega,by have:=W.lE;omega,by have:=W.lO;omega,W.d1,W.ap⟩
theorem tL (rs:List RV) (Q:AE→Heap→Nat→Prop) (env:Env) (h:Heap) (n b:Nat):Ab.Fin rs Q .normal ⟨env,h,n,[b]⟩=(ay h b=some .dfd∧∃ ys,eo env (bQ h b) rs=some ys∧Q (.ret (gP ys)) (bQ h b) n):=by simp [Ab.Fin,kf,eK]
theorem w54 {P:Pi} {g:Fn} (G:GdF P g) {cS cG cE cO:Nat}:∀ (k b:Nat) (st:List Nat × List Nat) (h:Heap) (nx:Nat) (v:AV),OkS g.blocks.length st→b<g.blocks.length→b∉st.1→g.blocks.length≤k+st.1.length →
  WS g cS cG cE cO h nx v st→AC Tryd.prog 37 [.int .i64 b,.op cS 0,.op cG 0,.op cE 0,.op cO 0] h nx fun y h' n'=>y=.ret (.tup [])∧nx≤n'∧Kp cS cO h nx v h' ∧
   ∃ v',WS g cS cG cE cO h' n' v' (dE (nbG g) k b st)∧∀ c,aS v'=some c→nx≤c∨aS v=some c:=by
 have hG:=lU G
 have hn60:=G.n2
 intro k
 induction k with
 | zero =>
  intro b st h nx v ok h3 h4 h5 W
  have:=dk g.blocks.length (l:=b::st.1) (List.nodup_cons.2 ⟨h4,ok.nd⟩) (ok.enter h3 h4).lt
  rw [Ee] at this
  omega
 | succ k ih =>
  intro b st h nx v ok h3 h4 h5 W
  have W0:=W
  obtain ⟨gS,gG,gE,gO,ow,lS,lG,lE,lO,⟨e1,e2,e3,e4,e5,e6⟩,a1,a2,a3,a4⟩:=W
  refine AC.go aI is54 (by simp) ?_
  have hm:=mP (s:=st.1) fun x hx=>by have:=ok.lt x hx;omega
  have w:=w40 (msk st.1) b hm (by omega)
  have fl:=jL g
  have ft:=iD g
  have ff:=bK g
  have hblk:=D9 h3
  generalize g.blocks[b]=blk at hblk
  have q1:(cS=cG)=False:=eq_false e1
  have nbe:=e8 hblk
  rw [ff] at fl ft gG
  simp -implicitDefEqProofs only [RA,ae,zp,↓reduceIte,reduceCtorEq,zq,zr,zs,zt,↓az,↓aA,↓ar,↓aq,↓aw,↓au,↓ak,↓aj,↓aC,↓aB,↓aE,↓aD,unA,ne_eq,not_true_eq_false,not_false_eq_true,A54,Dj,gS]
  refine w.use fun n1 hn1=>?_
  have w2:=w25 g b ((cS,.cells [.int .u64 ((msk st.1 ||| 2 ^ b:Nat):Int)])::h) n1
  rw [ff] at w2
  simp -implicitDefEqProofs only [RA,ae,zp,↓reduceIte,reduceCtorEq,zq,zr,zs,zt,↓az,↓aA,↓ar,↓aq,↓aw,↓au,↓ak,↓aj,↓aC,↓aB,↓aE,↓aD,unA,ne_eq,not_true_eq_false,not_false_eq_true,gS,gG,fl,ft,q1]
  refine w2.mono ?_
  rintro y hh nn ⟨rfl,rfl,rfl⟩
  simp -implicitDefEqProofs only [RA,ae,zp,↓reduceIte,reduceCtorEq,zq,zr,zs,zt,↓az,↓aA,↓ar,↓aq,↓aw,↓au,↓ak,↓aj,↓aC,↓aB,↓aE,↓aD,unA,ne_eq,not_true_eq_false,not_false_eq_true,cN]
  have okb:=ok.enter h3 h4
  refine ku hblk (by have:=G.to2 blk (Ea hblk);omega) (c1:=n1) (c2:=n1+1) (by simp [oev,ah]) (by decide)
   (fun pre h2 n2=>∃ v2,WS g cS cG cE cO h2 n2 v2 (dF (nbG g) k (pre.map Int.toNat) (b::st.1,st.2))∧n1+4≤n2∧ay h2 n1=some (.cells (fnE g))∧ay h2 (n1+1)=some (.cells [.int .i64 b])∧Kp cS cO h nx v h2∧∀ c,aS v2=some c→n1+4≤c∨aS v=some c)
   (fun x=>(6,.int .i64 x)::(13,.int .i64 x)::[(12,.fn (.func 28) [.op n1 0,.op (n1+1) 0]),(11,.int .i64 b),(10,.agg [.str g.name,bj g.params,.int .i64 g.result,bj g.locals,cg g.blocks]),(9,.agg [.int .u64 ((msk st.1 ||| 2 ^ b:Nat):Int)]),(8,.int .i64 b),(7,.agg [.int .u64 (msk st.1)]),(0,.int .i64 b),(1,.op cS 0),(2,.op cG 0),(3,.op cE 0),(4,.op cO 0)])
   ?_ ?_ ?_ ?_ ?_ ?_ ?_
  ·rintro pre h2 n2 n3 ⟨v2,b1,b2,b3,b4,b5,b6⟩ hn
   exact ⟨v2,b1.ext hn fun _ _ _ h=>h,by omega,b3,b4,b5,b6⟩
  ·rintro pre h2 h3 n2 ⟨v2,b1,b2,b3,b4,b5,b6⟩ hk
   simp only at hk
   have hv:∀ c,aS v2=some c→c≠n1+1+1+1:=fun c hc=>by
    rcases b6 c hc with h|h
    ·omega
    ·have:=(ow.blk h).2.2;omega
   refine ⟨v2,b1.ext (E5 _) fun k o hk1 hk2=>?_,b2,by rw [hk _ (by omega)];exact b3,by rw [hk _ (by omega)];exact b4,fun k o c1 c2 c3 c4 c5=>by rw [hk _ (by omega)];exact b5 k o c1 c2 c3 c4 c5,b6⟩
   rw [hk]
   ·exact hk2
   ·rcases hk1 with h|h|h|h|h
    ·omega
    ·omega
    ·omega
    ·omega
    ·exact hv k h
  ·rintro pre h2 n2 ⟨v2,b1,b2,b3,b4,b5,b6⟩
   exact ⟨b3,b4⟩
  ·intro L
   have hget4:∀ q,q<nx→q≠cS→ay ((n1+1+1+1,L)::(n1+1+1,.dfd)::(n1+1,.cells [.int .i64 b])::(n1,.cells [.str g.name,bj g.params,.int .i64 g.result,bj g.locals,cg g.blocks])::(cS,.cells [.int .u64 ((msk st.1 ||| 2 ^ b:Nat):Int)])::h) q=ay h q:=fun q h1 h2=>by
    rw [af,if_neg (by omega),af,if_neg (by omega),af,if_neg (by omega),af,if_neg (by omega),af,if_neg (by omega)]
   refine ⟨v,⟨?_,?_,?_,?_,ow.keep (by simp only;omega) fun c o hc ho=>?_,by simp only;omega,by simp only;omega,by simp only;omega,by simp only;omega,W0.d1,W0.ap⟩,by simp only;omega,?_,?_,fun q o c1 c2 c3 c4 c5=>by simp only;rw [hget4 q c1 c2];exact c5,fun c hc=>.inr hc⟩
   ·simp only;rw [af,if_neg (by omega),af,if_neg (by omega),af,if_neg (by omega),af,if_neg (by omega),af,if_pos rfl];rfl
   ·simp only;rw [hget4 _ lG (by omega),ff];exact gG
   ·simp only;rw [hget4 _ lE (by omega)];exact gE
   ·simp only;rw [hget4 _ lO (by omega)];exact gO
   ·simp only;rw [hget4 c (ow.blk hc).2.2 (fun e=>a1 (by rw [hc,e]))];exact ho
   ·simp only;rw [af,if_neg (by omega),af,if_neg (by omega),af,if_neg (by omega),af,if_pos rfl,ff]
   ·simp only;rw [af,if_neg (by omega),af,if_neg (by omega),af,if_pos rfl]
  ·intro x h2 n2 l
   refine dH aI ?_
   simp -implicitDefEqProofs only [RA,ae,zp,↓reduceIte,reduceCtorEq,zq,zr,zs,zt,↓az,↓aA,↓ar,↓aq,↓aw,↓au,↓ak,↓aj,↓aC,↓aB,↓aE,↓aD,unA,ne_eq,not_true_eq_false,not_false_eq_true,zf,wr]
  ·rintro pre x suf h2 n2 l hsp hn ⟨v2,b1,b2,b3,b4,b5,b6⟩
   have hxm:x∈nxL blk.to:=by rw [hsp];simp
   have hxr:=gY G hblk hxm
   obtain ⟨c,rfl⟩:∃ c:Nat,x=(c:Int):=⟨x.toNat,by omega⟩
   have hcn:c<g.blocks.length:=by omega
   have hpre:∀ d∈pre.map Int.toNat,d<g.blocks.length:=fun d hd=>by
    obtain ⟨z,hz,e⟩:=Ei.1 hd
    have:=gY G hblk (c:=z) (by rw [hsp];simp [hz])
    omega
   have dr:=rP hG k (pre.map Int.toNat) (b::st.1,st.2) okb.nd okb.lt hpre (by simp only [Ee];omega)
   have okr:=okb.of dr
   have hlen:=dr.len
   simp only [Ee] at hlen
   have hmap:(pre++[(c:Int)]).map Int.toNat=pre.map Int.toNat++[c]:=by simp
   have hsn:=yg (nbG g) k (pre.map Int.toNat) c (b::st.1,st.2)
   generalize dF (nbG g) k (pre.map Int.toNat) (b::st.1,st.2)=r at b1 okr hlen hsn
   have hm2:=mP (s:=r.1) fun x hx=>by have:=okr.lt x hx;omega
   have w30':=w30 (msk r.1) c hm2 (by omega)
   rw [pr] at w30'
   have bS:=b1.gS
   have bE:=b1.gE
   refine dH aI ?_
   simp -implicitDefEqProofs only [RA,ae,zp,↓reduceIte,reduceCtorEq,zq,zr,zs,zt,↓az,↓aA,↓ar,↓aq,↓aw,↓au,↓ak,↓aj,↓aC,↓aB,↓aE,↓aD,unA,ne_eq,not_true_eq_false,not_false_eq_true,ze,wq,bS]
   refine w30'.use fun n3 hn3=>?_
   rcases ai (c∈r.1) with ⟨c1,d1⟩|⟨c1,d1⟩
   ·rw [if_pos c1] at hsn
    simp -implicitDefEqProofs only [RA,ae,zp,↓reduceIte,reduceCtorEq,zq,zr,zs,zt,↓az,↓aA,↓ar,↓aq,↓aw,↓au,↓ak,↓aj,↓aC,↓aB,↓aE,↓aD,unA,ne_eq,not_true_eq_false,not_false_eq_true,d1]
    exact ⟨by simp only at hn;omega,fun _ _ _ h=>h,v2,by rw [hmap,hsn];exact b1.ext hn3 fun _ _ _ h=>h,by omega,b3,b4,b5,b6⟩
   ·rw [if_neg c1] at hsn
    simp -implicitDefEqProofs only [RA,ae,zp,↓reduceIte,reduceCtorEq,zq,zr,zs,zt,↓az,↓aA,↓ar,↓aq,↓aw,↓au,↓ak,↓aj,↓aC,↓aB,↓aE,↓aD,unA,ne_eq,not_true_eq_false,not_false_eq_true,d1,bE]
    refine (ih c r h2 n3 v2 okr hcn c1 (by omega) (b1.ext hn3 fun _ _ _ h=>h)).mono ?_
    rintro y h5 n5 ⟨rfl,hn5,hk5,v5,W5,id5⟩
    have hnv:∀ q,q<n1+4→nx≤q→aS v2≠some q:=fun q h1 h2 e=>by
     rcases b6 q e with h|h
     ·omega
     ·have:=(ow.blk h).2.2;omega
    simp -implicitDefEqProofs only [RA,ae,zp,↓reduceIte,reduceCtorEq,zq,zr,zs,zt,↓az,↓aA,↓ar,↓aq,↓aw,↓au,↓ak,↓aj,↓aC,↓aB,↓aE,↓aD,unA,ne_eq,not_true_eq_false,not_false_eq_true]
    refine ⟨by omega,fun q o hq ho=>hk5 q o (by omega) (by omega) (by omega) (hnv q (by omega) (by omega)) ho,v5,by rw [hmap,hsn];exact W5,by omega,hk5 _ _ (by omega) (by omega) (by omega) (hnv _ (by omega) (by omega)) b3,hk5 _ _ (by omega) (by omega) (by omega) (hnv _ (by omega) (by omega)) b4,fun q o c2 c3 c4 c5 c6=>hk5 q o (by omega) c3 c4 (fun e=>?_) (b5 q o c2 c3 c4 c5 c6),fun q hq=>?_⟩
    ·rcases b6 q e with h|h
     ·omega
     ·exact c5 h
    ·rcases id5 q hq with h|h
     ·exact .inl (by omega)
     ·exact b6 q h
  ·intro h2 n2 hn hd ⟨v2,b1,b2,b3,b4,b5,b6⟩
   rw [← nbe] at b1
   have dr:=rP hG k (nbG g b) (b::st.1,st.2) okb.nd okb.lt (hG b) (by simp only [Ee];omega)
   have okr:=okb.of dr
   have hsn:=mV (nbG g) k b st
   generalize dF (nbG g) k (nbG g b) (b::st.1,st.2)=r at b1 okr hsn
   have hl:=okr.len
   obtain ⟨v',h4,n4,ea,og,hle,fr,id⟩:=b1.ow.grw (bytes:=8) (ns:=[inE (b:Int)]) (iB _) (by simp [inE]) (by simp [inN];omega) (by simp [inN,maxLen];omega)
   rw [inE] at ea
   have bO:=b1.gO
   obtain ⟨s1,s2,s3,s4⟩:=b1.ap
   have gO4:=fr _ _ b1.lO b1.gO s4
   obtain ⟨vc,vp⟩:=sO og
   simp only at hn hd
   have hnv:∀ q,q<n1+4→nx≤q→aS v2≠some q:=fun q h1 h2 e=>by
    rcases b6 q e with h|h
    ·omega
    ·have:=(ow.blk h).2.2;omega
   have hnv':∀ q,aS v'=some q→n1+4≤q∨aS v=some q:=fun q hq=>by
    rcases id q hq with h|h
    ·exact .inl (by omega)
    ·exact b6 q h
   have hd4:=fr (n1+1+1) _ (by omega) hd (hnv _ (by omega) (by omega))
   have q2:(cO=n1+1+1)=False:=eq_false (by omega)
   simp -implicitDefEqProofs only [RA,ae,zp,↓reduceIte,reduceCtorEq,zq,zr,zs,zt,↓az,↓aA,↓ar,↓aq,↓aw,↓au,↓ak,↓aj,↓aC,↓aB,↓aE,↓aD,unA,ne_eq,not_true_eq_false,not_false_eq_true,bO,ea,gO4,vc,vp,List.length_singleton,R54,tL,hd4,q2]
   have kk:∀ q o,q<nx→q≠cO→aS v2≠some q→ay h2 q=some o→ay ((cO,AO.cells [v'])::bQ h4 (n1+1+1)) q=some o:=fun q o c1 c2 c3 c4=>by
    rw [af,if_neg (by omega),bq (by omega)]
    exact fr q o (by omega) c4 c3
   have hv2:∀ q,q<nx→aS v2=some q→aS v=some q:=fun q h1 h2=>by
    rcases b6 q h2 with h|h
    ·omega
    ·exact h
   have hne:∀ q,aS v'=some q→q<nx→aS v=some q:=fun q h1 h2=>by
    rcases hnv' q h1 with h|h
    ·omega
    ·exact h
   rw [hsn]
   refine ⟨by omega,fun q o c1 c2 c3 c4 c5=>kk q o c1 c3 (fun e=>c4 (hv2 q c1 e)) (b5 q o c1 c2 c3 c4 c5),v',⟨kk _ _ lS (by omega) s1 b1.gS,kk _ _ lG (by omega) s2 b1.gG,kk _ _ lE (by omega) s3 b1.gE,by rw [af,if_pos rfl],?_,by omega,by omega,by omega,by omega,W0.d1,?_⟩,fun q hq=>?_⟩
   ·rw [show inN (r.2++[b])=inN r.2++[inE (b:Int)] by simp [inN]]
    refine og.keep (E5 _) fun q o e1 e2=>?_
    have:q≠cO:=fun e=>by subst e;exact a4 (hne _ e1 lO)
    have:q≠n1+1+1:=fun e=>by
     rcases hnv' q e1 with h|h
     ·omega
     ·have:=(ow.blk h).2.2;omega
    rw [af,if_neg (by omega),bq this];exact e2
   ·exact ⟨fun e=>a1 (hne _ e lS),fun e=>a2 (hne _ e lG),fun e=>a3 (hne _ e lE),fun e=>a4 (hne _ e lO)⟩
   ·rcases hnv' q hq with h|h
    ·exact .inl (by omega)
    ·exact .inr h
section
variable {α:Type} {f:α→AV} {H:Heap} {b i n:Nat} {l:List α}
theorem eu {e:TypeId} (h:i<n):idxA 1 (.os b 0 e 1 n) (i:Int)=some (.op b i):=by
 have:(i:Int)<(n:Int):=by omega
 simp [idxA,this]
theorem uy (hb:ay H b=some (.cells (l.map f))) {x:α} (hx:l[i]?=some x):bx H (.op b i)=some (f x::(l.map f).drop (i+1)):=by
 simp only [bx,hb]
 rw [bt (l:=l.map f) (i:=i) (r:=f x) (by simp [hx])]
theorem rq (hb:ay H b=some (.cells (l.map f))) {x:α} (hx:l[i]?=some x):dJ H 1 false (.op b i)=some (f x):=by
 unfold dJ
 rw [uy hb hx];rfl
theorem nZ (hb:ay H b=some (.cells (l.map f))) (y:α) (hi:i<l.length):eT H (.op b i) [f y]=some ((b,.cells ((l.set i y).map f))::H):=by
 simp only [eT,hb,List.length_map,List.length_singleton,if_pos (show i+1≤l.length by omega),kB _ _ _ (show i<(l.map f).length by simpa using hi),List.map_set,bA]
end
def icN (x:Nat):AV:=.int .i64 x
theorem oF (l:List Nat):(inN l).flatten=l.map icN:=by
 induction l with
 | nil=>rfl
 | cons a r ih=>simp only [inN,List.map_cons,ED,inE,icN] at ih ⊢;rw [ih];rfl
theorem w55 {h:Heap} {nx:Nat} {v:AV} {l:List Nat} (ov:aU 3 1 h nx v (inN l)) (hl:l.length≤4000000):AC Tryd.prog 38 [v] h nx fun y h' n'=>y=.ret (.tup [])∧nx≤n'∧(∀ k o,aS v≠some k→ay h k=some o→ay h' k=some o)∧aU 3 1 h' n' v (inN l.reverse):=by
 refine AC.go aI is55 (by simp) ?_
 rcases ov with ⟨rfl,e⟩|⟨b,rfl,hb,hlt⟩
 ·have e':l=[]:=by cases l with|nil=>rfl|cons a r=>cases e
  subst e'
  simp -implicitDefEqProofs only [RA,ae,zp,↓reduceIte,reduceCtorEq,zq,zr,zs,zt,↓az,↓aA,↓ar,↓aq,↓aw,↓au,↓ak,↓aj,↓aC,↓aB,↓aE,↓aD,unA,ne_eq,not_true_eq_false,not_false_eq_true,A55,Bh,eB]
  refine aJ (fun q st=>ah st.env 2=some (.int .i64 0)∧ah st.env 3=some (.int .i64 (-1))∧st.heap=h∧nx≤st.nx∧st.dm=[]) (n:=0) aI
   ⟨by simp [ah],by simp [ah,IntKind.wrap_i64],rfl,E5 _,rfl⟩ ?_
  rintro q ⟨env,heap,nx',dm⟩ ⟨g2,g3,rfl,hle,hdm⟩
  simp only at g2 g3 hle hdm
  subst hdm
  simp -implicitDefEqProofs only [RA,ae,zp,↓reduceIte,reduceCtorEq,zq,zr,zs,zt,↓az,↓aA,↓ar,↓aq,↓aw,↓au,↓ak,↓aj,↓aC,↓aB,↓aE,↓aD,unA,ne_eq,not_true_eq_false,not_false_eq_true,sq,nu,g2,g3,R55,show ((0:Int) < -1)=False from by decide]
  exact ⟨hle,fun _ _ _ h=>h,.inl ⟨rfl,rfl⟩⟩
 ·rw [show (inN l).length=l.length by simp [inN]]
  rw [oF] at hb
  obtain ⟨n,hn⟩:∃ n,n=l.length:=⟨_,rfl⟩
  rw [← hn] at hl ⊢
  have f0:IntKind.i64.wrap ((n:Int)-1)=(n:Int)-1:=w64 (by omega) (by omega)
  simp -implicitDefEqProofs only [RA,ae,zp,↓reduceIte,reduceCtorEq,zq,zr,zs,zt,↓az,↓aA,↓ar,↓aq,↓aw,↓au,↓ak,↓aj,↓aC,↓aB,↓aE,↓aD,unA,ne_eq,not_true_eq_false,not_false_eq_true,A55,Bh,eB,f0]
  refine aJ (fun q st=>∃ (m:Nat) (l':List Nat),q=n-m∧2*m≤n∧ah st.env 0=some (.os b 0 3 1 n)∧ah st.env 2=some (.int .i64 m)∧ah st.env 3=some (.int .i64 ((n:Int)-1-m))∧l'.length=n∧(∀ x,x<n→l'[x]?=if x<m∨n-m≤x then l[n-1-x]? else l[x]?)∧ay st.heap b=some (.cells (l'.map icN))∧(∀ k o,k≠b→ay h k=some o→ay st.heap k=some o)∧nx≤st.nx∧st.dm=[]) (n:=n) aI
   ⟨0,l,by omega,by omega,by simp [ah],by simp [ah],by simp [ah],hn.symm,fun x hx=>by rw [if_neg (by omega)],hb,fun _ _ _ h=>h,E5 _,rfl⟩ ?_
  rintro q ⟨env,heap,nx',dm⟩ ⟨m,l',rfl,hm,g0,g2,g3,hl',hat,gb,hk,hle,hdm⟩
  simp only at g0 g2 g3 gb hk hle hdm
  subst hdm
  by_cases hc:(m:Int)<(n:Int)-1-m
  case neg =>
   have:l'=l.reverse:=by
    apply List.ext_getElem?
    intro x
    by_cases hx:x<n
    ·rw [hat x hx,List.getElem?_reverse (by omega),← hn]
     split
     ·rfl
     ·rw [show n-1-x=x by omega]
    ·rw [List.getElem?_eq_none (by omega),List.getElem?_eq_none (by simp;omega)]
   subst this
   simp -implicitDefEqProofs only [RA,ae,zp,↓reduceIte,reduceCtorEq,zq,zr,zs,zt,↓az,↓aA,↓ar,↓aq,↓aw,↓au,↓ak,↓aj,↓aC,↓aB,↓aE,↓aD,unA,ne_eq,not_true_eq_false,not_false_eq_true,sq,nu,g0,g2,g3,hc,R55]
   refine ⟨hle,fun k o h1 h2=>hk k o (fun e=>h1 (by rw [e];rfl)) h2,.inr ⟨b,?_,by rw [oF];exact gb,by omega⟩⟩
   simp [inN,hn]
  have e1:=hat m (by omega)
  have e2:=hat (n-1-m) (by omega)
  rw [if_neg (by omega)] at e1
  rw [if_neg (by omega)] at e2
  have h1:=D9 (l:=l) (show m<l.length by omega)
  have h2:=D9 (l:=l) (show n-1-m<l.length by omega)
  generalize l[m]=x at h1
  generalize l[n-1-m]=y at h2
  rw [h1] at e1
  rw [h2] at e2
  have i1:=eu (b:=b) (e:=3) (n:=n) (i:=m) (by omega)
  have i2:=eu (b:=b) (e:=3) (n:=n) (i:=n-1-m) (by omega)
  rw [show ((n-1-m:Nat):Int)=(n:Int)-1-m by omega] at i2
  have r1:=rq gb e1
  have r2:=rq gb e2
  have s1:=nZ gb y (show m<l'.length by omega)
  have s2:=nZ (H:=(b,.cells ((l'.set m y).map icN))::heap) (f:=icN) (i:=n-1-m) (l:=l'.set m y) (by rw [af,if_pos rfl]) x (by simp;omega)
  have f1:=wS (i:=m) (by omega)
  have f2:IntKind.i64.wrap ((n:Int)-1-m-1)=(n:Int)-1-((m+1:Nat):Int):=by rw [w64 (by omega) (by omega)];omega
  have c1:∀ z,cellsOf (icN z)=[icN z]:=fun _=>rfl
  have c2:∀ z,(icN z).plain=true:=fun _=>rfl
  simp -implicitDefEqProofs only [RR,RE,ae,zp,↓reduceIte,reduceCtorEq,zq,zr,zs,zt,↓az,sq,nu,g0,g2,g3,hc,i1,i2,r1,r2,s1,s2,f1,f2,c1,c2,List.length_singleton,bz,aM]
  refine ⟨n-(m+1),by omega,m+1,_,rfl,by omega,rfl,rfl,?_,?_,by rw [af,if_pos rfl],?_,hle⟩
  ·simp [hl']
  ·intro z hz
   have hz':=hat z hz
   by_cases z1:z=n-1-m
   ·subst z1
    rw [List.getElem?_set_self (by simp;omega),if_pos (by omega),show n-1-(n-1-m)=m by omega,h1]
   ·rw [List.getElem?_set_ne (by omega)]
    by_cases z2:z=m
    ·subst z2
     rw [List.getElem?_set_self (by omega),if_pos (by omega),h2]
    ·rw [List.getElem?_set_ne (by omega),hz']
     by_cases z3:z<m∨n-m≤z
     ·rw [if_pos z3,if_pos (by omega)]
     ·rw [if_neg z3,if_neg (by omega)]
  ·intro k o h3 h4
   rw [af,if_neg (by omega),af,if_neg (by omega)];exact hk k o h3 h4
def fg (l:List Nat):AV:=.lst 1 (inN l)
theorem kM (l:List Nat):eB (fg l)=some l.length:=by simp [fg,inN,dt]
theorem jl {l:List Nat} {n:Nat} {r:Nat} (h:l[n]?=some r):idxA 1 (fg l) (n:Int)=some (.fp [.int .i64 r]):=bI h
def Bx (g:Fn):List Nat:=pA (nbG g) g.blocks.length
theorem w37 {P:Pi} {g:Fn} (G:GdF P g):Pure Tryd.prog 24 [.agg (fnE g)] (fg (Bx g)):=by
 refine Pure.own (e:=3) (iB _) fun nx=>AC.go aI is37 (by simp) ?_
 have n1:(nx+1=nx)=False:=eq_false (by omega)
 have n2:(nx+1+1=nx)=False:=eq_false (by omega)
 have n3:(nx+1+1=nx+1)=False:=eq_false (by omega)
 have n4:(nx+1+1+1=nx)=False:=eq_false (by omega)
 have n5:(nx+1+1+1=nx+1)=False:=eq_false (by omega)
 have n6:(nx+1+1+1=nx+1+1)=False:=eq_false (by omega)
 have ff:=bK g
 rw [ff]
 simp -implicitDefEqProofs only [RA,ae,zp,↓reduceIte,reduceCtorEq,zq,zr,zs,zt,↓az,↓aA,↓ar,↓aq,↓aw,↓au,↓ak,↓aj,↓aC,↓aB,↓aE,↓aD,unA,ne_eq,not_true_eq_false,not_false_eq_true,A37,Dt,n1,n2,n3,n4,n5,n6,cn,ofC,ofV]
 obtain ⟨H,hH⟩:∃ H:Heap,H=[(nx+1+1+1,AO.cells [.fn (.func 37) [.op (nx+1+1) 0,.op nx 0,.op (nx+1+1+1) 0,.op (nx+1) 0]]),(nx+1+1+1,.cells [.nilF]),(nx+1+1,.cells [.int .u64 0]),(nx+1,.cells [.nilS]),(nx,.cells [.str g.name,bj g.params,.int .i64 g.result,bj g.locals,cg g.blocks])]:=⟨_,rfl⟩
 rw [← hH]
 have hn:=G.n1
 have hW:WS g (nx+1+1) nx (nx+1+1+1) (nx+1) H (nx+1+1+1+1) .nilS ([],[]):=by
  subst hH
  refine ⟨?_,?_,?_,?_,.inl ⟨rfl,rfl⟩,by omega,by omega,by omega,by omega,by omega,by simp [aS]⟩
  ·simp [ay,msk,n6]
  ·simp [ay,ff,n2,n4]
  ·simp [ay]
  ·simp [ay,n3,n5,n2]
 have w:=w54 G g.blocks.length 0 ([],[]) H _ _ ⟨.nil,by simp,.nil,by simp⟩ (by omega) (by simp) (by simp) hW
 refine w.mono ?_
 rintro y h2 n2' ⟨rfl,hn2,hk2,v,W2,id2⟩
 have bO:=W2.gO
 simp -implicitDefEqProofs only [RA,ae,zp,↓reduceIte,reduceCtorEq,zq,zr,zs,zt,↓az,↓aA,↓ar,↓aq,↓aw,↓au,↓ak,↓aj,↓aC,↓aB,↓aE,↓aD,unA,ne_eq,not_true_eq_false,not_false_eq_true,bO]
 have hlen:(dE (nbG g) g.blocks.length 0 ([],[])).2.length≤g.blocks.length:=by
  obtain ⟨d1,d2⟩:=vA (lU G) g.blocks.length 0 ([],[]) List.Pairwise.nil (by simp) (by omega) (by simp) (by simp)
  exact (OkS.of (st:=([],[])) ⟨.nil,by simp,.nil,by simp⟩ d1).len
 have hn60:=G.n2
 refine (w55 W2.ow (by omega)).mono ?_
 rintro y h3 n3' ⟨rfl,hn3,hk3,ov3⟩
 have bO3:=hk3 _ _ W2.ap.2.2.2 bO
 simp -implicitDefEqProofs only [RA,ae,zp,↓reduceIte,reduceCtorEq,zq,zr,zs,zt,↓az,↓aA,↓ar,↓aq,↓aw,↓au,↓ak,↓aj,↓aC,↓aB,↓aE,↓aD,unA,ne_eq,not_true_eq_false,not_false_eq_true,bO3,R37]
 exact ⟨v,rfl,ov3⟩
theorem hO {α:Type} {f:α→AV} {l:List α} {i:Nat} {x:α} (h:l[i]?=some x):(l.map f).drop i=f x::(l.map f).drop (i+1):=bt (by simp [h])
theorem fB {α:Type} {f:α→AV} {l:List α} {i:Nat} (h:i<l.length) (y:α):(l.map f).take i++f y::(l.map f).drop (i+1)=(l.set i y).map f:=by
 rw [List.map_set,List.set_eq_take_append_cons_drop,if_pos (by simpa using h)]
theorem hE {α:Type} {f:α→AV} {l:List α} {i:Nat} (h:i<l.length):(i+1≤(l.map f).length)=True:=eq_true (by simp;omega)
def blL (n:Nat) (s:List Nat):List Bool:=(List.range n).map fun x=>decide (x∈s)
theorem fD (n:Nat) (s:List Nat):(blL n s).length=n:=by simp [blL]
theorem na {n:Nat} {s:List Nat} {x:Nat} (h:x<n):(blL n s)[x]?=some (decide (x∈s)):=by simp [blL,h]
theorem rU {n:Nat} {s:List Nat} {b:Nat}:(blL n s).set b true=blL n (b::s):=by
 apply List.ext_getElem?
 intro x
 by_cases hx:x<n
 ·rw [na hx]
  by_cases e:x=b
  ·subst e;rw [List.getElem?_set_self (by simp [fD,hx])];simp
  ·rw [List.getElem?_set_ne (by omega),na hx];simp [e]
 ·rw [List.getElem?_eq_none (by simp [fD];omega),List.getElem?_eq_none (by simp [fD];omega)]
structure WR (N:List (List Int)) (w be:Nat) (h:Heap) (nx:Nat) (v:AV) (st:List Nat × List Nat):Prop where
 gW:ay h w=some (.cells [ntA N,.os be 0 4 1 N.length,v])
 gB:ay h be=some (.cells ((blL N.length st.1).map .bool))
 ow:aU 3 1 h nx v (inN st.2)
 lW:w<nx
 lB:be<nx
 ne:w≠be
 a1:aS v≠some w
 a2:aS v≠some be
theorem WR.ext {N:List (List Int)} {w be:Nat} {h h':Heap} {nx nx':Nat} {v:AV} {st:List Nat × List Nat} (W:WR N w be h nx v st) (hn:nx≤nx') (hk:∀ k o,(k=w∨k=be∨aS v=some k)→ay h k=some o→ay h' k=some o):WR N w be h' nx' v st :=
 ⟨hk _ _ (by simp) W.gW,hk _ _ (by simp) W.gB,W.ow.keep hn fun b o e h=>hk _ _ (by simp [e]) h,by have:=W.lW;omega,by have:=W.lB;omega,W.ne,W.a1,W.a2⟩
def ntF (g:Fn):List (List Int):=g.blocks.map fun b=>nxL b.to
theorem uM {g:Fn} {b:Nat} {blk:Bk} (h:g.blocks[b]?=some blk):(ntF g)[b]?=some (nxL blk.to):=by simp [ntF,h]
theorem jf (g:Fn):(ntF g).length=g.blocks.length:=by simp [ntF]
theorem ol {n b:Nat} (h:n≤4000000) (hb:b≤100):(0≤(n:Int)∧(n:Int)≤(n:Int)∧((b:Nat):Int)*(n:Int)≤281474976710656∧(n:Int)≤9223372036854775807)=True:=by
 have:b*n≤100*4000000:=Nat.mul_le_mul hb h
 exact eq_true ⟨by omega,by omega,by rw [← Int.natCast_mul];omega,by omega⟩
theorem uS (n:Nat):(List.replicate n [AV.bool false]).flatten=(blL n []).map .bool:=by
 apply List.ext_getElem?
 intro i
 by_cases h:i<n
 ·have e1:((blL n []).map AV.bool)[i]?=some (.bool false):=by rw [List.getElem?_map,na h];simp
  rw [e1,show (List.replicate n [AV.bool false]).flatten=List.replicate n (AV.bool false) by simp]
  simp [h]
 ·rw [List.getElem?_eq_none (by simp;omega),List.getElem?_eq_none (by simp [fD];omega)]
noncomputable def dc (p:Prop):Bool:=@decide p (Classical.propDecidable p)
theorem cT {p:Prop}:dc p=true↔p:=@decide_eq_true_iff p (Classical.propDecidable p)
theorem pV {p:Prop} (h:p):dc p=true:=cT.2 h
theorem tD {p:Prop} (h:¬ p):dc p=false:=Bool.eq_false_iff.2 fun e=>h (cT.1 e)
theorem gv {p q:Prop} (h:p↔q):dc p=dc q:=by rw [propext h]
theorem pW {p:Prop} [Decidable p]:dc p=decide p:=by
 by_cases h:p
 ·rw [pV h,decide_eq_true h]
 ·rw [tD h,decide_eq_false h]
noncomputable def mkP (n:Nat) (p:Nat→Prop):Nat:=msk ((List.range n).filter fun x=>dc (p x))
theorem cu {n x:Nat} {p:Nat→Prop}:(mkP n p).testBit x=(decide (x<n)&&dc (p x)):=by
 rw [mkP,pr]
 simp only [List.mem_filter,List.mem_range]
 by_cases h:x<n <;> cases hd:dc (p x) <;> simp [h]
theorem gZ {n:Nat} {p:Nat→Prop} (hn:n≤64):mkP n p<18446744073709551616:=mP fun x hx=>by
 have:=List.mem_range.1 (List.mem_filter.1 hx).1
 omega
theorem eb {a b:Nat} (h:∀ i,a.testBit i=b.testBit i):a=b:=Nat.eq_of_testBit_eq h
theorem oB {a b:Nat} (h:∀ i,a.testBit i=true→b.testBit i=true):a≤b:=by
 have e:a &&& b=a:=eb fun i=>by
  rw [Nat.testBit_and]
  cases ha:a.testBit i
  ·rfl
  ·rw [h i ha];rfl
 rw [← e];exact Nat.and_le_right
section
variable (G:Nat→List Nat) (ord:List Nat) (all:Nat)
def fN (D:Nat→Nat) (b:Nat):List Nat→Nat→Nat
 | [],m=>m
 | a::r,m=>fN D b r ((G a).foldl (fun m c=>if c=b then m &&& D a else m) m)
theorem rJ (D:Nat→Nat) (b a i:Nat):∀ (l:List Nat) (m:Nat),(l.foldl (fun m c=>if c=b then m &&& D a else m) m).testBit i=(m.testBit i&&(!decide (b∈l)||(D a).testBit i))
 | [],m=>by simp
 | c::l,m=>by
  rw [List.foldl_cons,rJ D b a i l]
  by_cases h:c=b
  ·subst h
   rw [if_pos rfl,Nat.testBit_and]
   cases m.testBit i <;> cases (D a).testBit i <;> simp
  ·have h':¬ b=c:=fun e=>h e.symm
   rw [if_neg h]
   simp [h']
theorem rB (D:Nat→Nat) (b i:Nat):∀ (l:List Nat) (m:Nat),(fN G D b l m).testBit i=true↔m.testBit i=true∧∀ a∈l,b∈G a→(D a).testBit i=true
 | [],m=>by simp [fN]
 | a::r,m=>by
  rw [fN,rB D b i r,rJ]
  simp only [EU,Bool.or_eq_true,Bool.not_eq_true',decide_eq_false_iff_not,List.mem_cons,forall_eq_or_imp]
  constructor
  ·rintro ⟨⟨h1,h2⟩,h3⟩
   exact ⟨h1,fun hb=>h2.resolve_left fun hn=>hn hb,h3⟩
  ·rintro ⟨h1,h2,h3⟩
   refine ⟨⟨h1,?_⟩,h3⟩
   by_cases hb:b∈G a
   ·exact .inr (h2 hb)
   ·exact .inl hb
end
section
variable {G:Nat→List Nat}
structure DI (G:Nat→List Nat) (D:Nat→Nat):Prop where
 lt:∀ b,D b<18446744073709551616
 zero:D 0=1
 un:∀ b,¬ Rch G b→D b=0
 rch:∀ b i,(D b).testBit i=true→Rch G i
 up:∀ a b,Dm G a b→(D b).testBit a=true
 post:∀ b i,b≠0→Rch G b→i≠b→Rch G i→(∀ u,Rch G u→b∈G u→(D u).testBit i=true)→(D b).testBit i=true
theorem pq (i:Nat):(1:Nat).testBit i=decide (i=0):=by
 have:=Nat.testBit_two_pow (n:=0) (m:=i)
 simp only [Nat.pow_zero] at this
 rw [this]
 by_cases h:i=0
 ·subst h;rfl
 ·rw [decide_eq_false h,decide_eq_false fun e=>h e.symm]
theorem DI.rb {D:Nat→Nat} (d:DI G D) {b i:Nat} (h:(D b).testBit i=true):Rch G b:=Classical.byContradiction fun hn=>by
 rw [d.un b hn] at h;simp at h
theorem DI.first {all:Nat} (hall:∀ i,all.testBit i=true↔Rch G i) (hlt:all<18446744073709551616) {D:Nat→Nat} (h0:D 0=1) (hr:∀ b,b≠0→Rch G b→D b=all) (hu:∀ b,¬ Rch G b→D b=0):DI G D:=by
 refine ⟨fun b=>?_,h0,hu,fun b i h=>?_,fun a b h=>?_,fun b i hb hbr hne hir _=>by rw [hr b hb hbr];exact (hall i).2 hir⟩
 ·by_cases e:b=0
  ·subst e;omega
  ·by_cases h:Rch G b
   ·rw [hr b e h];exact hlt
   ·rw [hu b h];omega
 ·by_cases e:b=0
  ·subst e
   rw [h0,pq] at h
   have:i=0:=of_decide_eq_true h
   subst this;exact .zero
  ·by_cases hb:Rch G b
   ·rw [hr b e hb] at h;exact (hall i).1 h
   ·rw [hu b hb] at h;simp at h
 ·by_cases e:b=0
  ·subst e
   have:=h.of_zero
   subst this
   rw [h0,pq];rfl
  ·rw [hr b e h.2.1];exact (hall a).2 h.1
def mM (G:Nat→List Nat) (ord:List Nat) (all:Nat) (D:Nat→Nat) (b:Nat):Nat:=fN G D b ord all ||| 2 ^ b
variable {ord:List Nat} {all:Nat}
theorem mL (hall:∀ i,all.testBit i=true↔Rch G i) (hord:∀ x,x∈ord↔Rch G x) (D:Nat→Nat) (b i:Nat):(mM G ord all D b).testBit i=true↔i=b∨(Rch G i∧∀ u,Rch G u→b∈G u→(D u).testBit i=true):=by
 rw [mM,Nat.testBit_or,Bool.or_eq_true,rB,hall,Nat.testBit_two_pow,decide_eq_true_eq]
 constructor
 ·rintro (⟨h1,h2⟩|h)
  ·exact .inr ⟨h1,fun u hu hb=>h2 u ((hord u).2 hu) hb⟩
  ·exact .inl h.symm
 ·rintro (h|⟨h1,h2⟩)
  ·exact .inr h.symm
  ·exact .inl ⟨h1,fun a ha hb=>h2 a ((hord a).1 ha) hb⟩
theorem DI.new_le {D:Nat→Nat} (d:DI G D) (hall:∀ i,all.testBit i=true↔Rch G i) (hord:∀ x,x∈ord↔Rch G x) {b:Nat} (hb:Rch G b) (h0:b≠0) (i:Nat) (h:(mM G ord all D b).testBit i=true):(D b).testBit i=true:=by
 rcases (mL hall hord D b i).1 h with e|⟨h1,h2⟩
 ·subst e;exact d.up _ _ (Dm.refl hb)
 ·by_cases e:i=b
  ·subst e;exact d.up _ _ (Dm.refl hb)
  ·exact d.post b i h0 hb e h1 h2
theorem DI.upd {D D':Nat→Nat} (d:DI G D) (hall:∀ i,all.testBit i=true↔Rch G i) (hord:∀ x,x∈ord↔Rch G x) {b:Nat} (hb:Rch G b) (h0:b≠0) (hn:D' b=mM G ord all D b) (he:∀ c,c≠b→D' c=D c):DI G D':=by
 have hle:∀ c i,(D' c).testBit i=true→(D c).testBit i=true:=fun c i h=>by
  by_cases e:c=b
  ·subst e;rw [hn] at h;exact d.new_le hall hord hb h0 i h
  ·rw [he c e] at h;exact h
 refine ⟨fun c=>Nat.lt_of_le_of_lt (oB (hle c)) (d.lt c),by rw [he 0 (fun e=>h0 e.symm)];exact d.zero,fun c hc=>?_,fun c i h=>d.rch c i (hle c i h),fun a c h=>?_,fun c i hc0 hcr hne hir hu=>?_⟩
 ·rw [he c (fun e=>by subst e;exact hc hb)];exact d.un c hc
 ·by_cases e:c=b
  ·subst e
   rw [hn,mL hall hord]
   by_cases ea:a=c
   ·exact .inl ea
   ·exact .inr ⟨h.1,fun u hu hcu=>d.up a u (h.pred ea hu hcu)⟩
  ·rw [he c e];exact d.up a c h
 ·by_cases e:c=b
  ·subst e
   rw [hn,mL hall hord]
   exact .inr ⟨hir,fun u h1 h2=>hle u i (hu u h1 h2)⟩
  ·rw [he c e];exact d.post c i hc0 hcr hne hir fun u h1 h2=>hle u i (hu u h1 h2)
theorem DI.fix {D:Nat→Nat} (d:DI G D) (hall:∀ i,all.testBit i=true↔Rch G i) (hord:∀ x,x∈ord↔Rch G x) (hf:∀ b,b≠0→Rch G b→mM G ord all D b=D b) (b x:Nat):(D b).testBit x=true↔Dm G x b:=by
 refine Ap (F:=fun b x=>(D b).testBit x=true) (fun x h=>?_) (fun b x h=>⟨d.rb h,d.rch b x h⟩) d.up (fun b x h0 h=>?_) b x
 ·rw [d.zero,pq] at h;exact of_decide_eq_true h
 ·rw [← hf b h0 (d.rb h)] at h
  rcases (mL hall hord D b x).1 h with e|⟨_,h2⟩
  ·exact .inl e
  ·exact .inr h2
theorem rf:∀ (D:List Nat) (b v:Nat),b<D.length→(D.set b v).sum+D.getD b 0=D.sum+v
 | [],_,_,h=>by simp at h
 | a::r,0,v,_=>by simp [List.getD_cons_zero];omega
 | a::r,b+1,v,h=>by
  have:=rf r b v (by simpa using h)
  simp only [List.set_cons_succ,List.sum_cons,List.getD_cons_succ];omega
theorem fh (D:List Nat) (b v c:Nat) (h:b<D.length):(D.set b v).getD c 0=if c=b then v else D.getD c 0:=by
 by_cases e:c=b
 ·subst e;rw [if_pos rfl];simp [List.getD_eq_getElem?_getD,h]
 ·rw [if_neg e];simp only [List.getD_eq_getElem?_getD,List.getElem?_set_ne (fun h=>e h.symm)]
noncomputable def ke (G:Nat→List Nat) (n:Nat):List Nat:=(List.range n).map fun b=>mkP n fun a=>Dm G a b
theorem kO (G:Nat→List Nat) (n:Nat):(ke G n).length=n:=by simp [ke]
theorem mT {n b:Nat} (h:b<n):(ke G n)[b]?=some (mkP n fun a=>Dm G a b):=by simp [ke,h]
theorem x5 {n:Nat} {D:List Nat} (hl:D.length=n) (hG:∀ x,Rch G x→x<n) (d:DI G fun b=>D.getD b 0) (hall:∀ i,all.testBit i=true↔Rch G i) (hord:∀ x,x∈ord↔Rch G x)
  (hf:∀ b,b≠0→Rch G b→mM G ord all (fun b=>D.getD b 0) b=D.getD b 0):D=ke G n:=by
 apply List.ext_getElem?
 intro b
 by_cases hb:b<n
 ·rw [mT hb,D9 (by omega)]
  congr 1
  apply eb
  intro i
  have:=d.fix hall hord hf b i
  rw [List.getD_eq_getElem?_getD,D9 (by omega),Option.getD_some] at this
  rw [cu,Bool.eq_iff_iff,this,EU,decide_eq_true_eq,cT]
  exact ⟨fun h=>⟨hG i h.1,h⟩,fun h=>h.2⟩
 ·rw [List.getElem?_eq_none (by omega),List.getElem?_eq_none (by rw [kO];omega)]
end
def ce (x:Nat):AV:=.int .u64 x
theorem nS (D:List Nat):(D.map iJ).flatten=D.map ce:=by
 induction D with
 | nil=>rfl
 | cons a r ih=>simp only [List.map_cons,ED,iJ,ih];rfl
theorem nT (D:List Nat):∀ z∈D.map iJ,z.length=1:=fun z hz=>by
 obtain ⟨r,_,rfl⟩:=Ei.1 hz;rfl
theorem rG {h:Heap} {b:Nat} {D:List Nat} (hb:ay h b=some (.cells (D.map ce))):Ice h (.os b 0 58 1 D.length) (.lst 1 (D.map iJ)):=by
 refine .os (es:=D.map iJ) (by rw [nS];exact hb) (nT D) (by simp) rfl fun i x y h1 h2=>?_
 rw [h1] at h2
 cases h2
 refine .same fun z hz=>?_
 obtain ⟨r,_,rfl⟩:=Ei.1 (Ea h1)
 simp only [iJ,List.mem_singleton] at hz
 subst hz;rfl
theorem w58 (a b:List Nat) (ha:a.length≤4000000):Pure Tryd.prog 27 [.lst 1 (a.map iJ),.lst 1 (b.map iJ)] (.bool (decide (a=b))):=by
 have:=xa (ks:=[.int]) aI is58 iJ a b (fun _=>rfl) (by omega) (fun x y=>decide (x=y)) (fun x y=>by
  have:(((x:Nat):Int)=(y:Int))↔x=y:=by omega
  simp [eqL,iJ,eqC,this])
 rwa [show eG (fun x y=>decide (x=y)) a b=decide (a=b) by rw [Bool.eq_iff_iff,oN (by simp),decide_eq_true_eq]] at this
theorem w58o {h:Heap} {nx b1 b2:Nat} {D1 D2:List Nat} (h1:ay h b1=some (.cells (D1.map ce))) (h2:ay h b2=some (.cells (D2.map ce))) (hl:D1.length≤4000000) :
  AC Tryd.prog 27 [.os b1 0 58 1 D1.length,.os b2 0 58 1 D2.length] h nx fun y h' n'=>y=.ret (.bool (decide (D1=D2)))∧h'=h∧nx≤n' :=
 AC.ro (w58 D1 D2 hl) ⟨rG h1,rG h2,trivial⟩ rfl
theorem w56 {h:Heap} {nx b:Nat} {D:List Nat} (hb:ay h b=some (.cells (D.map ce))) (hlt:b<nx) (h0:D.length≠0) (hl:D.length≤4000000) :
  AC Tryd.prog 25 [.os b 0 58 1 D.length] h nx fun y h' n'=>∃ c,y=.ret (.os c 0 58 1 D.length)∧nx≤c∧c<n'∧ay h' c=some (.cells (D.map ce))∧∀ k o,k<nx→ay h k=some o→ay h' k=some o:=by
 refine AC.go aI is56 (by simp) ?_
 have sc:bU ((nx,.cells [])::h) (.os b 0 58 1 D.length)=some (D.length,D.map ce):=by
  have:(nx=b)=False:=eq_false (by omega)
  have h2:(D.map ce).take D.length=D.map ce:=List.take_of_length_le (by simp)
  simp [bU,ay,this,hb,h2]
 have ap:iR 58 1 8 ((nx,.cells [])::h) (nx+1) (.os nx 0 58 1 0) (.os b 0 58 1 D.length)=some (.os (nx+1) 0 58 1 D.length,(nx+1,.cells (D.map ce))::bQ ((nx,.cells [])::h) nx,nx+1+1):=by
  unfold iR
  rw [sc]
  have h1:D.length*8≤140737488355328:=by omega
  have h2:D.length≤maxLen:=by simp only [maxLen];omega
  simp [jb,ay,h0,h1,h2]
 simp -implicitDefEqProofs only [RA,ae,zp,↓reduceIte,reduceCtorEq,zq,zr,zs,zt,↓az,↓aA,↓ar,↓aq,↓aw,↓au,↓ak,↓aj,↓aC,↓aB,↓aE,↓aD,unA,ne_eq,not_true_eq_false,not_false_eq_true,A56,Di,ap,pC,List.flatten_nil,R56]
 refine ⟨nx+1,rfl,by omega,by omega,by rw [if_pos rfl],fun k o h1 h2=>?_⟩
 rw [if_neg (by omega),bT,if_neg (by omega)];exact h2
theorem mR (b d:Nat):∀ (l:List Nat) (m:Nat),l.foldl (fun m c=>if c=b then m &&& d else m) m≤m
 | [],m=>E5 _
 | c::l,m=>by
  rw [List.foldl_cons]
  refine Nat.le_trans (mR b d l _) ?_
  split
  ·exact Nat.and_le_left
  ·exact E5 _
theorem dX (n:Nat):(1≤n+1)=True:=eq_true (by omega)
theorem vt {P:Pi} {g:Fn} (G:GdF P g) {cO bo cB cM ca c1 c2 a b m da:Nat} {D:List Nat} {blk:Bk} {st:ASt} {Q:AX→ASt→Prop} (hblk:g.blocks[a]?=some blk)
  (g4:ah st.env 4=some (.op cO 0)) (g13:ah st.env 13=some (.op cB 0)) (g14:ah st.env 14=some (.op cM 0)) (g16:ah st.env 16=some (.op ca 0)) (g68:ah st.env 68=some (.fn (.func 28) [.op c1 0,.op c2 0]))
  (gO:ay st.heap cO=some (.cells [.os bo 0 58 1 D.length])) (gb:ay st.heap bo=some (.cells (D.map ce))) (gB:ay st.heap cB=some (.cells [.int .i64 b])) (ga:ay st.heap ca=some (.cells [.int .i64 a])) (gM:ay st.heap cM=some (.cells [.int .u64 m]))
  (gc1:ay st.heap c1=some (.cells (fnE g))) (gc2:ay st.heap c2=some (.cells [.int .i64 a])) (l:cO<st.nx∧bo<st.nx∧cB<st.nx∧cM<st.nx∧ca<st.nx∧c1<st.nx∧c2<st.nx)
  (d:cM≠cO∧cM≠bo∧cM≠cB∧cM≠ca∧cM≠c1∧cM≠c2) (hm:m<18446744073709551616) (hDa:D[a]?=some da) (hda:da<18446744073709551616)
  (hQ:∀ h' n',st.nx+2≤n'→(∀ k o,k<st.nx→k≠cM→ay st.heap k=some o→ay h' k=some o)→ay h' st.nx=some .dfd→ay h' cM=some (.cells [.int .u64 ((nbG g a).foldl (fun m c=>if c=b then m &&& da else m) m:Nat)])→Q .normal { st with heap:=h',nx:=n',dm:=st.nx::st.dm }) :
  AW Tryd.prog (fun _ _=>false) none 91 (.rangeF (.tmp 68) #[69] wH sv) Q st:=by
 obtain ⟨l1,l2,l3,l4,l5,l6,l7⟩:=l
 obtain ⟨d1,d2,d3,d4,d5,d6⟩:=d
 refine ku hblk (by have:=G.to2 blk (Ea hblk);omega) (c1:=c1) (c2:=c2) g68 (by decide)
  (fun pre h2 n2=>ay h2 cM=some (.cells [.int .u64 ((pre.map Int.toNat).foldl (fun m c=>if c=b then m &&& da else m) m:Nat)])∧st.nx+2≤n2∧∀ k o,k<st.nx→k≠cM→ay st.heap k=some o→ay h2 k=some o)
  (fun x=>(17,.int .i64 x)::(69,.int .i64 x)::st.env) ?_ ?_ ?_ ?_ ?_ ?_ ?_
 ·rintro pre h2 n2 n3 ⟨a1,a2,a3⟩ hn
  exact ⟨a1,by omega,a3⟩
 ·rintro pre h2 h3 n2 ⟨a1,a2,a3⟩ hk
  exact ⟨by rw [hk _ (by omega)];exact a1,a2,fun k o e1 e2 e3=>by rw [hk _ (by omega)];exact a3 k o e1 e2 e3⟩
 ·rintro pre h2 n2 ⟨a1,a2,a3⟩
  exact ⟨a3 _ _ l6 (fun e=>d5 e.symm) gc1,a3 _ _ l7 (fun e=>d6 e.symm) gc2⟩
 ·intro L
  refine ⟨by rw [af,if_neg (by omega),af,if_neg (by omega)];exact gM,E5 _,fun k o e1 e2 e3=>by rw [af,if_neg (by omega),af,if_neg (by omega)];exact e3⟩
 ·intro x h2 n2 l
  refine dH aI ?_
  simp -implicitDefEqProofs only [RA,ae,zp,↓reduceIte,reduceCtorEq,zq,zr,zs,zt,↓az,↓aA,↓ar,↓aq,↓aw,↓au,↓ak,↓aj,↓aC,↓aB,↓aE,↓aD,unA,ne_eq,not_true_eq_false,not_false_eq_true,wH,wG]
 ·rintro pre x suf h2 n2 l hsp hn ⟨a1,a2,a3⟩
  have hxr:=gY G hblk (c:=x) (by rw [hsp];simp)
  obtain ⟨c,rfl⟩:∃ c:Nat,x=(c:Int):=⟨x.toNat,by omega⟩
  have hf:((pre++[(c:Int)]).map Int.toNat).foldl (fun m c=>if c=b then m &&& da else m) m=if c=b then (pre.map Int.toNat).foldl (fun m c=>if c=b then m &&& da else m) m &&& da else (pre.map Int.toNat).foldl (fun m c=>if c=b then m &&& da else m) m:=by
   rw [List.map_append,List.foldl_append];rfl
  have hfl:=mR b da (pre.map Int.toNat) m
  generalize (pre.map Int.toNat).foldl (fun m c=>if c=b then m &&& da else m) m=q at a1 hf hfl
  rw [hf]
  have bB:=a3 _ _ l3 (fun e=>d3 e.symm) gB
  have bO:=a3 _ _ l1 (fun e=>d1 e.symm) gO
  have bb:=a3 _ _ l2 (fun e=>d2 e.symm) gb
  have ba:=a3 _ _ l5 (fun e=>d4 e.symm) ga
  refine dH aI ?_
  rcases ai ((c:Int)=(b:Int)) with ⟨k1,j1⟩|⟨k1,j1⟩
  ·have hlt:=(List.getElem?_eq_some_iff.1 hDa).1
   have ic:=eu (b:=bo) (e:=58) (n:=D.length) (i:=a) hlt
   have hdr:=hO (f:=ce) hDa
   have w:=w57 q da (by omega) hda
   rw [if_pos (by omega)]
   simp -implicitDefEqProofs only [RA,ae,zp,↓reduceIte,reduceCtorEq,zq,zr,zs,zt,↓az,↓aA,↓ar,↓aq,↓aw,↓au,↓ak,↓aj,↓aC,↓aB,↓aE,↓aD,unA,ne_eq,not_true_eq_false,not_false_eq_true,sv,qG,g4,g13,g14,g16,bB,bO,bb,ba,a1,j1,ic,hdr,ce,dX]
   refine w.use fun n3 hn3=>?_
   simp -implicitDefEqProofs only [RA,ae,zp,↓reduceIte,reduceCtorEq,zq,zr,zs,zt,↓az,↓aA,↓ar,↓aq,↓aw,↓au,↓ak,↓aj,↓aC,↓aB,↓aE,↓aD,unA,ne_eq,not_true_eq_false,not_false_eq_true,g4,g13,g14,g16,bB,bO,bb,ba,a1,j1,ic,hdr,ce,dX]
   refine ⟨by omega,fun k o e1 e2=>by rw [if_neg (by omega)];exact e2,by omega,fun k o e1 e2 e3=>?_⟩
   rw [if_neg (fun e=>e2 e.symm)];exact a3 k o e1 e2 e3
  ·rw [if_neg (by omega)]
   simp -implicitDefEqProofs only [RA,ae,zp,↓reduceIte,reduceCtorEq,zq,zr,zs,zt,↓az,↓aA,↓ar,↓aq,↓aw,↓au,↓ak,↓aj,↓aC,↓aB,↓aE,↓aD,unA,ne_eq,not_true_eq_false,not_false_eq_true,sv,qG,g4,g13,g14,g16,bB,bO,bb,ba,a1,j1]
   exact ⟨by omega,fun k o _ e=>e,by omega,a3⟩
 ·rintro h2 n2 hn hd ⟨a1,a2,a3⟩
  rw [← e8 hblk] at a1
  exact hQ h2 n2 hn a3 hd a1
end Go.Proofs.YtkhjclmfbmfahaaDoor
