/- The order of the package: entering a block. -/
import Derived.Test.YtkhjclmfbmfahaaGreatDoorGK
namespace Go.Proofs.YtkhjclmfbmfahaaGreatDoor
open List renaming getElem?_eq_getElem → DN, mem_of_getElem? → DO, take_of_length_le → DQ, length_cons → DV, length_map → DX, mem_map → DZ, getElem?_map → Ej, flatten_cons → En
open Bool renaming and_eq_true → EF
open Nat renaming le_refl → EQ
set_option maxHeartbeats 64000000
open Go Go.Ab Go.Proofs
open Nat renaming reduceEqDiff → zp, reduceAdd → zq, reduceLeDiff → zr, reduceLT → zs, reduceBEq → zt
set_option linter.unusedVariables false
set_option linter.unusedSimpArgs false
set_option maxRecDepth 20000
def nbG (g:Fn) (b:Nat):List Nat:=match g.blocks[b]? with|some blk=>(nxL blk.to).map Int.toNat|none=>[]
theorem iY {g:Fn} {b:Nat} {blk:Bk} (h:g.blocks[b]?=some blk):nbG g b=(nxL blk.to).map Int.toNat:=by rw [nbG,h]
theorem my {c:Int}:∀ {l pre:List Int},c∈nxA pre l→c∈l
 | [],_,h=>by simp [nxA] at h
 | a::l,pre,h=>by
  simp only [nxA] at h
  split at h
  ·exact List.mem_cons_of_mem _ (my h)
  ·rcases List.mem_cons.1 h with e|e
   ·subst e;exact List.mem_cons_self
   ·exact List.mem_cons_of_mem _ (my e)
theorem jy {P:Pi} {g:Fn} (G:GdF P g) {b:Nat} {blk:Bk} (h:g.blocks[b]?=some blk) {c:Int} (hc:c∈nxL blk.to):0≤c∧c<(g.blocks.length:Int):=G.toR blk (DO h) c (my hc)
theorem iX {P:Pi} {g:Fn} (G:GdF P g):∀ b,∀ c∈nbG g b,c<g.blocks.length:=by
 intro b c hc
 unfold nbG at hc
 split at hc
 ·rename_i blk hb
  obtain ⟨d,hd,e⟩:=DZ.1 hc
  have:=jy G hb hd
  omega
 ·simp at hc
def inN (l:List Nat):List (List AV):=l.map fun x:Nat=>inE (x:Int)
theorem ij (l:List Nat):∀ z∈inN l,z.length=1:=fun z hz=>by
 obtain ⟨r,_,rfl⟩:=DZ.1 hz;rfl
structure WS (g:Fn) (cS cG cE cO:Nat) (h:Heap) (nx:Nat) (v:AV) (st:List Nat × List Nat):Prop where
 gS:aA h cS=some (.cells [.int .u64 (msk st.1)])
 gG:aA h cG=some (.cells (fnE g))
 gE:aA h cE=some (.cells [.fn (.func 54) [.op cS 0,.op cG 0,.op cE 0,.op cO 0]])
 gO:aA h cO=some (.cells [v])
 ow:aQ 3 1 h nx v (inN st.2)
 lS:cS<nx
 lG:cG<nx
 lE:cE<nx
 lO:cO<nx
 d1:cS≠cG∧cS≠cE∧cS≠cO∧cG≠cE∧cG≠cO∧cE≠cO
 ap:aM v≠some cS∧aM v≠some cG∧aM v≠some cE∧aM v≠some cO
def Kp (cS cO:Nat) (h:Heap) (nx:Nat) (v:AV) (h':Heap):Prop:=∀ k o,k<nx→k≠cS→k≠cO→aM v≠some k→aA h k=some o→aA h' k=some o
theorem WS.ext {g:Fn} {cS cG cE cO:Nat} {h h':Heap} {nx nx':Nat} {v:AV} {st:List Nat × List Nat} (W:WS g cS cG cE cO h nx v st) (hn:nx≤nx') (hk:∀ k o,(k=cS∨k=cG∨k=cE∨k=cO∨aM v=some k)→aA h k=some o→aA h' k=some o):WS g cS cG cE cO h' nx' v st :=
 ⟨hk _ _ (by simp) W.gS,hk _ _ (by simp) W.gG,hk _ _ (by simp) W.gE,hk _ _ (by simp) W.gO,W.ow.keep hn fun b o e h=>hk _ _ (by simp [e]) h,by have:=W.lS;omega,by have:=W.lG;omega,by have:=W.lE;omega,by have:=W.lO;omega,W.d1,W.ap⟩
theorem tp (rs:List RV) (Q:AE→Heap→Nat→Prop) (env:Env) (h:Heap) (n b:Nat):Ab.Fin rs Q .normal ⟨env,h,n,[b]⟩=(aA h b=some .dfd∧∃ ys,dW env (bN h b) rs=some ys∧Q (.ret (gH ys)) (bN h b) n):=by simp [Ab.Fin,kC,eV]
theorem w54 {P:Pi} {g:Fn} (G:GdF P g) {cS cG cE cO:Nat}:∀ (k b:Nat) (st:List Nat × List Nat) (h:Heap) (nx:Nat) (v:AV),OkS g.blocks.length st→b<g.blocks.length→b∉st.1→g.blocks.length≤k+st.1.length →
  WS g cS cG cE cO h nx v st→AC Tryz.prog 54 [.int .i64 b,.op cS 0,.op cG 0,.op cE 0,.op cO 0] h nx fun y h' n'=>y=.ret (.tup [])∧nx≤n'∧Kp cS cO h nx v h' ∧
   ∃ v',WS g cS cG cE cO h' n' v' (dE (nbG g) k b st)∧∀ c,aM v'=some c→nx≤c∨aM v=some c:=by
 have hG:=iX G
 have hn60:=G.n2
 intro k
 induction k with
 | zero =>
  intro b st h nx v ok h3 h4 h5 W
  have:=cq g.blocks.length (l:=b::st.1) (List.nodup_cons.2 ⟨h4,ok.nd⟩) (ok.enter h3 h4).lt
  rw [DV] at this
  omega
 | succ k ih =>
  intro b st h nx v ok h3 h4 h5 W
  have W0:=W
  obtain ⟨gS,gG,gE,gO,ow,lS,lG,lE,lO,⟨e1,e2,e3,e4,e5,e6⟩,a1,a2,a3,a4⟩:=W
  refine AC.go aI is54 (by simp) ?_
  have hm:=mE (s:=st.1) fun x hx=>by have:=ok.lt x hx;omega
  have w:=w40 (msk st.1) b hm (by omega)
  have fl:=iD g
  have ft:=ik g
  have ff:=bG g
  have hblk:=DN h3
  generalize g.blocks[b]=blk at hblk
  have q1:(cS=cG)=False:=eq_false e1
  have nbe:=iY hblk
  rw [ff] at fl ft gG
  simp -implicitDefEqProofs only [RA,ae,zp,↓reduceIte,reduceCtorEq,zq,zr,zs,zt,↓ay,↓az,↓ar,↓aq,↓aw,↓au,↓ak,↓aj,↓aC,↓aB,↓aE,↓aD,unA,ne_eq,not_true_eq_false,not_false_eq_true,A54,CU,gS]
  refine w.use fun n1 hn1=>?_
  have w2:=w25 g b ((cS,.cells [.int .u64 ((msk st.1 ||| 2 ^ b:Nat):Int)])::h) n1
  rw [ff] at w2
  simp -implicitDefEqProofs only [RA,ae,zp,↓reduceIte,reduceCtorEq,zq,zr,zs,zt,↓ay,↓az,↓ar,↓aq,↓aw,↓au,↓ak,↓aj,↓aC,↓aB,↓aE,↓aD,unA,ne_eq,not_true_eq_false,not_false_eq_true,gS,gG,fl,ft,q1]
  refine w2.mono ?_
  rintro y hh nn ⟨rfl,rfl,rfl⟩
  simp -implicitDefEqProofs only [RA,ae,zp,↓reduceIte,reduceCtorEq,zq,zr,zs,zt,↓ay,↓az,↓ar,↓aq,↓aw,↓au,↓ak,↓aj,↓aC,↓aB,↓aE,↓aD,unA,ne_eq,not_true_eq_false,not_false_eq_true,dJ]
  have okb:=ok.enter h3 h4
  refine mT hblk (by have:=G.to2 blk (DO hblk);omega) (c1:=n1) (c2:=n1+1) (by simp [oev,ai]) (by decide)
   (fun pre h2 n2=>∃ v2,WS g cS cG cE cO h2 n2 v2 (dF (nbG g) k (pre.map Int.toNat) (b::st.1,st.2))∧n1+4≤n2∧aA h2 n1=some (.cells (fnE g))∧aA h2 (n1+1)=some (.cells [.int .i64 b])∧Kp cS cO h nx v h2∧∀ c,aM v2=some c→n1+4≤c∨aM v=some c)
   (fun x=>(6,.int .i64 x)::(13,.int .i64 x)::[(12,.fn (.func 46) [.op n1 0,.op (n1+1) 0]),(11,.int .i64 b),(10,.agg [.str g.name,bh g.params,.int .i64 g.result,bh g.locals,cg g.blocks]),(9,.agg [.int .u64 ((msk st.1 ||| 2 ^ b:Nat):Int)]),(8,.int .i64 b),(7,.agg [.int .u64 (msk st.1)]),(0,.int .i64 b),(1,.op cS 0),(2,.op cG 0),(3,.op cE 0),(4,.op cO 0)])
   ?_ ?_ ?_ ?_ ?_ ?_ ?_
  ·rintro pre h2 n2 n3 ⟨v2,b1,b2,b3,b4,b5,b6⟩ hn
   exact ⟨v2,b1.ext hn fun _ _ _ h=>h,by omega,b3,b4,b5,b6⟩
  ·rintro pre h2 h3 n2 ⟨v2,b1,b2,b3,b4,b5,b6⟩ hk
   simp only at hk
   have hv:∀ c,aM v2=some c→c≠n1+1+1+1:=fun c hc=>by
    rcases b6 c hc with h|h
    ·omega
    ·have:=(ow.blk h).2.2;omega
   refine ⟨v2,b1.ext (EQ _) fun k o hk1 hk2=>?_,b2,by rw [hk _ (by omega)];exact b3,by rw [hk _ (by omega)];exact b4,fun k o c1 c2 c3 c4 c5=>by rw [hk _ (by omega)];exact b5 k o c1 c2 c3 c4 c5,b6⟩
   rw [hk]
   ·exact hk2
   ·rcases hk1 with h|h|h|h|h
    ·omega
    ·omega
    ·omega
    ·omega
    ·exact hv k h
  ·rintro pre h2 n2 ⟨v2,b1,b2,b3,b4,b5,b6⟩
   exact ⟨b3,b4⟩
  ·intro L
   have hget4:∀ q,q<nx→q≠cS→aA ((n1+1+1+1,L)::(n1+1+1,.dfd)::(n1+1,.cells [.int .i64 b])::(n1,.cells [.str g.name,bh g.params,.int .i64 g.result,bh g.locals,cg g.blocks])::(cS,.cells [.int .u64 ((msk st.1 ||| 2 ^ b:Nat):Int)])::h) q=aA h q:=fun q h1 h2=>by
    rw [af,if_neg (by omega),af,if_neg (by omega),af,if_neg (by omega),af,if_neg (by omega),af,if_neg (by omega)]
   refine ⟨v,⟨?_,?_,?_,?_,ow.keep (by simp only;omega) fun c o hc ho=>?_,by simp only;omega,by simp only;omega,by simp only;omega,by simp only;omega,W0.d1,W0.ap⟩,by simp only;omega,?_,?_,fun q o c1 c2 c3 c4 c5=>by simp only;rw [hget4 q c1 c2];exact c5,fun c hc=>.inr hc⟩
   ·simp only;rw [af,if_neg (by omega),af,if_neg (by omega),af,if_neg (by omega),af,if_neg (by omega),af,if_pos rfl];rfl
   ·simp only;rw [hget4 _ lG (by omega),ff];exact gG
   ·simp only;rw [hget4 _ lE (by omega)];exact gE
   ·simp only;rw [hget4 _ lO (by omega)];exact gO
   ·simp only;rw [hget4 c (ow.blk hc).2.2 (fun e=>a1 (by rw [hc,e]))];exact ho
   ·simp only;rw [af,if_neg (by omega),af,if_neg (by omega),af,if_neg (by omega),af,if_pos rfl,ff]
   ·simp only;rw [af,if_neg (by omega),af,if_neg (by omega),af,if_pos rfl]
  ·intro x h2 n2 l
   refine dT aI ?_
   simp -implicitDefEqProofs only [RA,ae,zp,↓reduceIte,reduceCtorEq,zq,zr,zs,zt,↓ay,↓az,↓ar,↓aq,↓aw,↓au,↓ak,↓aj,↓aC,↓aB,↓aE,↓aD,unA,ne_eq,not_true_eq_false,not_false_eq_true,yX,vZ]
  ·rintro pre x suf h2 n2 l hsp hn ⟨v2,b1,b2,b3,b4,b5,b6⟩
   have hxm:x∈nxL blk.to:=by rw [hsp];simp
   have hxr:=jy G hblk hxm
   obtain ⟨c,rfl⟩:∃ c:Nat,x=(c:Int):=⟨x.toNat,by omega⟩
   have hcn:c<g.blocks.length:=by omega
   have hpre:∀ d∈pre.map Int.toNat,d<g.blocks.length:=fun d hd=>by
    obtain ⟨z,hz,e⟩:=DZ.1 hd
    have:=jy G hblk (c:=z) (by rw [hsp];simp [hz])
    omega
   have dr:=ou hG k (pre.map Int.toNat) (b::st.1,st.2) okb.nd okb.lt hpre (by simp only [DV];omega)
   have okr:=okb.of dr
   have hlen:=dr.len
   simp only [DV] at hlen
   have hmap:(pre++[(c:Int)]).map Int.toNat=pre.map Int.toNat++[c]:=by simp
   have hsn:=rH (nbG g) k (pre.map Int.toNat) c (b::st.1,st.2)
   generalize dF (nbG g) k (pre.map Int.toNat) (b::st.1,st.2)=r at b1 okr hlen hsn
   have hm2:=mE (s:=r.1) fun x hx=>by have:=okr.lt x hx;omega
   have w30':=w30 (msk r.1) c hm2 (by omega)
   rw [o7] at w30'
   have bS:=b1.gS
   have bE:=b1.gE
   refine dT aI ?_
   simp -implicitDefEqProofs only [RA,ae,zp,↓reduceIte,reduceCtorEq,zq,zr,zs,zt,↓ay,↓az,↓ar,↓aq,↓aw,↓au,↓ak,↓aj,↓aC,↓aB,↓aE,↓aD,unA,ne_eq,not_true_eq_false,not_false_eq_true,yW,vY,bS]
   refine w30'.use fun n3 hn3=>?_
   rcases ah (c∈r.1) with ⟨c1,d1⟩|⟨c1,d1⟩
   ·rw [if_pos c1] at hsn
    simp -implicitDefEqProofs only [RA,ae,zp,↓reduceIte,reduceCtorEq,zq,zr,zs,zt,↓ay,↓az,↓ar,↓aq,↓aw,↓au,↓ak,↓aj,↓aC,↓aB,↓aE,↓aD,unA,ne_eq,not_true_eq_false,not_false_eq_true,d1]
    exact ⟨by simp only at hn;omega,fun _ _ _ h=>h,v2,by rw [hmap,hsn];exact b1.ext hn3 fun _ _ _ h=>h,by omega,b3,b4,b5,b6⟩
   ·rw [if_neg c1] at hsn
    simp -implicitDefEqProofs only [RA,ae,zp,↓reduceIte,reduceCtorEq,zq,zr,zs,zt,↓ay,↓az,↓ar,↓aq,↓aw,↓au,↓ak,↓aj,↓aC,↓aB,↓aE,↓aD,unA,ne_eq,not_true_eq_false,not_false_eq_true,d1,bE]
    refine (ih c r h2 n3 v2 okr hcn c1 (by omega) (b1.ext hn3 fun _ _ _ h=>h)).mono ?_
    rintro y h5 n5 ⟨rfl,hn5,hk5,v5,W5,id5⟩
    have hnv:∀ q,q<n1+4→nx≤q→aM v2≠some q:=fun q h1 h2 e=>by
     rcases b6 q e with h|h
     ·omega
     ·have:=(ow.blk h).2.2;omega
    simp -implicitDefEqProofs only [RA,ae,zp,↓reduceIte,reduceCtorEq,zq,zr,zs,zt,↓ay,↓az,↓ar,↓aq,↓aw,↓au,↓ak,↓aj,↓aC,↓aB,↓aE,↓aD,unA,ne_eq,not_true_eq_false,not_false_eq_true]
    refine ⟨by omega,fun q o hq ho=>hk5 q o (by omega) (by omega) (by omega) (hnv q (by omega) (by omega)) ho,v5,by rw [hmap,hsn];exact W5,by omega,hk5 _ _ (by omega) (by omega) (by omega) (hnv _ (by omega) (by omega)) b3,hk5 _ _ (by omega) (by omega) (by omega) (hnv _ (by omega) (by omega)) b4,fun q o c2 c3 c4 c5 c6=>hk5 q o (by omega) c3 c4 (fun e=>?_) (b5 q o c2 c3 c4 c5 c6),fun q hq=>?_⟩
    ·rcases b6 q e with h|h
     ·omega
     ·exact c5 h
    ·rcases id5 q hq with h|h
     ·exact .inl (by omega)
     ·exact b6 q h
  ·intro h2 n2 hn hd ⟨v2,b1,b2,b3,b4,b5,b6⟩
   rw [← nbe] at b1
   have dr:=ou hG k (nbG g b) (b::st.1,st.2) okb.nd okb.lt (hG b) (by simp only [DV];omega)
   have okr:=okb.of dr
   have hsn:=jY (nbG g) k b st
   generalize dF (nbG g) k (nbG g b) (b::st.1,st.2)=r at b1 okr hsn
   have hl:=okr.len
   obtain ⟨v',h4,n4,ea,og,hle,fr,id⟩:=b1.ow.grw (bytes:=8) (ns:=[inE (b:Int)]) (ij _) (by simp [inE]) (by simp [inN];omega) (by simp [inN,maxLen];omega)
   rw [inE] at ea
   have bO:=b1.gO
   obtain ⟨s1,s2,s3,s4⟩:=b1.ap
   have gO4:=fr _ _ b1.lO b1.gO s4
   obtain ⟨vc,vp⟩:=cJ og
   simp only at hn hd
   have hnv:∀ q,q<n1+4→nx≤q→aM v2≠some q:=fun q h1 h2 e=>by
    rcases b6 q e with h|h
    ·omega
    ·have:=(ow.blk h).2.2;omega
   have hnv':∀ q,aM v'=some q→n1+4≤q∨aM v=some q:=fun q hq=>by
    rcases id q hq with h|h
    ·exact .inl (by omega)
    ·exact b6 q h
   have hd4:=fr (n1+1+1) _ (by omega) hd (hnv _ (by omega) (by omega))
   have q2:(cO=n1+1+1)=False:=eq_false (by omega)
   simp -implicitDefEqProofs only [RA,ae,zp,↓reduceIte,reduceCtorEq,zq,zr,zs,zt,↓ay,↓az,↓ar,↓aq,↓aw,↓au,↓ak,↓aj,↓aC,↓aB,↓aE,↓aD,unA,ne_eq,not_true_eq_false,not_false_eq_true,bO,ea,gO4,vc,vp,List.length_singleton,R54,tp,hd4,q2]
   have kk:∀ q o,q<nx→q≠cO→aM v2≠some q→aA h2 q=some o→aA ((cO,AO.cells [v'])::bN h4 (n1+1+1)) q=some o:=fun q o c1 c2 c3 c4=>by
    rw [af,if_neg (by omega),br (by omega)]
    exact fr q o (by omega) c4 c3
   have hv2:∀ q,q<nx→aM v2=some q→aM v=some q:=fun q h1 h2=>by
    rcases b6 q h2 with h|h
    ·omega
    ·exact h
   have hne:∀ q,aM v'=some q→q<nx→aM v=some q:=fun q h1 h2=>by
    rcases hnv' q h1 with h|h
    ·omega
    ·exact h
   rw [hsn]
   refine ⟨by omega,fun q o c1 c2 c3 c4 c5=>kk q o c1 c3 (fun e=>c4 (hv2 q c1 e)) (b5 q o c1 c2 c3 c4 c5),v',⟨kk _ _ lS (by omega) s1 b1.gS,kk _ _ lG (by omega) s2 b1.gG,kk _ _ lE (by omega) s3 b1.gE,by rw [af,if_pos rfl],?_,by omega,by omega,by omega,by omega,W0.d1,?_⟩,fun q hq=>?_⟩
   ·rw [show inN (r.2++[b])=inN r.2++[inE (b:Int)] by simp [inN]]
    refine og.keep (EQ _) fun q o e1 e2=>?_
    have:q≠cO:=fun e=>by subst e;exact a4 (hne _ e1 lO)
    have:q≠n1+1+1:=fun e=>by
     rcases hnv' q e1 with h|h
     ·omega
     ·have:=(ow.blk h).2.2;omega
    rw [af,if_neg (by omega),br this];exact e2
   ·exact ⟨fun e=>a1 (hne _ e lS),fun e=>a2 (hne _ e lG),fun e=>a3 (hne _ e lE),fun e=>a4 (hne _ e lO)⟩
   ·rcases hnv' q hq with h|h
    ·exact .inl (by omega)
    ·exact .inr h
section
variable {α:Type} {f:α→AV} {H:Heap} {b i n:Nat} {l:List α}
theorem eP {e:TypeId} (h:i<n):idxA 1 (.os b 0 e 1 n) (i:Int)=some (.op b i):=by
 have:(i:Int)<(n:Int):=by omega
 simp [idxA,this]
theorem tZ (hb:aA H b=some (.cells (l.map f))) {x:α} (hx:l[i]?=some x):bt H (.op b i)=some (f x::(l.map f).drop (i+1)):=by
 simp only [bt,hb]
 rw [bu (l:=l.map f) (i:=i) (r:=f x) (by simp [hx])]
theorem rh (hb:aA H b=some (.cells (l.map f))) {x:α} (hx:l[i]?=some x):cR H 1 false (.op b i)=some (f x):=by
 unfold cR
 rw [tZ hb hx];rfl
theorem nF (hb:aA H b=some (.cells (l.map f))) (y:α) (hi:i<l.length):eM H (.op b i) [f y]=some ((b,.cells ((l.set i y).map f))::H):=by
 simp only [eM,hb,DX,List.length_singleton,if_pos (show i+1≤l.length by omega),kd _ _ _ (show i<(l.map f).length by simpa using hi),List.map_set,bz]
end
def icN (x:Nat):AV:=.int .i64 x
theorem nV (l:List Nat):(inN l).flatten=l.map icN:=by
 induction l with
 | nil=>rfl
 | cons a r ih=>simp only [inN,List.map_cons,En,inE,icN] at ih ⊢;rw [ih];rfl
theorem w55 {h:Heap} {nx:Nat} {v:AV} {l:List Nat} (ov:aQ 3 1 h nx v (inN l)) (hl:l.length≤4000000):AC Tryz.prog 55 [v] h nx fun y h' n'=>y=.ret (.tup [])∧nx≤n'∧(∀ k o,aM v≠some k→aA h k=some o→aA h' k=some o)∧aQ 3 1 h' n' v (inN l.reverse):=by
 refine AC.go aI is55 (by simp) ?_
 rcases ov with ⟨rfl,e⟩|⟨b,rfl,hb,hlt⟩
 ·have e':l=[]:=by cases l with|nil=>rfl|cons a r=>cases e
  subst e'
  simp -implicitDefEqProofs only [RA,ae,zp,↓reduceIte,reduceCtorEq,zq,zr,zs,zt,↓ay,↓az,↓ar,↓aq,↓aw,↓au,↓ak,↓aj,↓aC,↓aB,↓aE,↓aD,unA,ne_eq,not_true_eq_false,not_false_eq_true,A55,A0,eD]
  refine aJ (fun q st=>ai st.env 2=some (.int .i64 0)∧ai st.env 3=some (.int .i64 (-1))∧st.heap=h∧nx≤st.nx∧st.dm=[]) (n:=0) aI
   ⟨by simp [ai],by simp [ai,IntKind.wrap_i64],rfl,EQ _,rfl⟩ ?_
  rintro q ⟨env,heap,nx',dm⟩ ⟨g2,g3,rfl,hle,hdm⟩
  simp only at g2 g3 hle hdm
  subst hdm
  simp -implicitDefEqProofs only [RA,ae,zp,↓reduceIte,reduceCtorEq,zq,zr,zs,zt,↓ay,↓az,↓ar,↓aq,↓aw,↓au,↓ak,↓aj,↓aC,↓aB,↓aE,↓aD,unA,ne_eq,not_true_eq_false,not_false_eq_true,sf,nb,g2,g3,R55,show ((0:Int) < -1)=False from by decide]
  exact ⟨hle,fun _ _ _ h=>h,.inl ⟨rfl,rfl⟩⟩
 ·rw [show (inN l).length=l.length by simp [inN]]
  rw [nV] at hb
  obtain ⟨n,hn⟩:∃ n,n=l.length:=⟨_,rfl⟩
  rw [← hn] at hl ⊢
  have f0:IntKind.i64.wrap ((n:Int)-1)=(n:Int)-1:=w64 (by omega) (by omega)
  simp -implicitDefEqProofs only [RA,ae,zp,↓reduceIte,reduceCtorEq,zq,zr,zs,zt,↓ay,↓az,↓ar,↓aq,↓aw,↓au,↓ak,↓aj,↓aC,↓aB,↓aE,↓aD,unA,ne_eq,not_true_eq_false,not_false_eq_true,A55,A0,eD,f0]
  refine aJ (fun q st=>∃ (m:Nat) (l':List Nat),q=n-m∧2*m≤n∧ai st.env 0=some (.os b 0 3 1 n)∧ai st.env 2=some (.int .i64 m)∧ai st.env 3=some (.int .i64 ((n:Int)-1-m))∧l'.length=n∧(∀ x,x<n→l'[x]?=if x<m∨n-m≤x then l[n-1-x]? else l[x]?)∧aA st.heap b=some (.cells (l'.map icN))∧(∀ k o,k≠b→aA h k=some o→aA st.heap k=some o)∧nx≤st.nx∧st.dm=[]) (n:=n) aI
   ⟨0,l,by omega,by omega,by simp [ai],by simp [ai],by simp [ai],hn.symm,fun x hx=>by rw [if_neg (by omega)],hb,fun _ _ _ h=>h,EQ _,rfl⟩ ?_
  rintro q ⟨env,heap,nx',dm⟩ ⟨m,l',rfl,hm,g0,g2,g3,hl',hat,gb,hk,hle,hdm⟩
  simp only at g0 g2 g3 gb hk hle hdm
  subst hdm
  by_cases hc:(m:Int)<(n:Int)-1-m
  case neg =>
   have:l'=l.reverse:=by
    apply List.ext_getElem?
    intro x
    by_cases hx:x<n
    ·rw [hat x hx,List.getElem?_reverse (by omega),← hn]
     split
     ·rfl
     ·rw [show n-1-x=x by omega]
    ·rw [List.getElem?_eq_none (by omega),List.getElem?_eq_none (by simp;omega)]
   subst this
   simp -implicitDefEqProofs only [RA,ae,zp,↓reduceIte,reduceCtorEq,zq,zr,zs,zt,↓ay,↓az,↓ar,↓aq,↓aw,↓au,↓ak,↓aj,↓aC,↓aB,↓aE,↓aD,unA,ne_eq,not_true_eq_false,not_false_eq_true,sf,nb,g0,g2,g3,hc,R55]
   refine ⟨hle,fun k o h1 h2=>hk k o (fun e=>h1 (by rw [e];rfl)) h2,.inr ⟨b,?_,by rw [nV];exact gb,by omega⟩⟩
   simp [inN,hn]
  have e1:=hat m (by omega)
  have e2:=hat (n-1-m) (by omega)
  rw [if_neg (by omega)] at e1
  rw [if_neg (by omega)] at e2
  have h1:=DN (l:=l) (show m<l.length by omega)
  have h2:=DN (l:=l) (show n-1-m<l.length by omega)
  generalize l[m]=x at h1
  generalize l[n-1-m]=y at h2
  rw [h1] at e1
  rw [h2] at e2
  have i1:=eP (b:=b) (e:=3) (n:=n) (i:=m) (by omega)
  have i2:=eP (b:=b) (e:=3) (n:=n) (i:=n-1-m) (by omega)
  rw [show ((n-1-m:Nat):Int)=(n:Int)-1-m by omega] at i2
  have r1:=rh gb e1
  have r2:=rh gb e2
  have s1:=nF gb y (show m<l'.length by omega)
  have s2:=nF (H:=(b,.cells ((l'.set m y).map icN))::heap) (f:=icN) (i:=n-1-m) (l:=l'.set m y) (by rw [af,if_pos rfl]) x (by simp;omega)
  have f1:=wS (i:=m) (by omega)
  have f2:IntKind.i64.wrap ((n:Int)-1-m-1)=(n:Int)-1-((m+1:Nat):Int):=by rw [w64 (by omega) (by omega)];omega
  have c1:∀ z,cellsOf (icN z)=[icN z]:=fun _=>rfl
  have c2:∀ z,(icN z).plain=true:=fun _=>rfl
  simp -implicitDefEqProofs only [RR,RE,ae,zp,↓reduceIte,reduceCtorEq,zq,zr,zs,zt,↓ay,sf,nb,g0,g2,g3,hc,i1,i2,r1,r2,s1,s2,f1,f2,c1,c2,List.length_singleton,bx,aN]
  refine ⟨n-(m+1),by omega,m+1,_,rfl,by omega,rfl,rfl,?_,?_,by rw [af,if_pos rfl],?_,hle⟩
  ·simp [hl']
  ·intro z hz
   have hz':=hat z hz
   by_cases z1:z=n-1-m
   ·subst z1
    rw [List.getElem?_set_self (by simp;omega),if_pos (by omega),show n-1-(n-1-m)=m by omega,h1]
   ·rw [List.getElem?_set_ne (by omega)]
    by_cases z2:z=m
    ·subst z2
     rw [List.getElem?_set_self (by omega),if_pos (by omega),h2]
    ·rw [List.getElem?_set_ne (by omega),hz']
     by_cases z3:z<m∨n-m≤z
     ·rw [if_pos z3,if_pos (by omega)]
     ·rw [if_neg z3,if_neg (by omega)]
  ·intro k o h3 h4
   rw [af,if_neg (by omega),af,if_neg (by omega)];exact hk k o h3 h4
def e8 (l:List Nat):AV:=.lst 1 (inN l)
theorem kv (l:List Nat):eD (e8 l)=some l.length:=by simp [e8,inN,dy]
theorem jd {l:List Nat} {n:Nat} {r:Nat} (h:l[n]?=some r):idxA 1 (e8 l) (n:Int)=some (.fp [.int .i64 r]):=bM h
theorem uG (l:List Nat):e8 l=bT (l.map fun x:Nat=>(x:Int)):=by simp [e8,inN,bT]
def pk (g:Fn):List Nat:=pj (nbG g) g.blocks.length
theorem w37 {P:Pi} {g:Fn} (G:GdF P g):Pure Tryz.prog 37 [.agg (fnE g)] (e8 (pk g)):=by
 refine Pure.own (e:=3) (ij _) fun nx=>AC.go aI is37 (by simp) ?_
 have n1:(nx+1=nx)=False:=eq_false (by omega)
 have n2:(nx+1+1=nx)=False:=eq_false (by omega)
 have n3:(nx+1+1=nx+1)=False:=eq_false (by omega)
 have n4:(nx+1+1+1=nx)=False:=eq_false (by omega)
 have n5:(nx+1+1+1=nx+1)=False:=eq_false (by omega)
 have n6:(nx+1+1+1=nx+1+1)=False:=eq_false (by omega)
 have ff:=bG g
 rw [ff]
 simp -implicitDefEqProofs only [RA,ae,zp,↓reduceIte,reduceCtorEq,zq,zr,zs,zt,↓ay,↓az,↓ar,↓aq,↓aw,↓au,↓ak,↓aj,↓aC,↓aB,↓aE,↓aD,unA,ne_eq,not_true_eq_false,not_false_eq_true,A37,C8,n1,n2,n3,n4,n5,n6,ci,ofC,ofV]
 obtain ⟨H,hH⟩:∃ H:Heap,H=[(nx+1+1+1,AO.cells [.fn (.func 54) [.op (nx+1+1) 0,.op nx 0,.op (nx+1+1+1) 0,.op (nx+1) 0]]),(nx+1+1+1,.cells [.nilF]),(nx+1+1,.cells [.int .u64 0]),(nx+1,.cells [.nilS]),(nx,.cells [.str g.name,bh g.params,.int .i64 g.result,bh g.locals,cg g.blocks])]:=⟨_,rfl⟩
 rw [← hH]
 have hn:=G.n1
 have hW:WS g (nx+1+1) nx (nx+1+1+1) (nx+1) H (nx+1+1+1+1) .nilS ([],[]):=by
  subst hH
  refine ⟨?_,?_,?_,?_,.inl ⟨rfl,rfl⟩,by omega,by omega,by omega,by omega,by omega,by simp [aM]⟩
  ·simp [aA,msk,n6]
  ·simp [aA,ff,n2,n4]
  ·simp [aA]
  ·simp [aA,n3,n5,n2]
 have w:=w54 G g.blocks.length 0 ([],[]) H _ _ ⟨.nil,by simp,.nil,by simp⟩ (by omega) (by simp) (by simp) hW
 refine w.mono ?_
 rintro y h2 n2' ⟨rfl,hn2,hk2,v,W2,id2⟩
 have bO:=W2.gO
 simp -implicitDefEqProofs only [RA,ae,zp,↓reduceIte,reduceCtorEq,zq,zr,zs,zt,↓ay,↓az,↓ar,↓aq,↓aw,↓au,↓ak,↓aj,↓aC,↓aB,↓aE,↓aD,unA,ne_eq,not_true_eq_false,not_false_eq_true,bO]
 have hlen:(dE (nbG g) g.blocks.length 0 ([],[])).2.length≤g.blocks.length:=by
  obtain ⟨d1,d2⟩:=rI (iX G) g.blocks.length 0 ([],[]) List.Pairwise.nil (by simp) (by omega) (by simp) (by simp)
  exact (OkS.of (st:=([],[])) ⟨.nil,by simp,.nil,by simp⟩ d1).len
 have hn60:=G.n2
 refine (w55 W2.ow (by omega)).mono ?_
 rintro y h3 n3' ⟨rfl,hn3,hk3,ov3⟩
 have bO3:=hk3 _ _ W2.ap.2.2.2 bO
 simp -implicitDefEqProofs only [RA,ae,zp,↓reduceIte,reduceCtorEq,zq,zr,zs,zt,↓ay,↓az,↓ar,↓aq,↓aw,↓au,↓ak,↓aj,↓aC,↓aB,↓aE,↓aD,unA,ne_eq,not_true_eq_false,not_false_eq_true,bO3,R37]
 exact ⟨v,rfl,ov3⟩
def orL (P:Pi) (f:Int):List Nat:=if chE P f=0 then (match P[f.toNat]? with|some g=>pk g|none=>[]) else []
theorem t8 {P:Pi} {f:Int} {g:Fn} (h:chE P f=0) (hg:P[f.toNat]?=some g):orL P f=pk g:=by rw [orL,if_pos h,hg]
theorem t9 {P:Pi} {f:Int} (h:chE P f≠0):orL P f=[]:=if_neg h
theorem w13 (P:Pi) (f:Int) (ho:im P):Pure Tryz.prog 13 [.agg (piE P),.int .i64 f] (.tup [e8 (orL P f),.int .i64 (chE P f)]):=by
 refine Pure.frz fun nx=>AC.go aI is13 (by simp) ?_
 have w23':=w23 P f ho
 have n1:(nx+1=nx)=False:=eq_false (by omega)
 unfold piE at w23' ⊢
 simp -implicitDefEqProofs only [RA,ae,zp,↓reduceIte,reduceCtorEq,zq,zr,zs,zt,↓ay,↓az,↓ar,↓aq,↓aw,↓au,↓ak,↓aj,↓aC,↓aB,↓aE,↓aD,unA,ne_eq,not_true_eq_false,not_false_eq_true,A13,Dq]
 refine w23'.use fun k1 hk1=>?_
 have a1:(k1=nx)=False:=eq_false (by omega)
 rcases ah (chE P f=0) with ⟨c1,d1⟩|⟨c1,d1⟩
 case inr =>
  rw [t9 c1,jw c1]
  simp -implicitDefEqProofs only [RA,ae,zp,↓reduceIte,reduceCtorEq,zq,zr,zs,zt,↓ay,↓az,↓ar,↓aq,↓aw,↓au,↓ak,↓aj,↓aC,↓aB,↓aE,↓aD,unA,ne_eq,not_true_eq_false,not_false_eq_true,d1,a1,n1,R13,zFn]
  exact ⟨_,_,rfl,(Frz.nilS _ 1).head⟩
 obtain ⟨e0,e1,e2,g,hg,hgm⟩:=iF c1
 obtain ⟨gl,_,_,gd⟩:=kE e0
 have G:=gd g hgm
 rw [t8 c1 hg,mw c1 hg,c1]
 have w37':=w37 G
 have fl:=iD g
 have ft:=ik g
 have ff:=bG g
 rw [ff] at fl ft w37' ⊢
 simp -implicitDefEqProofs only [RA,ae,zp,↓reduceIte,reduceCtorEq,zq,zr,zs,zt,↓ay,↓az,↓ar,↓aq,↓aw,↓au,↓ak,↓aj,↓aC,↓aB,↓aE,↓aD,unA,ne_eq,not_true_eq_false,not_false_eq_true,a1,n1,fl,ft]
 refine w37'.use fun k2 hk2=>?_
 simp -implicitDefEqProofs only [RA,ae,zp,↓reduceIte,reduceCtorEq,zq,zr,zs,zt,↓ay,↓az,↓ar,↓aq,↓aw,↓au,↓ak,↓aj,↓aC,↓aB,↓aE,↓aD,unA,ne_eq,not_true_eq_false,not_false_eq_true,R13]
 exact ⟨_,_,rfl,.refl _ _⟩
theorem kr {α:Type} {f:α→AV} {l:List α} {i:Nat} {x:α} (h:l[i]?=some x):(l.map f).drop i=f x::(l.map f).drop (i+1):=bu (by simp [h])
theorem fQ {α:Type} {f:α→AV} {l:List α} {i:Nat} (h:i<l.length) (y:α):(l.map f).take i++f y::(l.map f).drop (i+1)=(l.set i y).map f:=by
 rw [List.map_set,List.set_eq_take_append_cons_drop,if_pos (by simpa using h)]
theorem iB {α:Type} {f:α→AV} {l:List α} {i:Nat} (h:i<l.length):(i+1≤(l.map f).length)=True:=eq_true (by simp;omega)
def blL (n:Nat) (s:List Nat):List Bool:=(List.range n).map fun x=>decide (x∈s)
theorem ep (n:Nat) (s:List Nat):(blL n s).length=n:=by simp [blL]
theorem kF {n:Nat} {s:List Nat} {x:Nat} (h:x<n):(blL n s)[x]?=some (decide (x∈s)):=by simp [blL,h]
theorem mN {n:Nat} {s:List Nat} {b:Nat}:(blL n s).set b true=blL n (b::s):=by
 apply List.ext_getElem?
 intro x
 by_cases hx:x<n
 ·rw [kF hx]
  by_cases e:x=b
  ·subst e;rw [List.getElem?_set_self (by simp [ep,hx])];simp
  ·rw [List.getElem?_set_ne (by omega),kF hx];simp [e]
 ·rw [List.getElem?_eq_none (by simp [ep];omega),List.getElem?_eq_none (by simp [ep];omega)]
structure WR (N:List (List Int)) (w be:Nat) (h:Heap) (nx:Nat) (v:AV) (st:List Nat × List Nat):Prop where
 gW:aA h w=some (.cells [ntA N,.os be 0 4 1 N.length,v])
 gB:aA h be=some (.cells ((blL N.length st.1).map .bool))
 ow:aQ 3 1 h nx v (inN st.2)
 lW:w<nx
 lB:be<nx
 ne:w≠be
 a1:aM v≠some w
 a2:aM v≠some be
theorem WR.ext {N:List (List Int)} {w be:Nat} {h h':Heap} {nx nx':Nat} {v:AV} {st:List Nat × List Nat} (W:WR N w be h nx v st) (hn:nx≤nx') (hk:∀ k o,(k=w∨k=be∨aM v=some k)→aA h k=some o→aA h' k=some o):WR N w be h' nx' v st :=
 ⟨hk _ _ (by simp) W.gW,hk _ _ (by simp) W.gB,W.ow.keep hn fun b o e h=>hk _ _ (by simp [e]) h,by have:=W.lW;omega,by have:=W.lB;omega,W.ne,W.a1,W.a2⟩
def ntF (g:Fn):List (List Int):=g.blocks.map fun b=>nxL b.to
theorem uo {g:Fn} {b:Nat} {blk:Bk} (h:g.blocks[b]?=some blk):(ntF g)[b]?=some (nxL blk.to):=by simp [ntF,h]
theorem iW (g:Fn):(ntF g).length=g.blocks.length:=by simp [ntF]
theorem w38 {P:Pi} {g:Fn} (G:GdF P g) {w be:Nat}:∀ (k b:Nat) (st:List Nat × List Nat) (h:Heap) (nx:Nat) (v:AV),OkS g.blocks.length st→b<g.blocks.length→b∉st.1→g.blocks.length≤k+st.1.length →
  WR (ntF g) w be h nx v st→AC Tryz.prog 38 [.op w 0,.int .i64 b] h nx fun y h' n'=>y=.ret (.tup [])∧nx≤n' ∧
   ∃ v',WR (ntF g) w be h' n' v' (dE (nbG g) k b st):=by
 have hG:=iX G
 have hn60:=G.n2
 have hNl:=iW g
 intro k
 induction k with
 | zero =>
  intro b st h nx v ok h3 h4 h5 W
  have:=cq g.blocks.length (l:=b::st.1) (List.nodup_cons.2 ⟨h4,ok.nd⟩) (ok.enter h3 h4).lt
  rw [DV] at this
  omega
 | succ k ih =>
  intro b st h nx v ok h3 h4 h5 W
  have W0:=W
  obtain ⟨gW,gB,ow,lW,lB,hne,a1,a2⟩:=W
  refine AC.go aI is38 (by simp) ?_
  have hblk:=DN h3
  generalize g.blocks[b]=blk at hblk
  have nbe:=iY hblk
  have ixN:=pm (uo hblk)
  rw [nsE] at ixN
  have lo:=eh (nxL blk.to)
  have hto:=G.to2 blk (DO hblk)
  have hnl:=jU blk.to
  have ib:=eP (b:=be) (e:=4) (n:=(ntF g).length) (i:=b) (by omega)
  have hput:=fQ (f:=AV.bool) (l:=blL (ntF g).length st.1) (i:=b) (by rw [ep];omega) true
  rw [mN] at hput
  have hle:=iB (f:=AV.bool) (l:=blL (ntF g).length st.1) (i:=b) (by rw [ep];omega)
  have q1:(be=w)=False:=eq_false (fun e=>hne e.symm)
  simp -implicitDefEqProofs only [RA,ae,zp,↓reduceIte,reduceCtorEq,zq,zr,zs,zt,↓ay,↓az,↓ar,↓aq,↓aw,↓au,↓ak,↓aj,↓aC,↓aB,↓aE,↓aD,unA,ne_eq,not_true_eq_false,not_false_eq_true,A38,C7,gW,gB,ib,hput,hle,q1]
  have okb:=ok.enter h3 h4
  have hval:∀ i,i<(nxL blk.to).length→∃ c:Nat,(nxL blk.to)[i]?=some (c:Int)∧c<g.blocks.length∧(nbG g b)[i]?=some c:=fun i hi=>by
   have hr:=DN hi
   have hx:=jy G hblk (DO hr)
   refine ⟨((nxL blk.to)[i]).toNat,?_,by omega,?_⟩
   ·rw [hr];congr 1;omega
   ·rw [nbe,Ej,hr];rfl
  have hnbl:(nbG g b).length=(nxL blk.to).length:=by rw [nbe,DX]
  have hpre:∀ i,∀ c∈(nbG g b).take i,c<g.blocks.length:=fun i c hc=>hG b c (List.mem_of_mem_take hc)
  refine aJ (fun q st'=>∃ (i:Nat) (v2:AV),q=(nxL blk.to).length-i∧i≤(nxL blk.to).length∧ai st'.env 0=some (.op w 0)∧ai st'.env 1=some (.int .i64 b)∧ai st'.env 4=some (.int .i64 i)∧WR (ntF g) w be st'.heap st'.nx v2 (dF (nbG g) k ((nbG g b).take i) (b::st.1,st.2))∧nx≤st'.nx∧st'.dm=[]) (n:=(nxL blk.to).length) aI
   ⟨0,v,rfl,by omega,by simp [ai],by simp [ai],by simp [ai],⟨?_,?_,?_,lW,lB,hne,a1,a2⟩,EQ _,rfl⟩ ?_
  ·simp only;rw [af,if_neg (by omega)];exact gW
  ·simp only;rw [af,if_pos rfl];rfl
  ·simp only
   refine ow.keep (EQ _) fun c o e1 e2=>?_
   rw [af,if_neg (fun e=>a2 (by rw [e1,e]))];exact e2
  rintro q ⟨env,heap,nx',dm⟩ ⟨i,v2,rfl,hi,g0,g1,g4,W2,hle2,hdm⟩
  simp only at g0 g1 g4 W2 hle2 hdm
  subst hdm
  have f1:=wS (i:=i) (by omega)
  have dr:=ou hG k ((nbG g b).take i) (b::st.1,st.2) okb.nd okb.lt (hpre i) (by simp only [DV];omega)
  have okr:=okb.of dr
  have hlen:=dr.len
  simp only [DV] at hlen
  have gW2:=W2.gW
  by_cases hc:(i:Int)<((nxL blk.to).length:Int)
  case neg =>
   rw [show (nbG g b).take i=nbG g b from DQ (by omega)] at W2 okr
   have hsn:=jY (nbG g) k b st
   generalize dF (nbG g) k (nbG g b) (b::st.1,st.2)=r at W2 okr hsn
   have hl:=okr.len
   obtain ⟨v',h4,n4,ea,og,hle4,fr,id⟩:=W2.ow.grw (bytes:=8) (ns:=[inE (b:Int)]) (ij _) (by simp [inE]) (by simp [inN];omega) (by simp [inN,maxLen];omega)
   rw [inE] at ea
   have gW4:=fr _ _ W2.lW W2.gW W2.a1
   have gB4:=fr _ _ W2.lB W2.gB W2.a2
   obtain ⟨vc,vp⟩:=cJ og
   have hnv:∀ c,c<nx'→aM v2≠some c→aM v'≠some c:=fun c h1 h2 e=>by
    rcases id c e with h|h
    ·omega
    ·exact h2 h
   have l1:=W2.lW
   have l2:=W2.lB
   simp -implicitDefEqProofs only [RA,ae,zp,↓reduceIte,reduceCtorEq,zq,zr,zs,zt,↓ay,↓az,↓ar,↓aq,↓aw,↓au,↓ak,↓aj,↓aC,↓aB,↓aE,↓aD,unA,ne_eq,not_true_eq_false,not_false_eq_true,sj,ng,g0,g1,g4,gW2,ixN,lo,hc,ea,gW4,vc,vp,R38]
   refine ⟨by omega,v',?_⟩
   rw [hsn]
   refine ⟨by rw [af,if_pos rfl],by rw [af,if_neg (by omega)];exact gB4,?_,by omega,by omega,hne,hnv _ l1 W2.a1,hnv _ l2 W2.a2⟩
   rw [show inN (r.2++[b])=inN r.2++[inE (b:Int)] by simp [inN]]
   refine og.keep (EQ _) fun c o e1 e2=>?_
   rw [af,if_neg (fun e=>hnv _ l1 W2.a1 (by rw [e1,e]))];exact e2
  obtain ⟨c,hr,hcn,hnb⟩:=hval i (by omega)
  have ixr:=ej hr
  rw [inE] at ixr
  have hsn:=rH (nbG g) k ((nbG g b).take i) c (b::st.1,st.2)
  rw [← aP hnb] at hsn
  generalize dF (nbG g) k ((nbG g b).take i) (b::st.1,st.2)=r at W2 okr hlen hsn
  have gB2:=W2.gB
  have ic:=eP (b:=be) (e:=4) (n:=(ntF g).length) (i:=c) (by omega)
  have hdr:=kr (f:=AV.bool) (kF (n:=(ntF g).length) (s:=r.1) (x:=c) (by omega))
  rcases ah (c∈r.1) with ⟨c1,d1⟩|⟨c1,d1⟩
  ·rw [if_pos c1] at hsn
   simp -implicitDefEqProofs only [RA,ae,zp,↓reduceIte,reduceCtorEq,zq,zr,zs,zt,↓ay,↓az,↓ar,↓aq,↓aw,↓au,↓ak,↓aj,↓aC,↓aB,↓aE,↓aD,unA,ne_eq,not_true_eq_false,not_false_eq_true,sj,ng,g0,g1,g4,gW2,gB2,ixN,lo,hc,ixr,ic,hdr,d1,f1]
   exact ⟨(nxL blk.to).length-(i+1),by omega,i+1,v2,rfl,by omega,rfl,by rw [hsn];exact W2,by omega⟩
  ·rw [if_neg c1] at hsn
   simp -implicitDefEqProofs only [RA,ae,zp,↓reduceIte,reduceCtorEq,zq,zr,zs,zt,↓ay,↓az,↓ar,↓aq,↓aw,↓au,↓ak,↓aj,↓aC,↓aB,↓aE,↓aD,unA,ne_eq,not_true_eq_false,not_false_eq_true,sj,ng,g0,g1,g4,gW2,gB2,ixN,lo,hc,ixr,ic,hdr,d1]
   refine (ih c r heap nx' v2 okr hcn c1 (by omega) W2).mono ?_
   rintro y h5 n5 ⟨rfl,hn5,v5,W5⟩
   simp -implicitDefEqProofs only [RA,ae,zp,↓reduceIte,reduceCtorEq,zq,zr,zs,zt,↓ay,↓az,↓ar,↓aq,↓aw,↓au,↓ak,↓aj,↓aC,↓aB,↓aE,↓aD,unA,ne_eq,not_true_eq_false,not_false_eq_true,g0,g1,g4,f1]
   exact ⟨(nxL blk.to).length-(i+1),by omega,i+1,v5,rfl,by omega,rfl,by rw [hsn];exact W5,by omega⟩
theorem rp {n b:Nat} (h:n≤4000000) (hb:b≤100):(0≤(n:Int)∧(n:Int)≤(n:Int)∧((b:Nat):Int)*(n:Int)≤281474976710656∧(n:Int)≤9223372036854775807)=True:=by
 have:b*n≤100*4000000:=Nat.mul_le_mul hb h
 exact eq_true ⟨by omega,by omega,by rw [← Int.natCast_mul];omega,by omega⟩
theorem uu (n:Nat):(List.replicate n [AV.bool false]).flatten=(blL n []).map .bool:=by
 apply List.ext_getElem?
 intro i
 by_cases h:i<n
 ·have e1:((blL n []).map AV.bool)[i]?=some (.bool false):=by rw [Ej,kF h];simp
  rw [e1,show (List.replicate n [AV.bool false]).flatten=List.replicate n (AV.bool false) by simp]
  simp [h]
 ·rw [List.getElem?_eq_none (by simp;omega),List.getElem?_eq_none (by simp [ep];omega)]
theorem w14 (P:Pi) (f:Int) (ho:im P):Pure Tryz.prog 14 [.agg (piE P),.int .i64 f] (.tup [e8 (orL P f),.int .i64 (chE P f)]):=by
 refine Pure.frz fun nx=>AC.go aI is14 (by simp) ?_
 have w12':=w12 P f ho
 unfold piE at w12' ⊢
 simp -implicitDefEqProofs only [RA,ae,zp,↓reduceIte,reduceCtorEq,zq,zr,zs,zt,↓ay,↓az,↓ar,↓aq,↓aw,↓au,↓ak,↓aj,↓aC,↓aB,↓aE,↓aD,unA,ne_eq,not_true_eq_false,not_false_eq_true,A14,Dp]
 refine w12'.use fun k1 hk1=>?_
 rcases ah (chE P f=0) with ⟨c1,d1⟩|⟨c1,d1⟩
 case inr =>
  rw [t9 c1]
  simp -implicitDefEqProofs only [RA,ae,zp,↓reduceIte,reduceCtorEq,zq,zr,zs,zt,↓ay,↓az,↓ar,↓aq,↓aw,↓au,↓ak,↓aj,↓aC,↓aB,↓aE,↓aD,unA,ne_eq,not_true_eq_false,not_false_eq_true,d1,R14]
  exact ⟨_,_,rfl,(Frz.nilS _ 1).head⟩
 obtain ⟨e0,e1,e2,g,hg,hgm⟩:=iF c1
 obtain ⟨gl,_,_,gd⟩:=kE e0
 have G:=gd g hgm
 rw [t8 c1 hg,c1,mz c1 hg]
 have hnl:((g.blocks.map fun b=>nxL b.to)).length=g.blocks.length:=by simp
 have lo:=km (ntF g)
 have hn60:=G.n2
 have hn1:=G.n1
 have hmk:=rp (n:=(ntF g).length) (b:=1) (by rw [iW];omega) (by omega)
 have a0:(k1=nx)=False:=eq_false (by omega)
 rw [show (g.blocks.map fun b=>nxL b.to)=ntF g from rfl]
 have mkb:=uu (ntF g).length
 have cN:cellsOf (ntA (ntF g))=[ntA (ntF g)]:=rfl
 simp -implicitDefEqProofs only [RA,ae,zp,↓reduceIte,reduceCtorEq,zq,zr,zs,zt,↓ay,↓az,↓ar,↓aq,↓aw,↓au,↓ak,↓aj,↓aC,↓aB,↓aE,↓aD,unA,ne_eq,not_true_eq_false,not_false_eq_true,a0,lo,hmk,mkb,cN,Int.toNat_natCast,show (ntA (ntF g)).plain=true from rfl]
 obtain ⟨H,hH⟩:∃ H:Heap,H=[(k1+1,AO.cells [ntA (ntF g),.os k1 0 4 1 (ntF g).length,.nilS]),(k1,.cells ((blL (ntF g).length []).map .bool)),(nx,.cells [bU P])]:=⟨_,rfl⟩
 rw [← hH]
 have hW:WR (ntF g) (k1+1) k1 H (k1+1+1) .nilS ([],[]):=by
  subst hH
  exact ⟨by rw [af,if_pos rfl],by rw [af,if_neg (by omega),af,if_pos rfl],.inl ⟨rfl,rfl⟩,by omega,by omega,by omega,by simp [aM],by simp [aM]⟩
 refine (w38 G g.blocks.length 0 ([],[]) H _ _ ⟨.nil,by simp,.nil,by simp⟩ (by omega) (by simp) (by simp) hW).mono ?_
 rintro y h2 n2 ⟨rfl,hn2,v,W2⟩
 have gW:=W2.gW
 have hlen:(dE (nbG g) g.blocks.length 0 ([],[])).2.length≤g.blocks.length:=by
  obtain ⟨d1,d2⟩:=rI (iX G) g.blocks.length 0 ([],[]) List.Pairwise.nil (by simp) (by omega) (by simp) (by simp)
  exact (OkS.of (st:=([],[])) ⟨.nil,by simp,.nil,by simp⟩ d1).len
 have hord:pk g=(dE (nbG g) g.blocks.length 0 ([],[])).2.reverse:=rfl
 generalize dE (nbG g) g.blocks.length 0 ([],[])=r at W2 hlen hord
 have lv:=W2.ow.len
 rw [show (inN r.2).length=r.2.length by simp [inN]] at lv
 have f0:IntKind.i64.wrap ((r.2.length:Int)-1)=(r.2.length:Int)-1:=w64 (by omega) (by omega)
 simp -implicitDefEqProofs only [RA,ae,zp,↓reduceIte,reduceCtorEq,zq,zr,zs,zt,↓ay,↓az,↓ar,↓aq,↓aw,↓au,↓ak,↓aj,↓aC,↓aB,↓aE,↓aD,unA,ne_eq,not_true_eq_false,not_false_eq_true,gW,lv,f0]
 refine aJ (fun q st=>∃ (i:Nat) (v2:AV),q=r.2.length-i∧i≤r.2.length∧ai st.env 8=some (.op (k1+1) 0)∧ai st.env 9=some v2∧ai st.env 10=some (.int .i64 ((r.2.length:Int)-1-i))∧aA st.heap (k1+1)=some (.cells [ntA (ntF g),.os k1 0 4 1 (ntF g).length,v])∧aQ 3 1 st.heap st.nx v (inN r.2)∧aQ 3 1 st.heap st.nx v2 (inN (r.2.reverse.take i))∧k1+1<st.nx∧aM v≠some (k1+1)∧aM v2≠some (k1+1)∧apart v v2∧st.dm=[]) (n:=r.2.length) aI
  ⟨0,.nilS,rfl,by omega,by simp [ai],by simp [ai],by simp [ai],gW,W2.ow,.inl ⟨rfl,rfl⟩,W2.lW,W2.a1,by simp [aM],fun b h1 h2=>by simp [aM] at h2,rfl⟩ ?_
 clear gW lv
 rintro q ⟨env,heap,nx',dm⟩ ⟨i,v2,rfl,hi,g8,g9,g10,gW,ov,ov2,hlt,hne,hne2,hap,hdm⟩
 simp only at g8 g9 g10 gW ov ov2 hlt hdm
 subst hdm
 rcases ah ((0:Int)≤(r.2.length:Int)-1-i) with ⟨c2,d2⟩|⟨c2,d2⟩
 case inr =>
  have:r.2.reverse.take i=pk g:=by rw [hord];exact DQ (by simp;omega)
  rw [this] at ov2
  simp -implicitDefEqProofs only [RA,ae,zp,↓reduceIte,reduceCtorEq,zq,zr,zs,zt,↓ay,↓az,↓ar,↓aq,↓aw,↓au,↓ak,↓aj,↓aC,↓aB,↓aE,↓aD,unA,ne_eq,not_true_eq_false,not_false_eq_true,wH,qM,g8,g9,g10,d2,R14]
  obtain ⟨h5,hf⟩:=ov2.frz (ij _)
  exact ⟨_,_,rfl,hf.head⟩
 have hr:=DN (l:=r.2) (show r.2.length-1-i<r.2.length by omega)
 generalize r.2[r.2.length-1-i]=x at hr
 have hrr:r.2.reverse[i]?=some x:=by rw [List.getElem?_reverse (by omega)];exact hr
 obtain ⟨b,off,ix,cs,pc,ct,cj⟩:=ov.idx (ij _) (i:=r.2.length-1-i) (r:=inE (x:Int)) (by simp [inN,hr])
 rw [show ((r.2.length-1-i:Nat):Int)=(r.2.length:Int)-1-i by omega] at ix
 have ld:∃ cs',cs=.int .i64 x::cs':=by
  have:=cj 0 (by omega)
  cases cs with
  | nil=>simp [inE] at this
  | cons a c=>simp [inE] at this;subst this;exact ⟨_,rfl⟩
 obtain ⟨cs',rfl⟩:=ld
 obtain ⟨v3,h4,n4,ea,og,hle4,fr,id⟩:=ov2.grw (bytes:=8) (ns:=[inE (x:Int)]) (ij _) (by simp [inE]) (by simp [inN];omega) (by simp [inN,maxLen];omega)
 rw [inE] at ea
 have f1:IntKind.i64.wrap ((r.2.length:Int)-1-i-1)=(r.2.length:Int)-1-((i+1:Nat):Int):=by rw [w64 (by omega) (by omega)];omega
 have rl:cR heap 1 false (.op b off)=some (.int .i64 x):=by unfold cR;rw [pc];rfl
 have pw:bt heap (.op (k1+1) 2)=some [v]:=by simp [bt,gW]
 simp -implicitDefEqProofs only [RR,RE,RG,ae,zp,↓reduceIte,reduceCtorEq,zq,zr,zs,zt,wH,qM,g8,g9,g10,d2,pw,ix,ea,f1,pc]
 have hid:∀ c,c<nx'→aM v2≠some c→aM v3≠some c:=fun c h1 h2 e=>by
  rcases id c e with h|h
  ·omega
  ·exact h2 h
 refine ⟨r.2.length-(i+1),by omega,i+1,v3,rfl,by omega,rfl,rfl,fr _ _ hlt gW hne2,ov.keep hle4 fun c o e1 e2=>fr c o (ov.blk e1).2.2 e2 (fun e=>hap c e1 e),?_,by omega,hne,hid _ hlt hne2,fun c e1 e2=>?_⟩
 ·rw [aP hrr,show inN (r.2.reverse.take i++[x])=inN (r.2.reverse.take i)++[inE (x:Int)] by simp [inN]];exact og
 ·exact hid c (ov.blk e1).2.2 (fun e=>hap c e1 e) e2
noncomputable def dc (p:Prop):Bool:=@decide p (Classical.propDecidable p)
theorem eX {p:Prop}:dc p=true↔p:=@decide_eq_true_iff p (Classical.propDecidable p)
theorem xR {p:Prop} (h:p):dc p=true:=eX.2 h
theorem xS {p:Prop} (h:¬ p):dc p=false:=Bool.eq_false_iff.2 fun e=>h (eX.1 e)
theorem lU {p q:Prop} (h:p↔q):dc p=dc q:=by rw [propext h]
theorem pJ {p:Prop} [Decidable p]:dc p=decide p:=by
 by_cases h:p
 ·rw [xR h,decide_eq_true h]
 ·rw [xS h,decide_eq_false h]
noncomputable def mkP (n:Nat) (p:Nat→Prop):Nat:=msk ((List.range n).filter fun x=>dc (p x))
theorem jr {n x:Nat} {p:Nat→Prop}:(mkP n p).testBit x=(decide (x<n)&&dc (p x)):=by
 rw [mkP,o7]
 simp only [List.mem_filter,List.mem_range]
 by_cases h:x<n <;> cases hd:dc (p x) <;> simp [h]
theorem pu {n:Nat} {p:Nat→Prop} (hn:n≤64):mkP n p<18446744073709551616:=mE fun x hx=>by
 have:=List.mem_range.1 (List.mem_filter.1 hx).1
 omega
theorem kA {a b:Nat} (h:∀ i,a.testBit i=b.testBit i):a=b:=Nat.eq_of_testBit_eq h
theorem nS {a b:Nat} (h:∀ i,a.testBit i=true→b.testBit i=true):a≤b:=by
 have e:a &&& b=a:=kA fun i=>by
  rw [Nat.testBit_and]
  cases ha:a.testBit i
  ·rfl
  ·rw [h i ha];rfl
 rw [← e];exact Nat.and_le_right
section
variable (G:Nat→List Nat) (ord:List Nat) (all:Nat)
def fE (D:Nat→Nat) (b:Nat):List Nat→Nat→Nat
 | [],m=>m
 | a::r,m=>fE D b r ((G a).foldl (fun m c=>if c=b then m &&& D a else m) m)
theorem rB (D:Nat→Nat) (b a i:Nat):∀ (l:List Nat) (m:Nat),(l.foldl (fun m c=>if c=b then m &&& D a else m) m).testBit i=(m.testBit i&&(!decide (b∈l)||(D a).testBit i))
 | [],m=>by simp
 | c::l,m=>by
  rw [List.foldl_cons,rB D b a i l]
  by_cases h:c=b
  ·subst h
   rw [if_pos rfl,Nat.testBit_and]
   cases m.testBit i <;> cases (D a).testBit i <;> simp
  ·have h':¬ b=c:=fun e=>h e.symm
   rw [if_neg h]
   simp [h']
theorem rq (D:Nat→Nat) (b i:Nat):∀ (l:List Nat) (m:Nat),(fE G D b l m).testBit i=true↔m.testBit i=true∧∀ a∈l,b∈G a→(D a).testBit i=true
 | [],m=>by simp [fE]
 | a::r,m=>by
  rw [fE,rq D b i r,rB]
  simp only [EF,Bool.or_eq_true,Bool.not_eq_true',decide_eq_false_iff_not,List.mem_cons,forall_eq_or_imp]
  constructor
  ·rintro ⟨⟨h1,h2⟩,h3⟩
   exact ⟨h1,fun hb=>h2.resolve_left fun hn=>hn hb,h3⟩
  ·rintro ⟨h1,h2,h3⟩
   refine ⟨⟨h1,?_⟩,h3⟩
   by_cases hb:b∈G a
   ·exact .inr (h2 hb)
   ·exact .inl hb
end
section
variable {G:Nat→List Nat}
structure DI (G:Nat→List Nat) (D:Nat→Nat):Prop where
 lt:∀ b,D b<18446744073709551616
 zero:D 0=1
 un:∀ b,¬ Rch G b→D b=0
 rch:∀ b i,(D b).testBit i=true→Rch G i
 up:∀ a b,Dm G a b→(D b).testBit a=true
 post:∀ b i,b≠0→Rch G b→i≠b→Rch G i→(∀ u,Rch G u→b∈G u→(D u).testBit i=true)→(D b).testBit i=true
theorem o0 (i:Nat):(1:Nat).testBit i=decide (i=0):=by
 have:=Nat.testBit_two_pow (n:=0) (m:=i)
 simp only [Nat.pow_zero] at this
 rw [this]
 by_cases h:i=0
 ·subst h;rfl
 ·rw [decide_eq_false h,decide_eq_false fun e=>h e.symm]
theorem DI.rb {D:Nat→Nat} (d:DI G D) {b i:Nat} (h:(D b).testBit i=true):Rch G b:=Classical.byContradiction fun hn=>by
 rw [d.un b hn] at h;simp at h
theorem DI.first {all:Nat} (hall:∀ i,all.testBit i=true↔Rch G i) (hlt:all<18446744073709551616) {D:Nat→Nat} (h0:D 0=1) (hr:∀ b,b≠0→Rch G b→D b=all) (hu:∀ b,¬ Rch G b→D b=0):DI G D:=by
 refine ⟨fun b=>?_,h0,hu,fun b i h=>?_,fun a b h=>?_,fun b i hb hbr hne hir _=>by rw [hr b hb hbr];exact (hall i).2 hir⟩
 ·by_cases e:b=0
  ·subst e;omega
  ·by_cases h:Rch G b
   ·rw [hr b e h];exact hlt
   ·rw [hu b h];omega
 ·by_cases e:b=0
  ·subst e
   rw [h0,o0] at h
   have:i=0:=of_decide_eq_true h
   subst this;exact .zero
  ·by_cases hb:Rch G b
   ·rw [hr b e hb] at h;exact (hall i).1 h
   ·rw [hu b hb] at h;simp at h
 ·by_cases e:b=0
  ·subst e
   have:=h.of_zero
   subst this
   rw [h0,o0];rfl
  ·rw [hr b e h.2.1];exact (hall a).2 h.1
def mB (G:Nat→List Nat) (ord:List Nat) (all:Nat) (D:Nat→Nat) (b:Nat):Nat:=fE G D b ord all ||| 2 ^ b
variable {ord:List Nat} {all:Nat}
theorem mA (hall:∀ i,all.testBit i=true↔Rch G i) (hord:∀ x,x∈ord↔Rch G x) (D:Nat→Nat) (b i:Nat):(mB G ord all D b).testBit i=true↔i=b∨(Rch G i∧∀ u,Rch G u→b∈G u→(D u).testBit i=true):=by
 rw [mB,Nat.testBit_or,Bool.or_eq_true,rq,hall,Nat.testBit_two_pow,decide_eq_true_eq]
 constructor
 ·rintro (⟨h1,h2⟩|h)
  ·exact .inr ⟨h1,fun u hu hb=>h2 u ((hord u).2 hu) hb⟩
  ·exact .inl h.symm
 ·rintro (h|⟨h1,h2⟩)
  ·exact .inr h.symm
  ·exact .inl ⟨h1,fun a ha hb=>h2 a ((hord a).1 ha) hb⟩
theorem DI.new_le {D:Nat→Nat} (d:DI G D) (hall:∀ i,all.testBit i=true↔Rch G i) (hord:∀ x,x∈ord↔Rch G x) {b:Nat} (hb:Rch G b) (h0:b≠0) (i:Nat) (h:(mB G ord all D b).testBit i=true):(D b).testBit i=true:=by
 rcases (mA hall hord D b i).1 h with e|⟨h1,h2⟩
 ·subst e;exact d.up _ _ (Dm.refl hb)
 ·by_cases e:i=b
  ·subst e;exact d.up _ _ (Dm.refl hb)
  ·exact d.post b i h0 hb e h1 h2
theorem DI.upd {D D':Nat→Nat} (d:DI G D) (hall:∀ i,all.testBit i=true↔Rch G i) (hord:∀ x,x∈ord↔Rch G x) {b:Nat} (hb:Rch G b) (h0:b≠0) (hn:D' b=mB G ord all D b) (he:∀ c,c≠b→D' c=D c):DI G D':=by
 have hle:∀ c i,(D' c).testBit i=true→(D c).testBit i=true:=fun c i h=>by
  by_cases e:c=b
  ·subst e;rw [hn] at h;exact d.new_le hall hord hb h0 i h
  ·rw [he c e] at h;exact h
 refine ⟨fun c=>Nat.lt_of_le_of_lt (nS (hle c)) (d.lt c),by rw [he 0 (fun e=>h0 e.symm)];exact d.zero,fun c hc=>?_,fun c i h=>d.rch c i (hle c i h),fun a c h=>?_,fun c i hc0 hcr hne hir hu=>?_⟩
 ·rw [he c (fun e=>by subst e;exact hc hb)];exact d.un c hc
 ·by_cases e:c=b
  ·subst e
   rw [hn,mA hall hord]
   by_cases ea:a=c
   ·exact .inl ea
   ·exact .inr ⟨h.1,fun u hu hcu=>d.up a u (h.pred ea hu hcu)⟩
  ·rw [he c e];exact d.up a c h
 ·by_cases e:c=b
  ·subst e
   rw [hn,mA hall hord]
   exact .inr ⟨hir,fun u h1 h2=>hle u i (hu u h1 h2)⟩
  ·rw [he c e];exact d.post c i hc0 hcr hne hir fun u h1 h2=>hle u i (hu u h1 h2)
theorem DI.fix {D:Nat→Nat} (d:DI G D) (hall:∀ i,all.testBit i=true↔Rch G i) (hord:∀ x,x∈ord↔Rch G x) (hf:∀ b,b≠0→Rch G b→mB G ord all D b=D b) (b x:Nat):(D b).testBit x=true↔Dm G x b:=by
 refine Ac (F:=fun b x=>(D b).testBit x=true) (fun x h=>?_) (fun b x h=>⟨d.rb h,d.rch b x h⟩) d.up (fun b x h0 h=>?_) b x
 ·rw [d.zero,o0] at h;exact of_decide_eq_true h
 ·rw [← hf b h0 (d.rb h)] at h
  rcases (mA hall hord D b x).1 h with e|⟨_,h2⟩
  ·exact .inl e
  ·exact .inr h2
theorem q6:∀ (D:List Nat) (b v:Nat),b<D.length→(D.set b v).sum+D.getD b 0=D.sum+v
 | [],_,_,h=>by simp at h
 | a::r,0,v,_=>by simp [List.getD_cons_zero];omega
 | a::r,b+1,v,h=>by
  have:=q6 r b v (by simpa using h)
  simp only [List.set_cons_succ,List.sum_cons,List.getD_cons_succ];omega
theorem fG (D:List Nat) (b v c:Nat) (h:b<D.length):(D.set b v).getD c 0=if c=b then v else D.getD c 0:=by
 by_cases e:c=b
 ·subst e;rw [if_pos rfl];simp [List.getD_eq_getElem?_getD,h]
 ·rw [if_neg e];simp only [List.getD_eq_getElem?_getD,List.getElem?_set_ne (fun h=>e h.symm)]
noncomputable def mJ (G:Nat→List Nat) (n:Nat):List Nat:=(List.range n).map fun b=>mkP n fun a=>Dm G a b
theorem kB (G:Nat→List Nat) (n:Nat):(mJ G n).length=n:=by simp [mJ]
theorem mI {n b:Nat} (h:b<n):(mJ G n)[b]?=some (mkP n fun a=>Dm G a b):=by simp [mJ,h]
theorem xO {n:Nat} {D:List Nat} (hl:D.length=n) (hG:∀ x,Rch G x→x<n) (d:DI G fun b=>D.getD b 0) (hall:∀ i,all.testBit i=true↔Rch G i) (hord:∀ x,x∈ord↔Rch G x)
  (hf:∀ b,b≠0→Rch G b→mB G ord all (fun b=>D.getD b 0) b=D.getD b 0):D=mJ G n:=by
 apply List.ext_getElem?
 intro b
 by_cases hb:b<n
 ·rw [mI hb,DN (by omega)]
  congr 1
  apply kA
  intro i
  have:=d.fix hall hord hf b i
  rw [List.getD_eq_getElem?_getD,DN (by omega),Option.getD_some] at this
  rw [jr,Bool.eq_iff_iff,this,EF,decide_eq_true_eq,eX]
  exact ⟨fun h=>⟨hG i h.1,h⟩,fun h=>h.2⟩
 ·rw [List.getElem?_eq_none (by omega),List.getElem?_eq_none (by rw [kB];omega)]
end
def dK (x:Nat):AV:=.int .u64 x
theorem ny (D:List Nat):(D.map iM).flatten=D.map dK:=by
 induction D with
 | nil=>rfl
 | cons a r ih=>simp only [List.map_cons,En,iM,ih];rfl
theorem nz (D:List Nat):∀ z∈D.map iM,z.length=1:=fun z hz=>by
 obtain ⟨r,_,rfl⟩:=DZ.1 hz;rfl
theorem rx {h:Heap} {b:Nat} {D:List Nat} (hb:aA h b=some (.cells (D.map dK))):Ice h (.os b 0 78 1 D.length) (.lst 1 (D.map iM)):=by
 refine .os (es:=D.map iM) (by rw [ny];exact hb) (nz D) (by simp) rfl fun i x y h1 h2=>?_
 rw [h1] at h2
 cases h2
 refine .same fun z hz=>?_
 obtain ⟨r,_,rfl⟩:=DZ.1 (DO h1)
 simp only [iM,List.mem_singleton] at hz
 subst hz;rfl
theorem w58 (a b:List Nat) (ha:a.length≤4000000):Pure Tryz.prog 58 [.lst 1 (a.map iM),.lst 1 (b.map iM)] (.bool (decide (a=b))):=by
 have:=w8 (ks:=[.int]) aI is58 iM a b (fun _=>rfl) (by omega) (fun x y=>decide (x=y)) (fun x y=>by
  have:(((x:Nat):Int)=(y:Int))↔x=y:=by omega
  simp [eqL,iM,eqC,this])
 rwa [show ev (fun x y=>decide (x=y)) a b=decide (a=b) by rw [Bool.eq_iff_iff,oe (by simp),decide_eq_true_eq]] at this
theorem w58o {h:Heap} {nx b1 b2:Nat} {D1 D2:List Nat} (h1:aA h b1=some (.cells (D1.map dK))) (h2:aA h b2=some (.cells (D2.map dK))) (hl:D1.length≤4000000) :
  AC Tryz.prog 58 [.os b1 0 78 1 D1.length,.os b2 0 78 1 D2.length] h nx fun y h' n'=>y=.ret (.bool (decide (D1=D2)))∧h'=h∧nx≤n' :=
 AC.ro (w58 D1 D2 hl) ⟨rx h1,rx h2,trivial⟩ rfl
theorem w56 {h:Heap} {nx b:Nat} {D:List Nat} (hb:aA h b=some (.cells (D.map dK))) (hlt:b<nx) (h0:D.length≠0) (hl:D.length≤4000000) :
  AC Tryz.prog 56 [.os b 0 78 1 D.length] h nx fun y h' n'=>∃ c,y=.ret (.os c 0 78 1 D.length)∧nx≤c∧c<n'∧aA h' c=some (.cells (D.map dK))∧∀ k o,k<nx→aA h k=some o→aA h' k=some o:=by
 refine AC.go aI is56 (by simp) ?_
 have sc:bQ ((nx,.cells [])::h) (.os b 0 78 1 D.length)=some (D.length,D.map dK):=by
  have:(nx=b)=False:=eq_false (by omega)
  have h2:(D.map dK).take D.length=D.map dK:=DQ (by simp)
  simp [bQ,aA,this,hb,h2]
 have ap:gk 78 1 8 ((nx,.cells [])::h) (nx+1) (.os nx 0 78 1 0) (.os b 0 78 1 D.length)=some (.os (nx+1) 0 78 1 D.length,(nx+1,.cells (D.map dK))::bN ((nx,.cells [])::h) nx,nx+1+1):=by
  unfold gk
  rw [sc]
  have h1:D.length*8≤140737488355328:=by omega
  have h2:D.length≤maxLen:=by simp only [maxLen];omega
  simp [iR,aA,h0,h1,h2]
 simp -implicitDefEqProofs only [RA,ae,zp,↓reduceIte,reduceCtorEq,zq,zr,zs,zt,↓ay,↓az,↓ar,↓aq,↓aw,↓au,↓ak,↓aj,↓aC,↓aB,↓aE,↓aD,unA,ne_eq,not_true_eq_false,not_false_eq_true,A56,CT,ap,po,List.flatten_nil,R56]
 refine ⟨nx+1,rfl,by omega,by omega,by rw [if_pos rfl],fun k o h1 h2=>?_⟩
 rw [if_neg (by omega),bP,if_neg (by omega)];exact h2
theorem mG (b d:Nat):∀ (l:List Nat) (m:Nat),l.foldl (fun m c=>if c=b then m &&& d else m) m≤m
 | [],m=>EQ _
 | c::l,m=>by
  rw [List.foldl_cons]
  refine Nat.le_trans (mG b d l _) ?_
  split
  ·exact Nat.and_le_left
  ·exact EQ _
theorem nR (n:Nat):(1≤n+1)=True:=eq_true (by omega)
theorem uT {P:Pi} {g:Fn} (G:GdF P g) {cO bo cB cM ca c1 c2 a b m da:Nat} {D:List Nat} {blk:Bk} {st:ASt} {Q:AX→ASt→Prop} (hblk:g.blocks[a]?=some blk)
  (g4:ai st.env 4=some (.op cO 0)) (g13:ai st.env 13=some (.op cB 0)) (g14:ai st.env 14=some (.op cM 0)) (g16:ai st.env 16=some (.op ca 0)) (g68:ai st.env 68=some (.fn (.func 46) [.op c1 0,.op c2 0]))
  (gO:aA st.heap cO=some (.cells [.os bo 0 78 1 D.length])) (gb:aA st.heap bo=some (.cells (D.map dK))) (gB:aA st.heap cB=some (.cells [.int .i64 b])) (ga:aA st.heap ca=some (.cells [.int .i64 a])) (gM:aA st.heap cM=some (.cells [.int .u64 m]))
  (gc1:aA st.heap c1=some (.cells (fnE g))) (gc2:aA st.heap c2=some (.cells [.int .i64 a])) (l:cO<st.nx∧bo<st.nx∧cB<st.nx∧cM<st.nx∧ca<st.nx∧c1<st.nx∧c2<st.nx)
  (d:cM≠cO∧cM≠bo∧cM≠cB∧cM≠ca∧cM≠c1∧cM≠c2) (hm:m<18446744073709551616) (hDa:D[a]?=some da) (hda:da<18446744073709551616)
  (hQ:∀ h' n',st.nx+2≤n'→(∀ k o,k<st.nx→k≠cM→aA st.heap k=some o→aA h' k=some o)→aA h' st.nx=some .dfd→aA h' cM=some (.cells [.int .u64 ((nbG g a).foldl (fun m c=>if c=b then m &&& da else m) m:Nat)])→Q .normal { st with heap:=h',nx:=n',dm:=st.nx::st.dm }) :
  AW Tryz.prog (fun _ _=>false) none 91 (.rangeF (.tmp 68) #[69] wp si) Q st:=by
 obtain ⟨l1,l2,l3,l4,l5,l6,l7⟩:=l
 obtain ⟨d1,d2,d3,d4,d5,d6⟩:=d
 refine mT hblk (by have:=G.to2 blk (DO hblk);omega) (c1:=c1) (c2:=c2) g68 (by decide)
  (fun pre h2 n2=>aA h2 cM=some (.cells [.int .u64 ((pre.map Int.toNat).foldl (fun m c=>if c=b then m &&& da else m) m:Nat)])∧st.nx+2≤n2∧∀ k o,k<st.nx→k≠cM→aA st.heap k=some o→aA h2 k=some o)
  (fun x=>(17,.int .i64 x)::(69,.int .i64 x)::st.env) ?_ ?_ ?_ ?_ ?_ ?_ ?_
 ·rintro pre h2 n2 n3 ⟨a1,a2,a3⟩ hn
  exact ⟨a1,by omega,a3⟩
 ·rintro pre h2 h3 n2 ⟨a1,a2,a3⟩ hk
  exact ⟨by rw [hk _ (by omega)];exact a1,a2,fun k o e1 e2 e3=>by rw [hk _ (by omega)];exact a3 k o e1 e2 e3⟩
 ·rintro pre h2 n2 ⟨a1,a2,a3⟩
  exact ⟨a3 _ _ l6 (fun e=>d5 e.symm) gc1,a3 _ _ l7 (fun e=>d6 e.symm) gc2⟩
 ·intro L
  refine ⟨by rw [af,if_neg (by omega),af,if_neg (by omega)];exact gM,EQ _,fun k o e1 e2 e3=>by rw [af,if_neg (by omega),af,if_neg (by omega)];exact e3⟩
 ·intro x h2 n2 l
  refine dT aI ?_
  simp -implicitDefEqProofs only [RA,ae,zp,↓reduceIte,reduceCtorEq,zq,zr,zs,zt,↓ay,↓az,↓ar,↓aq,↓aw,↓au,↓ak,↓aj,↓aC,↓aB,↓aE,↓aD,unA,ne_eq,not_true_eq_false,not_false_eq_true,wp,wo]
 ·rintro pre x suf h2 n2 l hsp hn ⟨a1,a2,a3⟩
  have hxr:=jy G hblk (c:=x) (by rw [hsp];simp)
  obtain ⟨c,rfl⟩:∃ c:Nat,x=(c:Int):=⟨x.toNat,by omega⟩
  have hf:((pre++[(c:Int)]).map Int.toNat).foldl (fun m c=>if c=b then m &&& da else m) m=if c=b then (pre.map Int.toNat).foldl (fun m c=>if c=b then m &&& da else m) m &&& da else (pre.map Int.toNat).foldl (fun m c=>if c=b then m &&& da else m) m:=by
   rw [List.map_append,List.foldl_append];rfl
  have hfl:=mG b da (pre.map Int.toNat) m
  generalize (pre.map Int.toNat).foldl (fun m c=>if c=b then m &&& da else m) m=q at a1 hf hfl
  rw [hf]
  have bB:=a3 _ _ l3 (fun e=>d3 e.symm) gB
  have bO:=a3 _ _ l1 (fun e=>d1 e.symm) gO
  have bb:=a3 _ _ l2 (fun e=>d2 e.symm) gb
  have ba:=a3 _ _ l5 (fun e=>d4 e.symm) ga
  refine dT aI ?_
  rcases ah ((c:Int)=(b:Int)) with ⟨k1,j1⟩|⟨k1,j1⟩
  ·have hlt:=(List.getElem?_eq_some_iff.1 hDa).1
   have ic:=eP (b:=bo) (e:=78) (n:=D.length) (i:=a) hlt
   have hdr:=kr (f:=dK) hDa
   have w:=w57 q da (by omega) hda
   rw [if_pos (by omega)]
   simp -implicitDefEqProofs only [RA,ae,zp,↓reduceIte,reduceCtorEq,zq,zr,zs,zt,↓ay,↓az,↓ar,↓aq,↓aw,↓au,↓ak,↓aj,↓aC,↓aB,↓aE,↓aD,unA,ne_eq,not_true_eq_false,not_false_eq_true,si,qx,g4,g13,g14,g16,bB,bO,bb,ba,a1,j1,ic,hdr,dK,nR]
   refine w.use fun n3 hn3=>?_
   simp -implicitDefEqProofs only [RA,ae,zp,↓reduceIte,reduceCtorEq,zq,zr,zs,zt,↓ay,↓az,↓ar,↓aq,↓aw,↓au,↓ak,↓aj,↓aC,↓aB,↓aE,↓aD,unA,ne_eq,not_true_eq_false,not_false_eq_true,g4,g13,g14,g16,bB,bO,bb,ba,a1,j1,ic,hdr,dK,nR]
   refine ⟨by omega,fun k o e1 e2=>by rw [if_neg (by omega)];exact e2,by omega,fun k o e1 e2 e3=>?_⟩
   rw [if_neg (fun e=>e2 e.symm)];exact a3 k o e1 e2 e3
  ·rw [if_neg (by omega)]
   simp -implicitDefEqProofs only [RA,ae,zp,↓reduceIte,reduceCtorEq,zq,zr,zs,zt,↓ay,↓az,↓ar,↓aq,↓aw,↓au,↓ak,↓aj,↓aC,↓aB,↓aE,↓aD,unA,ne_eq,not_true_eq_false,not_false_eq_true,si,qx,g4,g13,g14,g16,bB,bO,bb,ba,a1,j1]
   exact ⟨by omega,fun k o _ e=>e,by omega,a3⟩
 ·rintro h2 n2 hn hd ⟨a1,a2,a3⟩
  rw [← iY hblk] at a1
  exact hQ h2 n2 hn a3 hd a1
end Go.Proofs.YtkhjclmfbmfahaaGreatDoor
