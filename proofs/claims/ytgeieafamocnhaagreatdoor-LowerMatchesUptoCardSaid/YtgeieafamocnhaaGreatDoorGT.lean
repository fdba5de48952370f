/- Blocks, frozen. -/
import Derived.Test.YtgeieafamocnhaaGreatDoorGS
namespace Go.Proofs.YtgeieafamocnhaaGreatDoor
open List renaming getElem?_eq_getElem → G7, mem_of_getElem? → G8, getElem?_eq_some_iff → G9, take_of_length_le → Ha, drop_of_length_le → Hb, length_cons → Hc, length_nil → Hd, length_map → He, length_take → Hf, map_append → Hk, set_cons_succ → HG, set_cons_zero → HH
open Nat renaming le_refl → H4, lt_of_lt_of_le → H5
open Int renaming reduceEq → Ie, toNat_natCast → If, reduceNeg → Ig
set_option maxHeartbeats 64000000
open Go Go.Ab Go.Proofs
open Nat renaming reduceEqDiff → zp, reduceAdd → zq, reduceLeDiff → zr, reduceLT → zs, reduceBEq → zt
set_option linter.unusedVariables false
set_option linter.unusedSimpArgs false
set_option maxRecDepth 20000
def qR (h:Heap) (es:List (List AV)) (h':Heap) (fs:List (List AV)):Prop:=es.length=fs.length∧(∀ (i:Nat) x,fs[i]?=some x→∀ y∈x,y.one=true) ∧
 ∀ (w0:World) (K:Wd) (nx:Nat) (c:Nat→Nat→Value),Ab.Good w0 K h nx→(∀ (i:Nat) x,es[i]?=some x→∀ (j:Nat) y,x[j]?=some y→VR K nx y (c i j))→∃ K',K'.w=K.w∧Ext K nx K' nx∧Ab.Good w0 K' h' nx∧∀ (i:Nat) x,fs[i]?=some x→∀ (j:Nat) y,x[j]?=some y→VR K' nx y (c i j)
theorem qR.nil (h:Heap):qR h [] h []:=⟨rfl,fun i x hx=>by simp at hx,fun w0 K nx c g hc=>⟨K,rfl,Ext.refl _ _,g,fun i x hx=>by simp at hx⟩⟩
theorem qR.cons {h h1 h2:Heap} {x x':List AV} {r r':List (List AV)} (hf:jM h x h1 x') (hr:qR h1 r h2 r'):qR h (x::r) h2 (x'::r'):=by
 obtain ⟨a1,a2,a3⟩:=hf
 obtain ⟨b1,b2,b3⟩:=hr
 refine ⟨by simp [b1],fun i y hy=>?_,fun w0 K nx c g hc=>?_⟩
 ·cases i with
  | zero=>simp at hy;subst hy;exact a2
  | succ i=>exact b2 i y (by simpa using hy)
 ·obtain ⟨K1,c1,c2,c3,c4⟩:=a3 w0 K nx (c 0) g (hc 0 x rfl)
  obtain ⟨K2,d1,d2,d3,d4⟩:=b3 w0 K1 nx (fun i=>c (i+1)) c3 fun i y hy j z hz=>(hc (i+1) y (by simpa using hy) j z hz).mono c2
  refine ⟨K2,d1.trans c1,c2.trans d2,d3,fun i y hy j z hz=>?_⟩
  cases i with
  | zero=>simp at hy;subst hy;exact (c4 j z hz).mono d2
  | succ i=>exact d4 i y (by simpa using hy) j z hz
theorem Frz.lstL {h h':Heap} {sz:Nat} {es fs:List (List AV)} (hs:∀ x∈fs,x.length=sz) (hf:qR h es h' fs):Frz h (.lst sz es) h' (.lst sz fs):=fun w0 K nx v g hv=>by
 obtain ⟨a1,a2,a3⟩:=hf
 cases hv with
 | lst0 _ _ A n cap h0 hn hA =>
  subst h0
  obtain rfl:fs=[]:=by simpa using a1.symm
  obtain ⟨K',c1,c2,c3,_⟩:=a3 w0 K nx (fun _ _=>undef) g fun i x hx=>by simp at hx
  exact ⟨K',c1,c2,c3,.lst0 _ _ A n cap rfl hn hA⟩
 | lst _ _ a n cap c hn hc hcap hsz h1 hr hh =>
  obtain ⟨K',c1,c2,c3,c4⟩:=a3 w0 K nx (fun i j=>c (i*sz+j)) g fun i x hx j y hy=>hh i x hx j y hy
  exact ⟨K',c1,c2,c3,.lst _ _ a n cap c (by rw [hn,a1]) hc hcap (fun i x hx=>hs x (G8 hx)) (fun i x hx j y hy=>a2 i x hx y (G8 hy)) (fun k hk=>c2.iced (hr k hk)) fun i x hx j y hy=>c4 i x hx j y hy⟩
theorem zT (l:List Bk):∀ z∈l.map bkE,z.length=5:=fun z hz=>by
 obtain ⟨r,_,rfl⟩:=List.mem_map.1 hz;rfl
theorem tM {nx:Nat}:∀ (cs:List (List AV)) (bs:List Bk) (h:Heap),cs.length=bs.length→(∀ (i:Nat) c b,cs[i]?=some c→bs[i]?=some b→BkC h nx c b)→(∀ (i j:Nat) c d,i≠j→cs[i]?=some c→cs[j]?=some d→apart (hdv c) (hdv d))→∃ h',qR h cs h' (bs.map bkE)
 | [],[],h,_,_,_=>⟨h,.nil h⟩
 | [],_::_,h,hl,_,_=>by simp at hl
 | _::_,[],h,hl,_,_=>by simp at hl
 | c::cs,b::bs,h,hl,hc,ha=>by
  obtain ⟨sv,tv,ov,rfl,ho,ht,hv⟩:=hc 0 c b rfl rfl
  obtain ⟨h1,fz,hk⟩:=ho.frz2 (tk _)
  have ft:Frz h1 tv h1 (cg b.terms):=by
   rcases ht with rfl|⟨rfl,e⟩
   ·exact .refl _ _
   ·rw [e];exact .nilS _ 6
  have fo:Frz h1 ov h1 (cP b.to):=by
   rcases hv with rfl|⟨rfl,e⟩
   ·exact .refl _ _
   ·rw [e];exact .nilS _ 1
  obtain ⟨h2,hr⟩:=tM cs bs h1 (by simpa using hl) (fun i d b' hd hb=>by
   obtain ⟨s2,t2,o2,rfl,ho2,r⟩:=hc (i+1) d b' (by simpa using hd) (by simpa using hb)
   refine ⟨s2,t2,o2,rfl,ho2.keep (H4 _) fun k a hk2 hg=>hk k a hg fun y e=>?_,r⟩
   exact ha (i+1) 0 [s2,.int .u8 b'.kind,.str b'.func,t2,o2] _ (by omega) (by simpa using hd) rfl k hk2 (by show aw sv=some k;rw [e];rfl)) fun i j d e hij hd he=>ha (i+1) (j+1) d e (by omega) (by simpa using hd) (by simpa using he)
  exact ⟨h2,.cons (.cons fz rfl (.keep rfl (.keep rfl (.cons ft rfl (.cons fo rfl (.nil _)))))) hr⟩
theorem ej.frz {h:Heap} {nx:Nat} {v:AV} {cs:List (List AV)} {bs:List Bk} (B:ej h nx v cs bs):∃ h',Frz h v h' (.lst 5 (bs.map bkE)):=by
 obtain ⟨h1,f1,k1⟩:=B.own.frz2 B.all
 obtain ⟨h2,f2⟩:=tM cs bs h1 B.len (fun i c b hc hb=>by
  obtain ⟨sv,tv,ov,rfl,ho,r⟩:=B.at_ i c b hc hb
  exact ⟨sv,tv,ov,rfl,ho.keep (H4 _) fun k a hk hg=>k1 k a hg fun y e=>B.av i _ hc k hk (by rw [e];rfl),r⟩) B.ap
 exact ⟨h2,f1.trans (Frz.lstL (zT _) f2)⟩
theorem oJ (c m i:Nat) (F:FuncId) (hi:i<9) (hF:(kM c)[i]?=some (.int .u8 ((i:Int)+1),.bm (.func F) [.op c 0] [])) (h:Heap) :
  dV ((m,.map ((kM c).take i) (List.range i) i)::h) .int (.mp m) (.int .u8 ((i:Int)+1)) (.bm (.func F) [.op c 0] [])=some ((m,.map ((kM c).take (i+1)) (List.range (i+1)) (i+1))::(m,.map ((kM c).take i) (List.range i) i)::h):=by
 match i,hi with
 | 0,_=>simp [kM] at hF;subst hF;simp [dV,af,bO,eI,dk,kM,eqC,List.range,List.range.loop]
 | 1,_=>simp [kM] at hF;subst hF;simp [dV,af,bO,eI,dk,kM,eqC,List.range,List.range.loop]
 | 2,_=>simp [kM] at hF;subst hF;simp [dV,af,bO,eI,dk,kM,eqC,List.range,List.range.loop]
 | 3,_=>simp [kM] at hF;subst hF;simp [dV,af,bO,eI,dk,kM,eqC,List.range,List.range.loop]
 | 4,_=>simp [kM] at hF;subst hF;simp [dV,af,bO,eI,dk,kM,eqC,List.range,List.range.loop]
 | 5,_=>simp [kM] at hF;subst hF;simp [dV,af,bO,eI,dk,kM,eqC,List.range,List.range.loop]
 | 6,_=>simp [kM] at hF;subst hF;simp [dV,af,bO,eI,dk,kM,eqC,List.range,List.range.loop]
 | 7,_=>simp [kM] at hF;subst hF;simp [dV,af,bO,eI,dk,kM,eqC,List.range,List.range.loop]
 | 8,_=>simp [kM] at hF;subst hF;simp [dV,af,bO,eI,dk,kM,eqC,List.range,List.range.loop]
structure kR (h:Heap) (nx q:Nat) (pv lo:AV) (es fs:List Pm):Prop where
 op:aF 101 2 h nx pv (es.map pmE)
 ol:aF 101 2 h nx lo (fs.map pmE)
 bp:∀ b,aw pv=some b→q<b
 bl:∀ b,aw lo=some b→q<b
 ap:apart pv lo
theorem dX (l:List Pm):∀ z∈l.map pmE,z.length=2:=fun z hz=>by
 obtain ⟨r,_,rfl⟩:=List.mem_map.1 hz;rfl
section
variable {h h':Heap} {nx n' q:Nat} {pv lo:AV} {es fs:List Pm}
theorem kR.swap (o:kR h nx q pv lo es fs):kR h nx q lo pv fs es:=⟨o.ol,o.op,o.bl,o.bp,o.ap.symm⟩
theorem kR.keep (o:kR h nx q pv lo es fs) (hle:nx≤n') (hk:∀ k a,k<nx→q<k→af h k=some a→af h' k=some a):kR h' n' q pv lo es fs :=
 ⟨o.op.keep hle fun k a hb hg=>hk k a (o.op.blk hb).2.2 (o.bp k hb) hg,o.ol.keep hle fun k a hb hg=>hk k a (o.ol.blk hb).2.2 (o.bl k hb) hg,o.bp,o.bl,o.ap⟩
theorem kR.add (o:kR h nx q pv lo es fs) (hN:nx≤n') (hq:q<nx) (hk:∀ k a,k<nx→af h k=some a→af h' k=some a) (hl:es.length≤1000000) (r:Pm):∃ v2 h2 n2,eC 101 2 24 h' n' pv (.lst 2 [pmE r])=some (v2,h2,n2)∧cellsOf v2=[v2]∧v2.plain=true ∧
  (∀ X,kR ((q,X)::h2) n2 q v2 lo (es++[r]) fs)∧n'≤n2∧∀ k a,k≤q→af h k=some a→af h2 k=some a:=by
 have ho:aF 101 2 h' n' pv (es.map pmE):=o.op.keep hN fun k a hb hg=>hk k a (o.op.blk hb).2.2 hg
 obtain ⟨v2,h2,n2,ea,ow,hn,hk3,hb3⟩:=ho.grw (bytes:=24) (ns:=[pmE r]) (dX _) (by simp [pmE]) (by simp only [He,Hc,Hd];omega) (by simp only [He,Hc,Hd,maxLen];omega)
 have hb4:∀ b,aw v2=some b→q<b:=fun b hb=>by
  rcases hb3 b hb with h1|h1
  ·omega
  ·exact o.bp b h1
 refine ⟨v2,h2,n2,ea,(bE ow).1,(bE ow).2,fun X=>⟨?_,?_,hb4,o.bl,fun k h1 h3=>?_⟩,hn,fun k a h1 h3=>hk3 k a (by omega) (hk k a (by omega) h3) fun e=>by have:=o.bp k e;omega⟩
 ·rw [Hk]
  exact ow.keep (H4 _) fun k a hb hg=>by
   have:=hb4 k hb
   rw [ai,if_neg (by omega)];exact hg
 ·exact o.ol.keep (by omega) fun k a hb hg=>by
   have:=o.bl k hb
   rw [ai,if_neg (by omega)]
   exact hk3 k a (by have:=(o.ol.blk hb).2.2;omega) (hk k a (o.ol.blk hb).2.2 hg) fun e=>o.ap k e hb
 ·rcases hb3 k h1 with h4|h4
  ·have:=(o.ol.blk h3).2.2;omega
  ·exact o.ap k h4 h3
end
theorem Au {K:List Pm} {i P:Nat} {r:Pm} (hr:K[i]?=some r) (hi:i<P):(K.take (i+1)).take P=(K.take i).take P++[r]∧(K.take (i+1)).drop P=(K.take i).drop P:=by
 have hl:=(G9.1 hr).1
 have h1:(K.take i).length≤i:=by rw [Hf];omega
 have h2:(K.take (i+1)).length≤i+1:=by rw [Hf];omega
 have e1:(K.take i).take P=K.take i:=Ha (by omega)
 have e2:(K.take (i+1)).take P=K.take (i+1):=Ha (by omega)
 have e3:(K.take i).drop P=[]:=Hb (by omega)
 have e4:(K.take (i+1)).drop P=[]:=Hb (by omega)
 exact ⟨by rw [e2,e1,az hr],by rw [e3,e4]⟩
theorem Av {K:List Pm} {i P:Nat} {r:Pm} (hr:K[i]?=some r) (hi:¬ i<P):(K.take (i+1)).take P=(K.take i).take P∧(K.take (i+1)).drop P=(K.take i).drop P++[r]:=by
 have hl:=(G9.1 hr).1
 have h1:(K.take i).length=i:=by rw [Hf];omega
 rw [az hr]
 exact ⟨List.take_append_of_le_length (by omega),List.drop_append_of_le_length (by omega)⟩
mutual
theorem Cb:∀ x:Sm,nst x≤szS x
 | .mk _ n f _ l b e=>by have:=ic b;have:=ic e;simp only [nst,szS];omega
theorem ic:∀ l:List Sm,dr l≤bS l
 | []=>by simp [dr]
 | x::r=>by have:=Cb x;have:=ic r;simp only [dr,bS];omega
end
def gE (p:Pr) (g:Fu):WSt:=slG p (fnW p g).2 (-1) g.body (opB 0 (mkB ([],0)))
def fX (g:Fu):List Tm:=if g.result > 0 then [dF g.result 0] else []
def fnL (p:Pr) (g:Fu):Fn:=⟨g.name,(fnW p g).2.take g.params.length,g.result,(fnW p g).2.drop g.params.length,(cQ 7 (fX g) [] (gE p g)).1⟩
theorem w28 (p:Pr) (op:OkP p) (hck:ckE p=0) (f:Nat) (g:Fu) (hg:p.funcs[f]?=some g):Pure Tryz.prog 28 [.fp (unE p (plW p) (vsW p)),.int .i64 f] (.agg (fnE (fnL p g))):=by
 refine Pure.frz fun nx=>AC.go aj is28 (by simp) ?_
 have ig:=cJ hg
 have hvs:(vsW p)[f]?=some (fnW p g).2:=by rw [vsW,List.getElem?_map,hg];rfl
 have iv:idxA 1 (.lst 1 ((vsW p).map fun l=>[bw l])) (f:Int)=some (.fp [bw (fnW p g).2]):=cY (f:=fun l=>[bw l]) hvs
 have ge:=dG g
 have lv:=cq (fnW p g).2
 have s1:∀ h:Heap,dV ((nx+2,.map [] [] 0)::h) .int (.mp (nx+2)) (.int .u8 1) (.bm (.func 59) [.op (nx+1) 0] [])=some ((nx+2,.map ((kM (nx+1)).take 1) [0] 1)::(nx+2,.map [] [] 0)::h):=fun h=>oJ (nx+1) (nx+2) 0 59 (by omega) rfl h
 have s2:∀ h:Heap,dV ((nx+2,.map ((kM (nx+1)).take 1) [0] 1)::h) .int (.mp (nx+2)) (.int .u8 2) (.bm (.func 59) [.op (nx+1) 0] [])=some ((nx+2,.map ((kM (nx+1)).take 2) [0,1] 2)::(nx+2,.map ((kM (nx+1)).take 1) [0] 1)::h):=fun h=>oJ (nx+1) (nx+2) 1 59 (by omega) rfl h
 have s3:∀ h:Heap,dV ((nx+2,.map ((kM (nx+1)).take 2) [0,1] 2)::h) .int (.mp (nx+2)) (.int .u8 3) (.bm (.func 60) [.op (nx+1) 0] [])=some ((nx+2,.map ((kM (nx+1)).take 3) [0,1,2] 3)::(nx+2,.map ((kM (nx+1)).take 2) [0,1] 2)::h):=fun h=>oJ (nx+1) (nx+2) 2 60 (by omega) rfl h
 have s4:∀ h:Heap,dV ((nx+2,.map ((kM (nx+1)).take 3) [0,1,2] 3)::h) .int (.mp (nx+2)) (.int .u8 4) (.bm (.func 61) [.op (nx+1) 0] [])=some ((nx+2,.map ((kM (nx+1)).take 4) [0,1,2,3] 4)::(nx+2,.map ((kM (nx+1)).take 3) [0,1,2] 3)::h):=fun h=>oJ (nx+1) (nx+2) 3 61 (by omega) rfl h
 have s5:∀ h:Heap,dV ((nx+2,.map ((kM (nx+1)).take 4) [0,1,2,3] 4)::h) .int (.mp (nx+2)) (.int .u8 5) (.bm (.func 62) [.op (nx+1) 0] [])=some ((nx+2,.map ((kM (nx+1)).take 5) [0,1,2,3,4] 5)::(nx+2,.map ((kM (nx+1)).take 4) [0,1,2,3] 4)::h):=fun h=>oJ (nx+1) (nx+2) 4 62 (by omega) rfl h
 have s6:∀ h:Heap,dV ((nx+2,.map ((kM (nx+1)).take 5) [0,1,2,3,4] 5)::h) .int (.mp (nx+2)) (.int .u8 6) (.bm (.func 63) [.op (nx+1) 0] [])=some ((nx+2,.map ((kM (nx+1)).take 6) [0,1,2,3,4,5] 6)::(nx+2,.map ((kM (nx+1)).take 5) [0,1,2,3,4] 5)::h):=fun h=>oJ (nx+1) (nx+2) 5 63 (by omega) rfl h
 have s7:∀ h:Heap,dV ((nx+2,.map ((kM (nx+1)).take 6) [0,1,2,3,4,5] 6)::h) .int (.mp (nx+2)) (.int .u8 7) (.bm (.func 64) [.op (nx+1) 0] [])=some ((nx+2,.map ((kM (nx+1)).take 7) [0,1,2,3,4,5,6] 7)::(nx+2,.map ((kM (nx+1)).take 6) [0,1,2,3,4,5] 6)::h):=fun h=>oJ (nx+1) (nx+2) 6 64 (by omega) rfl h
 have s8:∀ h:Heap,dV ((nx+2,.map ((kM (nx+1)).take 7) [0,1,2,3,4,5,6] 7)::h) .int (.mp (nx+2)) (.int .u8 8) (.bm (.func 65) [.op (nx+1) 0] [])=some ((nx+2,.map ((kM (nx+1)).take 8) [0,1,2,3,4,5,6,7] 8)::(nx+2,.map ((kM (nx+1)).take 7) [0,1,2,3,4,5,6] 7)::h):=fun h=>oJ (nx+1) (nx+2) 7 65 (by omega) rfl h
 have s9:∀ h:Heap,dV ((nx+2,.map ((kM (nx+1)).take 8) [0,1,2,3,4,5,6,7] 8)::h) .int (.mp (nx+2)) (.int .u8 9) (.bm (.func 66) [.op (nx+1) 0] [])=some ((nx+2,.map ((kM (nx+1)).take 9) [0,1,2,3,4,5,6,7,8] 9)::(nx+2,.map ((kM (nx+1)).take 8) [0,1,2,3,4,5,6,7] 8)::h):=fun h=>oJ (nx+1) (nx+2) 8 66 (by omega) rfl h
 have b1:(nx+2=nx+1)=False:=eq_false (by omega)
 have b2:(nx+2=nx)=False:=eq_false (by omega)
 have b3:(nx+1=nx)=False:=eq_false (by omega)
 have lvs:dt (.lst 1 ((vsW p).map fun l=>[bw l]))=some (vsW p).length:=by simp [dt]
 simp only [unE]
 simp -implicitDefEqProofs only [RA,aa,zp,↓reduceIte,reduceCtorEq,zq,zr,zs,zt,A28,Gg,s1,s2,s3,s4,s5,s6,s7,s8,s9,b1,b2,b3,ig,ge,iv,lv]
 have hgl:=G9.1 hg
 have ogp:=op.fp g (G8 hg)
 have hKl:(fnW p g).2.length≤6000:=by
  have:=@oO p g
  have:=op.fb g (G8 hg)
  omega
 generalize hK:(fnW p g).2=K at lv hKl iv hvs
 have lgp:=cq g.params
 have c1:(nx+1+1=nx)=False:=eq_false (by omega)
 have c2:(nx+1+1+1=nx)=False:=eq_false (by omega)
 have c3:(nx+1+1+1+1=nx)=False:=eq_false (by omega)
 refine aq (fun q st=>∃ (i:Nat) (pv lo:AV),q=K.length-i∧i≤K.length∧ab st.env 0=some (.fp (unE p (plW p) (vsW p)))∧ab st.env 1=some (.int .i64 f)∧ab st.env 4=some (.op nx 0)∧ab st.env 5=some (.op (nx+1) 0)∧ab st.env 6=some (.op (nx+3) 0)∧ab st.env 7=some (.op (nx+4) 0)∧ab st.env 58=some (bw K)∧ab st.env 59=some (.int .i64 K.length)∧ab st.env 60=some (.int .i64 i)∧af st.heap nx=some (.cells [.str [],.nilS,.int .i64 0,.nilS,.nilS])∧af st.heap (nx+1)=some (.cells (wrC p f .nilS 0 (-1) (nx+2)))∧af st.heap (nx+2)=some (kO (nx+1))∧af st.heap (nx+3)=some (.cells [.str g.name,bw g.params,.int .i64 g.result,ay g.body])∧af st.heap (nx+4)=some (.cells [.str g.name,pv,.int .i64 g.result,lo,.nilS])∧kR st.heap st.nx (nx+4) pv lo ((K.take i).take g.params.length) ((K.take i).drop g.params.length)∧nx+4<st.nx∧st.dm=[]) (n:=K.length) aj
  ⟨0,.nilS,.nilS,rfl,by omega,by simp [ab,unE],by simp [ab],by simp [ab],by simp [ab],by simp [ab],by simp [ab],by simp [ab],by simp [ab],by simp [ab],?_,?_,?_,?_,?_,⟨.inl ⟨rfl,by simp⟩,.inl ⟨rfl,by simp⟩,by simp [aw],by simp [aw],fun b e _=>by cases e⟩,by simp,rfl⟩ ?_
 iterate 5 · simp [ai,wrC,unE,kO,kM,c1,c2,c3]
 clear s1 s2 s3 s4 s5 s6 s7 s8 s9
 rintro q ⟨env,heap,nx',dm⟩ ⟨i,pv,lo,rfl,hi,g0,g1,g4,g5,g6,g7,g58,g59,g60,h0,h1,h2,h3,h4,O,hlt,hdm⟩
 simp only at g0 g1 g4 g5 g6 g7 g58 g59 g60 h0 h1 h2 h3 h4 O hlt hdm
 subst hdm
 have f1:=wS (i:=i) (by omega)
 by_cases hc:(i:Int)<(K.length:Int)
 case pos =>
  have hr:=G7 (show i<K.length by omega)
  generalize K[i]=r at hr
  have ix:=dj hr
  have re:=eu r
  have a0:(nx'=nx+3)=False:=eq_false (by omega)
  have a1:(nx'+1=nx+3)=False:=eq_false (by omega)
  have a2:(nx'=nx+4)=False:=eq_false (by omega)
  have a3:(nx'+1=nx+4)=False:=eq_false (by omega)
  have a4:(nx'+1=nx')=False:=eq_false (by omega)
  have gk:∀ (X Y Z U:AO) k a,k<nx'→af heap k=some a→af ((nx'+1,X)::(nx'+1,Y)::(nx',Z)::(nx',U)::heap) k=some a:=fun X Y Z U k a hk ha=>by
   simp only [ai];rw [if_neg (by omega),if_neg (by omega),if_neg (by omega),if_neg (by omega)];exact ha
  have lt1:((K.take i).take g.params.length).length≤6000:=by rw [Hf,Hf];omega
  have lt2:((K.take i).drop g.params.length).length≤6000:=by rw [List.length_drop,Hf];omega
  rw [re] at ix
  rcases ah ((i:Int)<(g.params.length:Int)) with ⟨d1',d1⟩|⟨d1',d1⟩
  ·obtain ⟨v2,hp,n2,ea,q1,q2,O2,hn2,k2⟩:=O.add (n':=nx'+1+1) (by omega) hlt (gk (.cells [.str r.1,.int .i64 r.2]) (.cells [.str [],.int .i64 0]) (.cells [.str r.1,.int .i64 r.2]) (.cells [.str [],.int .i64 0])) (by omega) r
   have h4':=k2 _ _ (by omega) h4
   rw [re] at ea
   simp -implicitDefEqProofs only [RA,aa,zp,↓reduceIte,reduceCtorEq,zq,zr,zs,zt,t9,pw,g0,g1,g4,g5,g6,g7,g58,g59,g60,hc,ix,h3,h4,lgp,a0,a1,a2,a3,a4,d1,ea,q1,q2,h4',f1]
   obtain ⟨e1,e2⟩:=Au hr (show i<g.params.length by omega)
   refine ⟨K.length-(i+1),by omega,i+1,v2,lo,rfl,by omega,rfl,?_,?_,?_,?_,?_,by rw [e1,e2];exact O2 _,by omega⟩
   ·rw [if_neg (by omega)];exact k2 _ _ (by omega) h0
   ·rw [if_neg (by omega)];exact k2 _ _ (by omega) h1
   ·rw [if_neg (by omega)];exact k2 _ _ (by omega) h2
   ·rw [if_neg (by omega)];exact k2 _ _ (by omega) h3
   ·rfl
  ·obtain ⟨v2,hp,n2,ea,q1,q2,O2,hn2,k2⟩:=O.swap.add (n':=nx'+1+1) (by omega) hlt (gk (.cells [.str r.1,.int .i64 r.2]) (.cells [.str [],.int .i64 0]) (.cells [.str r.1,.int .i64 r.2]) (.cells [.str [],.int .i64 0])) (by omega) r
   have h4':=k2 _ _ (by omega) h4
   rw [re] at ea
   simp -implicitDefEqProofs only [RA,aa,zp,↓reduceIte,reduceCtorEq,zq,zr,zs,zt,t9,pw,g0,g1,g4,g5,g6,g7,g58,g59,g60,hc,ix,h3,h4,lgp,a0,a1,a2,a3,a4,d1,ea,q1,q2,h4',f1]
   obtain ⟨e1,e2⟩:=Av hr (show ¬ i<g.params.length by omega)
   refine ⟨K.length-(i+1),by omega,i+1,pv,v2,rfl,by omega,rfl,?_,?_,?_,?_,?_,by rw [e1,e2];exact (O2 _).swap,by omega⟩
   ·rw [if_neg (by omega)];exact k2 _ _ (by omega) h0
   ·rw [if_neg (by omega)];exact k2 _ _ (by omega) h1
   ·rw [if_neg (by omega)];exact k2 _ _ (by omega) h2
   ·rw [if_neg (by omega)];exact k2 _ _ (by omega) h3
   ·rfl
 have hiK:i=K.length:=by omega
 rw [hiK,List.take_length] at O
 have w0:WS p f (-1) (nx+1) (nx+2) heap nx' .nilS [] ([],0):=⟨h1,by omega,fun hf=>by
  rcases hf with hf|⟨i,c,hc,_⟩
  ·cases hf
  ·simp at hc,⟨.inl ⟨rfl,rfl⟩,rfl,fun i c b hc _=>by simp at hc,fun i j c d _ hc _=>by simp at hc,fun i c hc=>by simp at hc⟩⟩
 have nof:∀ k,¬ Fp .nilS [] k:=fun k hf=>by
  rcases hf with hf|⟨i,c,hc,_⟩
  ·cases hf
  ·simp at hc
 have km:KB (nx+1) heap nx' .nilS [] (nx+2) (kO (nx+1)):=⟨h2,by omega,by omega,nof _⟩
 have kg:KB (nx+1) heap nx' .nilS [] (nx+3) (.cells [.str g.name,bw g.params,.int .i64 g.result,ay g.body]):=⟨h3,by omega,by omega,nof _⟩
 simp -implicitDefEqProofs only [RA,aa,zp,↓reduceIte,reduceCtorEq,zq,zr,zs,zt,t9,pw,g0,g1,g4,g5,g6,g7,g59,g60,hc]
 refine (w67 p f (-1) (nx+1) (nx+2) heap nx' .nilS [] ([],0) w0 (by simp)).mono ?_
 rintro y ha na ⟨rfl,va,csa,wa,ga⟩
 have sta:=st1 (off:=3) (x:=.int .i64 0) wa.cell (by simp [wrC]) rfl
 obtain ⟨wb,gb⟩:=wa.open 0 (-1)
 have Gb:=ga.trans gb
 have kmb:=km.go Gb
 have kgb:=kg.go Gb
 have pb:=bK (off:=3) kgb.at_ rfl
 simp only [wrC,HG,HH] at sta wb Gb kmb kgb pb
 have zz:((0:Nat):Int)=0:=rfl
 have ogb:=op.fb g (G8 hg)
 have hnb:=ic g.body
 obtain ⟨hwf,hfn⟩:=kh hck
 have hgm:=G8 hg
 have hok:okL p K false g.body:=by
  have h5:=hfn g hgm
  have h6:=hwf g hgm
  unfold wfF at h6
  simp only [Bool.and_eq_true] at h6
  unfold fnW at h5 hK
  split at h5
  ·rename_i h7
   rw [if_pos h7] at hK
   exact mF p g.result g.body _ K false (List.all_eq_true.1 h6.2) h5 ⟨[],by rw [List.append_nil];exact hK.symm⟩
  ·rename_i h7;exact absurd h5 h7
 have ob:Op (opB 0 (mkB ([],0))):=.inr ⟨by simp [opB],by simp [opB,mkB]⟩
 have mb:SB 0 (opB 0 (mkB ([],0))):=fun b hb=>by
  simp [opB,mkB] at hb;subst hb;simp [Bk0]
 have lb:(opB 0 (mkB ([],0))).1.length=1:=rfl
 simp -implicitDefEqProofs only [RR,RE,aa,zp,↓reduceIte,reduceCtorEq,zq,zr,zs,zt,g4,g5,g6,g7,zz,sta,pb,aa,Hd]
 refine (w68 p op hck f (nx+1) (nx+2) K hvs (by omega) _ g.body (H4 _) false hok ogb (-1) _ _ va csa (opB 0 (mkB ([],0))) 0 wb kmb ob mb (by omega) (by rw [lb];omega)).mono ?_
 rintro y hc' nc ⟨rfl,vc,csc,wc,gc⟩
 have Gc:=Gb.trans gc
 have kgc:=kg.go Gc
 have oc:=(dh p K g.body (-1) (opB 0 (mkB ([],0)))).2.2 ob
 have pc:=bK (off:=2) kgc.at_ rfl
 have eK:gE p g=slG p K (-1) g.body (opB 0 (mkB ([],0))):=by rw [gE,hK]
 rw [← eK] at wc oc
 have fin:∀ (hd:Heap) (nd:Nat) (vd:AV) (csd:List (List AV)),WS p f (-1) (nx+1) (nx+2) hd nd vd csd (cQ 7 (fX g) [] (gE p g))→GrW (nx+1) heap nx' .nilS [] hd nd vd csd →
   af hd nx=some (.cells [.str [],.nilS,.int .i64 0,.nilS,.nilS])∧af hd (nx+4)=some (.cells [.str g.name,pv,.int .i64 g.result,lo,.nilS])∧(cellsOf pv=[pv]∧pv.plain=true)∧(cellsOf lo=[lo]∧lo.plain=true)∧(cellsOf vd=[vd]∧vd.plain=true) ∧
   ∀ (X Y:AO),∃ h2,Frz ((nx,X)::(nx+4,Y)::hd) (.agg [.str g.name,pv,.int .i64 g.result,lo,vd]) h2 (.agg (fnE (fnL p g))):=by
  intro hd nd vd csd wd gd
  have Od:kR hd nd (nx+4) pv lo (K.take g.params.length) (K.drop g.params.length):=O.keep gd.le fun k a hk hq ha=>gd.keep k a hk (by omega) (nof k) ha
  refine ⟨gd.keep _ _ (by omega) (by omega) (nof _) h0,gd.keep _ _ (by omega) (by omega) (nof _) h4,bE O.op,bE O.ol,bE wd.blk.own,fun X Y=>?_⟩
  have Oe:=Od.keep (h':=(nx,X)::(nx+4,Y)::hd) (H4 nd) fun k a hk hq ha=>by rw [ai,if_neg (by omega),ai,if_neg (by omega)];exact ha
  have hfp:∀ k,Fp vd csd k→nx'≤k:=fun k hf=>by
   rcases gd.new k hf with h1|h1
   ·exact h1
   ·exact absurd h1 (nof k)
  have Be:ej ((nx,X)::(nx+4,Y)::hd) nd vd csd _:=wd.blk.keep (H4 nd) fun k a hf ha=>by
   have:=hfp k hf
   rw [ai,if_neg (by omega),ai,if_neg (by omega)];exact ha
  obtain ⟨j1,f1,k1⟩:=Oe.op.frz2 (dX _)
  have ol1:aF 101 2 j1 nd lo _:=Oe.ol.keep (H4 _) fun k a hb ha=>k1 k a ha fun y e=>Oe.ap k (by rw [e];rfl) hb
  obtain ⟨j2,f2,k2⟩:=ol1.frz2 (dX _)
  have B2:ej j2 nd vd csd _:=Be.keep (H4 nd) fun k a hf ha=>k2 k a (k1 k a ha fun y e=>by
   have:=hfp k hf
   have:=(O.op.blk (b:=k) (by rw [e];rfl)).2.2
   omega) fun y e=>by
   have:=hfp k hf
   have:=(O.ol.blk (b:=k) (by rw [e];rfl)).2.2
   omega
  obtain ⟨j3,f3⟩:=B2.frz
  refine ⟨j3,?_⟩
  have ef:fnE (fnL p g)=[.str g.name,bw (K.take g.params.length),.int .i64 g.result,bw (K.drop g.params.length),.lst 5 ((cQ 7 (fX g) [] (gE p g)).1.map bkE)]:=by rw [fnL,hK];rfl
  rw [ef]
  exact Frz.agg (.keep rfl (.cons f1 rfl (.keep rfl (.cons f2 rfl (.cons f3 rfl (.nil _))))))
 have b4:(nx+4=nx)=False:=eq_false (by omega)
 have b5:(nx+4=nx+1)=False:=eq_false (by omega)
 have b6:(nx+1=nx+4)=False:=eq_false (by omega)
 rcases ah (g.result > 0) with ⟨d1',d1⟩|⟨d1',d1⟩
 ·have er:fX g=[dF g.result 0]:=by rw [fX,if_pos d1']
  simp -implicitDefEqProofs only [RR,RE,aa,zp,↓reduceIte,reduceCtorEq,zq,zr,zs,zt,g4,g5,g6,g7,pc,d1,aa]
  refine (w41 g.result 0).use fun nd hnd=>?_
  have ea:eC 34 6 72 hc' nd .nilS (.lst 6 [tmE (dF g.result 0)])=some (.os nd 0 34 6 1,(nd,.cells (tmE (dF g.result 0)))::hc',nd+1):=by simp [eC,db,kC,aV,maxLen]
  simp -implicitDefEqProofs only [RR,RE,aa,zp,↓reduceIte,reduceCtorEq,zq,zr,zs,zt,g4,g5,g6,g7,aV,aQ,ea,br]
  refine AC.ice1 (Frz.agg (.keep rfl (.keep rfl (.cons (Frz.os (es:=[tmE (dF g.result 0)]) (by rw [ai,if_pos rfl];simp) (by simp [aV]) rfl) rfl (.keep rfl (.nil _)))))) ?_
  have gk3:∀ k a,k<nc→af hc' k=some a→af (dZ ((nd,.cells (tmE (dF g.result 0)))::hc') nd) k=some a:=fun k a hk ha=>by rw [bY,if_neg (by omega),ai,if_neg (by omega)];exact ha
  have wd:=wc.more (n':=nd+1) (by omega) gk3
  have gd:GrW (nx+1) heap nx' .nilS [] _ (nd+1) vc csc:=Gc.trans (GrW.refl (by omega) gk3)
  generalize dZ ((nd,AO.cells (tmE (dF g.result 0)))::hc') nd=hd0 at wd gd
  refine (w69 p f (-1) (nx+1) (nx+2) hd0 (nd+1) vc csc _ wd oc 7 (cg [dF g.result 0]) .nilS (fX g) [] (.inl (by rw [er])) (.inr ⟨rfl,rfl⟩)).mono ?_
  rintro y he ne ⟨rfl,ve,cse,we,g3⟩
  obtain ⟨h0',h4',⟨q1,q2⟩,⟨q3,q4⟩,⟨q5,q6⟩,fz⟩:=fin he ne ve cse we (gd.trans g3)
  have gce:=we.cell
  simp only [wrC] at gce
  simp -implicitDefEqProofs only [RA,aa,zp,↓reduceIte,reduceCtorEq,zq,zr,zs,zt,g4,g5,g6,g7,gce,h0',h4',b4,b5,b6,q1,q2,q3,q4,q5,q6,R28]
  obtain ⟨h2,hz⟩:=fz _ _
  exact ⟨_,h2,rfl,hz⟩
 ·have er:fX g=[]:=by rw [fX,if_neg d1']
  simp -implicitDefEqProofs only [RR,RE,aa,zp,↓reduceIte,reduceCtorEq,zq,zr,zs,zt,g4,g5,g6,g7,pc,d1,aa,br]
  refine (w69 p f (-1) (nx+1) (nx+2) hc' nc vc csc _ wc oc 7 .nilS .nilS (fX g) [] (.inr ⟨rfl,er⟩) (.inr ⟨rfl,rfl⟩)).mono ?_
  rintro y he ne ⟨rfl,ve,cse,we,g3⟩
  obtain ⟨h0',h4',⟨q1,q2⟩,⟨q3,q4⟩,⟨q5,q6⟩,fz⟩:=fin he ne ve cse we (Gc.trans g3)
  have gce:=we.cell
  simp only [wrC] at gce
  simp -implicitDefEqProofs only [RA,aa,zp,↓reduceIte,reduceCtorEq,zq,zr,zs,zt,g4,g5,g6,g7,gce,h0',h4',b4,b5,b6,q1,q2,q3,q4,q5,q6,R28]
  obtain ⟨h2,hz⟩:=fz _ _
  exact ⟨_,h2,rfl,hz⟩
def XS (h:Heap) (nx:Nat) (ev:AV) (xs:List Int):Prop:=(ev=.nilS∧xs=[])∨∃ b rest,ev=.os b 0 3 1 xs.length∧af h b=some (.cells (xs.map (AV.int .i64)++rest))∧b<nx
theorem XS.keep {h h':Heap} {nx n':Nat} {ev:AV} {xs:List Int} (x:XS h nx ev xs) (hle:nx≤n') (hk:∀ k o,aw ev=some k→af h k=some o→af h' k=some o):XS h' n' ev xs:=by
 rcases x with ⟨rfl,rfl⟩|⟨b,rest,rfl,hb,hlt⟩
 ·exact .inl ⟨rfl,rfl⟩
 ·exact .inr ⟨b,rest,rfl,hk b _ rfl hb,by omega⟩
theorem XS.lt {h:Heap} {nx k:Nat} {ev:AV} {xs:List Int} (x:XS h nx ev xs) (hk:aw ev=some k):k<nx:=by
 rcases x with ⟨rfl,rfl⟩|⟨b,rest,rfl,hb,hlt⟩
 ·cases hk
 ·simp only [aw,Option.some.injEq] at hk;omega
theorem XS.plain {h:Heap} {nx:Nat} {ev:AV} {xs:List Int} (x:XS h nx ev xs):cellsOf ev=[ev]∧ev.plain=true∧dt ev=some xs.length:=by
 rcases x with ⟨rfl,rfl⟩|⟨b,rest,rfl,hb,hlt⟩ <;> exact ⟨rfl,rfl,rfl⟩
theorem XS.push {h:Heap} {nx:Nat} {ev:AV} {xs:List Int} (x:XS h nx ev xs) (hl:xs.length≤1000000) (i:Int):∃ ev' h' n',eC 3 1 8 h nx ev (.lst 1 [[.int .i64 i]])=some (ev',h',n')∧XS h' n' ev' (xs++[i])∧nx≤n' ∧
  (∀ k o,k<nx→af h k=some o→aw ev≠some k→af h' k=some o)∧(∀ k,aw ev'=some k→nx≤k∨aw ev=some k):=by
 rcases x with ⟨rfl,rfl⟩|⟨b,rest,rfl,hb,hlt⟩
 ·refine ⟨.os nx 0 3 1 1,(nx,.cells [.int .i64 i])::h,nx+1,by simp [eC,db,kC,maxLen],.inr ⟨nx,[],rfl,by simp [af],by omega⟩,by omega,fun k o hk hg _=>by rw [ai,if_neg (by omega)];exact hg,fun k hk=>.inl (by simp [aw] at hk;omega)⟩
 ·cases rest with
  | nil =>
   refine ⟨.os nx 0 3 1 (xs.length+1),(nx,.cells ((xs.map (AV.int .i64)++[])++[.int .i64 i]))::dZ h b,nx+1,?_,.inr ⟨nx,[],by simp,by simp [af],by omega⟩,by omega,fun k o hk hg hne=>?_,fun k hk=>.inl (by simp [aw] at hk;omega)⟩
   ·have h1:(xs.length+1)*8≤140737488355328:=by omega
    have h2:xs.length+1≤maxLen:=by simp only [maxLen];omega
    simp [eC,db,kC,hb,h1,h2]
   ·rw [ai,if_neg (by omega),bY,if_neg (fun e=>hne (by rw [← e];rfl))];exact hg
  | cons r rest =>
   have h2:br (xs.map (AV.int .i64)++r::rest) (xs.length*1) [.int .i64 i]=xs.map (AV.int .i64)++.int .i64 i::rest:=by
    have e1:xs.length*1=(xs.map (AV.int .i64)).length:=by simp
    rw [br,e1,List.take_left,List.length_singleton,List.drop_append]
    simp
   refine ⟨.os b 0 3 1 (xs.length+1),bO h b (.cells (br (xs.map (AV.int .i64)++r::rest) (xs.length*1) [.int .i64 i])),nx,?_,.inr ⟨b,rest,by simp,?_,hlt⟩,H4 _,fun k o hk hg hne=>?_,fun k hk=>.inr hk⟩
   ·have h3:¬ (xs.length+(rest.length+1)=xs.length):=by omega
    simp [eC,db,kC,hb,h3]
   ·rw [cl,if_pos rfl,h2];simp
   ·rw [cl,if_neg (fun e=>hne (by rw [← e];rfl))];exact hg
theorem XS.pop {h:Heap} {nx:Nat} {ev:AV} {xs:List Int} {i:Int} (x:XS h nx ev (xs++[i])):∃ ev',uG 1 ev 0 xs.length none=some ev'∧XS h nx ev' xs∧(∀ k,aw ev'=some k→aw ev=some k):=by
 rcases x with ⟨rfl,h0⟩|⟨b,rest,rfl,hb,hlt⟩
 ·simp at h0
 ·refine ⟨.os b 0 3 1 xs.length,by simp [uG],.inr ⟨b,.int .i64 i::rest,rfl,?_,hlt⟩,fun k hk=>hk⟩
  simpa using hb
theorem XS.last {h:Heap} {nx:Nat} {ev:AV} {xs:List Int} {i:Int} (x:XS h nx ev xs) (hl:xs.getLast?=some i):∃ b off r,idxA 1 ev ((xs.length:Int)-1)=some (.op b off)∧bG h (.op b off)=some (.int .i64 i::r):=by
 rcases x with ⟨rfl,rfl⟩|⟨b,rest,rfl,hb,hlt⟩
 ·simp at hl
 ·obtain ⟨ys,rfl⟩:∃ ys,xs=ys++[i]:=List.getLast?_eq_some_iff.1 hl
  have e1:(((ys++[i]).length:Nat):Int)-1=(ys.length:Int):=by simp
  refine ⟨b,0+ys.length*1,rest,?_,bK hb ?_⟩
  ·rw [e1];simp [idxA];omega
  ·have e2:0+ys.length*1=(ys.map (AV.int .i64)).length:=by simp
   rw [e2];simp
def mkC (p:Pr) (K:List Pm) (g:Fu) (v:AV) (a:Int) (ev:AV):List AV:=mkr p (bw K) g.name (bw g.params) g.result (ay g.body) v a ev
def Fm (v:AV) (cs:List (List AV)) (ev:AV) (k:Nat):Prop:=Fp v cs k∨aw ev=some k
structure MS (p:Pr) (K:List Pm) (g:Fu) (c:Nat) (h:Heap) (nx:Nat) (v:AV) (cs:List (List AV)) (ev:AV) (xs:List Int) (s:WSt):Prop where
 cell:af h c=some (.cells (mkC p K g v s.2 ev))
 cn:c<nx
 cf:¬ Fm v cs ev c
 blk:ej h nx v cs s.1
 xst:XS h nx ev xs
 xa:∀ k,aw ev=some k→¬ Fp v cs k
structure GrM (c:Nat) (h:Heap) (nx:Nat) (v:AV) (cs:List (List AV)) (ev:AV) (h':Heap) (n':Nat) (v':AV) (cs':List (List AV)) (ev':AV):Prop where
 le:nx≤n'
 keep:∀ k o,k<nx→k≠c→¬ Fm v cs ev k→af h k=some o→af h' k=some o
 new:∀ k,Fm v' cs' ev' k→nx≤k∨Fm v cs ev k
theorem GrM.trans {c:Nat} {h h' h2:Heap} {nx n' n2:Nat} {v v' v2 ev ev' ev2:AV} {cs cs' cs2:List (List AV)} (a:GrM c h nx v cs ev h' n' v' cs' ev') (b:GrM c h' n' v' cs' ev' h2 n2 v2 cs2 ev2):GrM c h nx v cs ev h2 n2 v2 cs2 ev2 :=
 ⟨Nat.le_trans a.le b.le,fun k o hk hc hf hg=>b.keep k o (H5 hk a.le) hc (fun hf'=>by
  rcases a.new k hf' with h1|h1
  ·omega
  ·exact hf h1) (a.keep k o hk hc hf hg),fun k hk=>by
  rcases b.new k hk with h1|h1
  ·exact .inl (Nat.le_trans a.le h1)
  ·exact a.new k h1⟩
theorem GrM.refl {c:Nat} {h h':Heap} {nx n':Nat} {v ev:AV} {cs:List (List AV)} (hle:nx≤n') (hk:∀ k o,k<nx→af h k=some o→af h' k=some o):GrM c h nx v cs ev h' n' v cs ev :=
 ⟨hle,fun k o h1 _ _ h2=>hk k o h1 h2,fun k hk=>.inr hk⟩
section
variable {p:Pr} {K:List Pm} {g:Fu} {c:Nat} {h h':Heap} {nx n':Nat} {v v' ev ev':AV} {cs cs':List (List AV)} {xs xs':List Int} {s s':WSt}
theorem MS.more (w:MS p K g c h nx v cs ev xs s) (hle:nx≤n') (hk:∀ k o,k<nx→af h k=some o→af h' k=some o):MS p K g c h' n' v cs ev xs s :=
 ⟨hk c _ w.cn w.cell,H5 w.cn hle,w.cf,w.blk.keep hle fun k o hf hg=>hk k o (w.blk.lt hf) hg,w.xst.keep hle fun k o hb hg=>hk k o (w.xst.lt hb) hg,w.xa⟩
theorem MS.set (w:MS p K g c h nx v cs ev xs s) (B:ej h' n' v' cs' s'.1) (G:GrB h nx v cs h' n' v' cs') :
  MS p K g c ((c,.cells (mkC p K g v' s'.2 ev))::h') n' v' cs' ev xs s'∧GrM c h nx v cs ev ((c,.cells (mkC p K g v' s'.2 ev))::h') n' v' cs' ev:=by
 have hxa:∀ k,aw ev=some k→¬ Fp v' cs' k:=fun k hb hk=>by
  rcases G.new k hk with h1|h1
  ·have:=w.xst.lt hb;omega
  ·exact w.xa k hb h1
 have hne:∀ k,Fm v' cs' ev k→k≠c:=fun k hk e=>by
  subst e
  rcases hk with hk|hk
  ·rcases G.new k hk with h1|h1
   ·have:=w.cn;omega
   ·exact w.cf (.inl h1)
  ·exact w.cf (.inr hk)
 refine ⟨⟨by rw [ai,if_pos rfl],H5 w.cn G.le,fun hk=>hne c hk rfl,B.keep (H4 _) fun k o hf hg=>?_,w.xst.keep G.le fun k o hb hg=>?_,hxa⟩,⟨G.le,fun k o h1 h2 h3 h4=>?_,fun k hk=>?_⟩⟩
 ·rw [ai,if_neg (fun e=>hne k (.inl hf) e.symm)];exact hg
 ·rw [ai,if_neg (fun e=>hne k (.inr hb) e.symm)];exact G.keep k o (w.xst.lt hb) (w.xa k hb) hg
 ·rw [ai,if_neg (fun e=>h2 e.symm)];exact G.keep k o h1 (fun hf=>h3 (.inl hf)) h4
 ·rcases hk with hk|hk
  ·exact (G.new k hk).imp id .inl
  ·exact .inr (.inr hk)
theorem MS.by (w:MS p K g c h nx v cs ev xs s) (B:ej h' n' v cs' s'.1) (G:GrB h nx v cs h' n' v cs') (e:s'.2=s.2) :
  MS p K g c h' n' v cs' ev xs s'∧GrM c h nx v cs ev h' n' v cs' ev :=
 ⟨⟨by rw [e];exact G.keep c _ w.cn (fun hf=>w.cf (.inl hf)) w.cell,H5 w.cn G.le,fun hk=>by
  rcases hk with hk|hk
  ·rcases G.new c hk with h1|h1
   ·have:=w.cn;omega
   ·exact w.cf (.inl h1)
  ·exact w.cf (.inr hk),B,w.xst.keep G.le fun k o hb hg=>G.keep k o (w.xst.lt hb) (w.xa k hb) hg,fun k hb hk=>by
  rcases G.new k hk with h1|h1
  ·have:=w.xst.lt hb;omega
  ·exact w.xa k hb h1⟩,⟨G.le,fun k o h1 _ h3 h4=>G.keep k o h1 (fun hf=>h3 (.inl hf)) h4,fun k hk=>by
  rcases hk with hk|hk
  ·exact (G.new k hk).imp id .inl
  ·exact .inr (.inr hk)⟩⟩
theorem MS.exits (w:MS p K g c h nx v cs ev xs s) (X:XS h' n' ev' xs') (hle:nx≤n') (hk:∀ k o,k<nx→af h k=some o→aw ev≠some k→af h' k=some o) (hn:∀ k,aw ev'=some k→nx≤k∨aw ev=some k) :
  MS p K g c ((c,.cells (mkC p K g v s.2 ev'))::h') n' v cs ev' xs' s∧GrM c h nx v cs ev ((c,.cells (mkC p K g v s.2 ev'))::h') n' v cs ev':=by
 have hc:aw ev'≠some c:=fun e=>by
  rcases hn c e with h1|h1
  ·have:=w.cn;omega
  ·exact w.cf (.inr h1)
 refine ⟨⟨by rw [ai,if_pos rfl],H5 w.cn hle,fun hf=>?_,w.blk.keep hle fun k o hf hg=>?_,X.keep (H4 _) fun k o hb hg=>?_,fun k hb hf=>?_⟩,⟨hle,fun k o h1 h2 h3 h4=>?_,fun k hf=>?_⟩⟩
 ·rcases hf with hf|hf
  ·exact w.cf (.inl hf)
  ·exact hc hf
 ·rw [ai,if_neg (by intro e;subst e;exact w.cf (.inl hf))];exact hk k o (w.blk.lt hf) hg fun e=>w.xa k e hf
 ·rw [ai,if_neg (by intro e;subst e;exact hc hb)];exact hg
 ·rcases hn k hb with h1|h1
  ·have:=w.blk.lt hf;omega
  ·exact w.xa k h1 hf
 ·rw [ai,if_neg (fun e=>h2 e.symm)];exact hk k o h1 h4 fun e=>h3 (.inr e)
 ·rcases hf with hf|hf
  ·exact .inr (.inl hf)
  ·exact (hn k hf).imp id .inr
theorem MS.open (w:MS p K g c h nx v cs ev xs s) (i:Int):MS p K g c ((c,.cells (mkC p K g v i ev))::h) nx v cs ev xs (opB i s)∧GrM c h nx v cs ev ((c,.cells (mkC p K g v i ev))::h) nx v cs ev :=
 w.set (s':=opB i s) w.blk (GrB.refl (H4 _) fun _ _ _ h=>h)
end
def MP (p:Pr) (K:List Pm) (g:Fu) (c:Nat) (h:Heap) (nx:Nat) (v:AV) (cs:List (List AV)) (ev:AV) (xs:List Int) (s:WSt) (r:AV) (y:AE) (h':Heap) (n':Nat):Prop :=
 y=.ret r∧∃ v' cs' ev',MS p K g c h' n' v' cs' ev' xs s∧GrM c h nx v cs ev h' n' v' cs' ev'
structure KM (c:Nat) (h:Heap) (nx:Nat) (v:AV) (cs:List (List AV)) (ev:AV) (q:Nat) (o:AO):Prop where
 at_:af h q=some o
 lt:q<nx
 ne:q≠c
 nf:¬ Fm v cs ev q
theorem KM.go {c:Nat} {h h':Heap} {nx n':Nat} {v v' ev ev':AV} {cs cs':List (List AV)} {q:Nat} {o:AO} (k:KM c h nx v cs ev q o) (g:GrM c h nx v cs ev h' n' v' cs' ev'):KM c h' n' v' cs' ev' q o :=
 ⟨g.keep q o k.lt k.ne k.nf k.at_,H5 k.lt g.le,k.ne,fun hf=>by
  rcases g.new q hf with h1|h1
  ·have:=k.lt;omega
  ·exact k.nf h1⟩
section
variable (p:Pr) (K:List Pm) (g:Fu) (c:Nat) (h:Heap) (nx:Nat) (v ev:AV) (cs:List (List AV)) (xs:List Int) (s:WSt) (w:MS p K g c h nx v cs ev xs s)
include w
theorem rC (cs0:List AV):MS p K g c ((nx,.cells cs0)::h) (nx+1) v cs ev xs s∧GrM c h nx v cs ev ((nx,.cells cs0)::h) (nx+1) v cs ev∧KM c ((nx,.cells cs0)::h) (nx+1) v cs ev nx (.cells cs0):=by
 have gk0:∀ q a,q<nx→af h q=some a→af ((nx,AO.cells cs0)::h) q=some a:=fun q a hk ho=>by rw [ai,if_neg (by omega)];exact ho
 exact ⟨w.more (by omega) gk0,GrM.refl (by omega) gk0,⟨by rw [ai,if_pos rfl],by omega,by have:=w.cn;omega,fun hf=>by
  rcases hf with hf|hf
  ·have:=w.blk.lt hf;omega
  ·have:=w.xst.lt hf;omega⟩⟩
theorem w71 (hl:s.1.length≤1000000):AC Tryz.prog 71 [.op c 0] h nx (MP p K g c h nx v cs ev xs (mkB s) (.int .i64 s.1.length)):=by
 refine AC.go aj is71 (by simp) ?_
 have gc:=w.cell
 obtain ⟨v',h',n',ea,B,G⟩:=w.blk.block hl
 have gc':=G.keep c _ w.cn (fun hf=>w.cf (.inl hf)) gc
 obtain ⟨q1,q2⟩:=bE B.own
 have ll:=B.own.len
 have hcl:=w.blk.len
 rw [show (cs++[kj]).length=s.1.length+1 by simp [hcl]] at ll
 have f1:IntKind.i64.wrap (((s.1.length+1:Nat):Int)-1)=(s.1.length:Int):=by rw [w64 (by omega) (by omega)];omega
 have ea':eC 97 5 96 h nx v (.lst 5 [[.nilS,.int .u8 0,.str [],.nilS,.nilS]])=some (v',h',n'):=ea
 simp only [mkC,mkr] at gc gc'
 simp -implicitDefEqProofs only [RA,aa,zp,↓reduceIte,reduceCtorEq,zq,zr,zs,zt,A71,FC,gc,ea',gc',q1,q2,ll,f1,R71]
 obtain ⟨w2,g2⟩:=w.set (s':=mkB s) B G
 exact ⟨rfl,v',_,ev,w2,g2⟩
theorem vK (t:St) (i:Nat) (b:Bk) (hi:s.2=(i:Int)) (hb:s.1[i]?=some b) (hl:b.steps.length≤1000000) :
  AC Tryz.prog 132 [.op c 0,.agg (stE t)] h nx (MP p K g c h nx v cs ev xs (fW t s) (.tup [])):=by
 refine AC.go aj DY (by simp) ?_
 obtain ⟨w0,g0,k0⟩:=rC p K g c h nx v ev cs xs s w (stE t)
 have gc:=w0.cell
 obtain ⟨bb,o,sv,rest,sv',h1,n1,h2,cs',i1,i2,ea,q1,q2,i3,B,G,k1⟩:=w0.blk.add hb hl t
 have e1:fW t s=(s.1.set i { b with steps:=b.steps++[t] },s.2):=by rw [fW,hi,If,ij _ hb]
 have nc:(nx=c)=False:=eq_false (by have:=w.cn;omega)
 simp only [mkC,mkr,hi] at gc
 have te:stE t=[.int .u8 t.kind,.str t.var,.str t.func,cg t.terms]:=rfl
 have ra:=rl1 (bK (off:=7) gc rfl)
 have rb:=rl1 (bK (off:=8) gc rfl)
 have rd:=rl1 i2
 have gc1:=k1 c _ w0.cn (fun hf=>w0.cf (.inl hf)) gc
 have rf:=rl1 (bK (off:=7) gc1 rfl)
 have rg:=rl1 (bK (off:=8) gc1 rfl)
 have re:cI ((nx,AO.cells (stE t))::h) 4 true (.op nx 0)=some (.agg (stE t)):=rlA (bK (off:=0) (cs:=stE t) (by simp [af]) rfl) rfl
 rw [te] at ra rb rd re ea ⊢
 simp -implicitDefEqProofs only [RR,RE,aa,zp,↓reduceIte,reduceCtorEq,zq,zr,zs,zt,GG,A6,↓cw,↓cu,ra,rb,rd,re,rf,rg,i1,ea,q1,q2,i3,EY]
 obtain ⟨w2,g2⟩:=w0.by (s':=fW t s) (by rw [e1];exact B) G rfl
 exact ⟨rfl,v,cs',ev,w2,g0.trans g2⟩
theorem w73 (o:Op s) (k:Int) (tv ov:AV) (ts:List Tm) (to:List Int) (ht:tv=cg ts∨(tv=.nilS∧ts=[])) (hv:ov=cP to∨(ov=.nilS∧to=[])) :
  AC Tryz.prog 73 [.op c 0,.agg [.int .u8 k,.str [],tv,ov]] h nx (MP p K g c h nx v cs ev xs (cQ k ts to s) (.tup [])):=by
 refine AC.go aj is73 (by simp) ?_
 obtain ⟨w0,g0,k0⟩:=rC p K g c h nx v ev cs xs s w [.int .u8 k,.str [],tv,ov]
 have gc:=w0.cell
 obtain ⟨t1,t2⟩:=pX ht
 obtain ⟨o1,o2⟩:=qh hv
 simp only [mkC,mkr] at gc
 have pa:=bK (off:=8) gc rfl
 rcases o with h1|⟨h1,h2⟩
 ·have e:cQ k ts to s=s:=by rw [cQ,if_pos h1]
  rw [e]
  rw [h1] at gc pa
  have d1:((-1:Int)≥0)=False:=eq_false (by omega)
  have sa:=st1 (off:=8) (x:=.int .i64 (-1)) gc (by simp) rfl
  simp -implicitDefEqProofs only [RR,RE,aa,zp,↓reduceIte,reduceCtorEq,zq,zr,zs,zt,A73,CO,t1,t2,o1,o2,pa,sa,aa,Ig,d1,R73]
  obtain ⟨w2,g2⟩:=w0.set (s':=s) w0.blk (GrB.refl (H4 _) fun _ _ _ h=>h)
  rw [h1] at w2 g2
  exact ⟨rfl,v,cs,ev,w2,g0.trans g2⟩
 obtain ⟨i,hi⟩:∃ i:Nat,s.2=(i:Int):=⟨s.2.toNat,by omega⟩
 have hb:s.1[i]?=some (s.1[i]'(by omega)):=G7 _
 generalize s.1[i]=b at hb
 obtain ⟨bb,off,h3,cs',i1,i3,B,G⟩:=w0.blk.end_ hb k [] tv ov ts to ht hv
 have e:cQ k ts to s=(s.1.set i { b with kind:=k,func:=[],terms:=ts,to:=to },-1):=by rw [cQ,if_neg (by omega),hi,If,ij _ hb]
 have gc3:=G.keep c _ w0.cn (fun hf=>w0.cf (.inl hf)) w0.cell
 simp only [mkC,mkr] at gc3
 rw [hi] at gc gc3 pa
 have d1:((i:Int)≥0)=True:=eq_true (by omega)
 have ra:=rl1 (bK (off:=7) gc rfl)
 have rb:=rl1 (bK (off:=8) gc rfl)
 have re:cI ((nx,AO.cells [.int .u8 k,.str [],tv,ov])::h) 4 true (.op nx 0)=some (.agg [.int .u8 k,.str [],tv,ov]):=rlA (bK (off:=0) (cs:=[.int .u8 k,.str [],tv,ov]) (by simp [af]) rfl) rfl
 have sa:=st1 (off:=8) (x:=.int .i64 (-1)) gc3 (by simp) rfl
 simp -implicitDefEqProofs only [RR,RE,aa,zp,↓reduceIte,reduceCtorEq,zq,zr,zs,zt,A73,CO,t1,t2,o1,o2,pa,d1,ra,rb,re,i1,i3,sa,aa,Ig,R73]
 obtain ⟨w2,g2⟩:=w0.set (s':=cQ k ts to s) (by rw [e];exact B) G
 rw [e] at w2 g2
 rw [e]
 exact ⟨rfl,v,cs',ev,w2,g0.trans g2⟩
theorem uo (o:Op s) (to:Int):AC Tryz.prog 133 [.op c 0,.int .i64 to] h nx (MP p K g c h nx v cs ev xs (jmp to s) (.tup [])):=by
 refine AC.go aj DX (by simp) ?_
 simp -implicitDefEqProofs only [RA,aa,zp,↓reduceIte,reduceCtorEq,zq,zr,zs,zt,GF,A3]
 refine (w73 p K g c h nx v ev cs xs s w o 5 .nilS (cP [to]) [] [to] (.inr ⟨rfl,rfl⟩) (.inl rfl)).mono ?_
 rintro y h2 n2 ⟨rfl,hq⟩
 simp -implicitDefEqProofs only [RA,aa,zp,↓reduceIte,reduceCtorEq,zq,zr,zs,zt,EX]
 exact ⟨rfl,hq⟩
end
def C72 (p:Pr) (K:List Pm) (g:Fu) (c:Nat) (l:List Sm):Prop:=∀ (loop:Bool) (ex:Int) (xs:List Int) (h:Heap) (nx:Nat) (v ev:AV) (cs:List (List AV)) (s:WSt) (M:Nat),okL p K loop l→(loop=true→xs.getLast?=some ex) →
 MS p K g c h nx v cs ev xs s→Op s→SB M s→M+dr l≤900000→s.1.length+3*dr l≤900000→xs.length+dr l≤900000 →
 AC Tryz.prog 72 [.op c 0,ay l] h nx (MP p K g c h nx v cs ev xs (slG p K ex l s) (.tup []))
theorem w107 (p:Pr) (op:OkP p) (hck:ckE p=0) (K:List Pm) (g:Fu) (c:Nat) (hkl:K.length≤1000000) (k:Int) (n fn:Nm) (wd:Int) (l:List Ex) (b e:List Sm) (hsz:szS (.mk k n fn wd l b e)≤5000) (loop:Bool) (hok:okS p K loop (.mk k n fn wd l b e)) (ex:Int) (xs:List Int) (hx:loop=true→xs.getLast?=some ex)
  (h:Heap) (nx:Nat) (v ev:AV) (cs:List (List AV)) (s:WSt) (M:Nat) (w:MS p K g c h nx v cs ev xs s) (o:Op s) (hs:¬ s.2=-1) (hM:SB M s) (hMb:M+nst (.mk k n fn wd l b e)≤900000) (hlb:s.1.length+3*nst (.mk k n fn wd l b e)≤900000) (hxb:xs.length+nst (.mk k n fn wd l b e)≤900000) (cb:C72 p K g c b) (ce:C72 p K g c e) :
  AC Tryz.prog 107 [.op c 0,.agg (smC k n fn wd l b e)] h nx (MP p K g c h nx v cs ev xs (stG p K ex (.mk k n fn wd l b e) s) (.tup [])):=by
 refine AC.go aj Ej (by simp) ?_
 obtain ⟨w0,g0,kx0⟩:=rC p K g c h nx v ev cs xs s w (smC k n fn wd l b e)
 have le:=aP l
 obtain ⟨hk,hwf,h3,h6,hokb,hoke⟩:=hok
 simp only [szS] at hsz
 simp only [nst] at hMb hlb hxb
 have hll:l.length≤5000:=by
  have key:∀ l:List Ex,l.length≤cD l:=by
   intro l
   induction l with
   | nil=>simp [cD]
   | cons x r ih=>cases x;simp only [Hc,cD,szE];omega
  have:=key l;omega
 simp only [smC] at w0 g0 kx0 ⊢
 simp -implicitDefEqProofs only [RA,aa,zp,↓reduceIte,reduceCtorEq,zq,zr,zs,zt,GZ,Bo,↓aT,↓aS,↓aB,↓aA]
 generalize hH:((nx,AO.cells [AV.int .u8 k,.str n,.str fn,.int .i64 wd,aR l,ay b,ay e])::h:Heap)=H1 at w0 g0 kx0
 refine fq (fun q st=>∃ (j:Nat) (z:AV),q=l.length-j∧j≤l.length∧ab st.env 0=some (.op c 0)∧ab st.env 3=some (.op nx 0)∧ab st.env 4=some z∧ab st.env 5=some (.int .i64 j)∧aF 34 6 st.heap st.nx z (((l.take j).map (exT p K)).map tmE)∧(∀ b,aw z=some b→nx+1≤b)∧(∀ q a,q<nx+1→af H1 q=some a→af st.heap q=some a)∧nx+1≤st.nx∧st.dm=[]) 0
  (fun st=>∃ (z:AV),ab st.env 0=some (.op c 0)∧ab st.env 3=some (.op nx 0)∧ab st.env 4=some z∧aF 34 6 st.heap st.nx z ((l.map (exT p K)).map tmE)∧(∀ b,aw z=some b→nx+1≤b)∧(∀ q a,q<nx+1→af H1 q=some a→af st.heap q=some a)∧nx+1≤st.nx∧st.dm=[]) (n:=l.length) aj
  ⟨0,.nilS,rfl,by omega,by simp [ab],by simp [ab],by simp [ab],by simp [ab],.inl ⟨rfl,by simp⟩,by simp [aw],fun q a hq ha=>ha,by simp,rfl⟩ ?_ ?_
 ·rintro q ⟨env2,hp,nx2,dm⟩ ⟨j,z,rfl,hj,e0,e3,e4,e5,hoz,hzb,hkp,hnx2,hdm⟩
  simp only at e0 e3 e4 e5 hoz hkp hnx2 hdm
  subst hdm
  have f2:=wS (i:=j) (by omega)
  have gx:=hkp nx _ (by omega) kx0.at_
  by_cases hd:(j:Int)<(l.length:Int)
  case neg =>
   rw [show l.take j=l from Ha (by omega)] at hoz
   simp -implicitDefEqProofs only [RA,aa,zp,↓reduceIte,reduceCtorEq,zq,zr,zs,zt,cr,cL,cM,cN,sY,pP,e0,e3,e4,e5,gx,le,hd]
   repeat' (first|exact hoz|exact hzb|exact hkp|apply And.intro)
   all_goals first|assumption|rfl|omega|(simp [ab, *];done)
  have hr2:=G7 (show j<l.length by omega)
  generalize l[j]=y at hr2
  have iy:=bA hr2
  have hym:=G8 hr2
  obtain ⟨hwy,hey⟩:=hwf y hym
  have hny:=mH y
  have hsy:=eO hym
  have yl:=bI y
  have yt:=bC y
  have gcI:=hkp c _ (by have:=w.cn;omega) w0.cell
  have hcn:=w.cn
  simp only [mkC] at gcI
  simp -implicitDefEqProofs only [RA,aa,zp,↓reduceIte,reduceCtorEq,zq,zr,zs,zt,cr,cL,cM,cN,sY,pP,e0,e3,e4,e5,gx,le,hd,iy,yl,yt]
  refine (w24 p op hck (bw K) g.name (bw g.params) g.result (ay g.body) v s.2 ev K c hkl _ y (H4 _) (by omega) hwy hey _ _ gcI (by omega) (.inl rfl)).mono ?_
  rintro y' h' n3 ⟨rfl,rfl,hn3⟩
  have ho2:=hoz.mono hn3
  have hlt:(l.take j).length≤l.length:=by rw [Hf];omega
  obtain ⟨z',h3',n4,ea,ow,hn4,hk3,hb3⟩:=ho2.grw (bytes:=72) (ns:=[tmE (exT p K y)]) (gv _) (by simp [aV]) (by simp only [He,Hc,Hd];omega) (by simp only [He,Hc,Hd,maxLen];omega)
  simp -implicitDefEqProofs only [RA,aa,zp,↓reduceIte,reduceCtorEq,zq,zr,zs,zt,cr,cL,cM,cN,e0,e3,e4,e5,aV,aQ,ea,f2]
  refine ⟨l.length-(j+1),by omega,j+1,z',rfl,by omega,rfl,rfl,?_,fun b hb=>?_,fun q a hq ha=>hk3 q a (by omega) (hkp q a hq ha) fun e=>?_,by omega⟩
  ·rw [az hr2,Hk,Hk];exact ow
  ·rcases hb3 b hb with h|h
   ·omega
   ·exact hzb b h
  ·have:=hzb q e;omega
 rintro ⟨env2,hp0,nx2,dm⟩ ⟨z,e0,e3,e4,hoz,hzb,hkp,hnx2,hdm⟩
 simp only at e0 e3 e4 hoz hkp hnx2 hdm
 subst hdm
 obtain ⟨H2,hfz,hk4⟩:=hoz.frz2 (gv _)
 have gk2:∀ q a,q<nx+1→af H1 q=some a→af H2 q=some a:=fun q a hq ha=>hk4 q a (hkp q a hq ha) fun y e=>by
  have:=hzb q (by rw [e];rfl)
  omega
 have wB:=w0.more hnx2 gk2
 have gB:=g0.trans (GrM.refl (v:=v) (cs:=cs) (ev:=ev) (c:=c) hnx2 gk2)
 have kx:KM c H2 nx2 v cs ev nx (.cells [.int .u8 k,.str n,.str fn,.int .i64 wd,aR l,ay b,ay e]):=⟨gk2 nx _ (by omega) kx0.at_,by omega,kx0.ne,kx0.nf⟩
 refine ⟨4,z,cg (l.map (exT p K)),H2,e4,hfz,?_⟩
 have hrm:rX s:=Dx o hM (by omega) hs
 obtain ⟨i0,bk,hi0,hb0,hl0⟩:=hrm
 have p0:=bK (off:=0) kx.at_ rfl
 have p1:=bK (off:=1) kx.at_ rfl
 have p2:=bK (off:=2) kx.at_ rfl
 have p5:=bK (off:=5) kx.at_ rfl
 have p6:=bK (off:=6) kx.at_ rfl
 have q1:=rl1 p1
 rcases hk with rfl|rfl|rfl|rfl|rfl|rfl|rfl|rfl|rfl
 ·simp -implicitDefEqProofs only [RR,RE,aa,zp,↓reduceIte,reduceCtorEq,zq,zr,zs,zt,e0,e3,e4,p0,p1,aa,br,Ie,↓cw,↓cu]
  refine (vK p K g c H2 nx2 v ev cs xs s wB ⟨1,n,[],l.map (exT p K)⟩ i0 bk hi0 hb0 hl0).mono ?_
  rintro y h3 n3 ⟨rfl,v3,cs3,ev3,w3,g3⟩
  simp -implicitDefEqProofs only [RR,RE,aa,zp,↓reduceIte,reduceCtorEq,zq,zr,zs,zt,mX]
  exact ⟨rfl,v3,cs3,ev3,by rw [stG];simpa using w3,gB.trans g3⟩
 ·simp -implicitDefEqProofs only [RR,RE,aa,zp,↓reduceIte,reduceCtorEq,zq,zr,zs,zt,e0,e3,e4,p0,p1,aa,br,Ie,↓cw,↓cu]
  refine (vK p K g c H2 nx2 v ev cs xs s wB ⟨1,n,[],l.map (exT p K)⟩ i0 bk hi0 hb0 hl0).mono ?_
  rintro y h3 n3 ⟨rfl,v3,cs3,ev3,w3,g3⟩
  simp -implicitDefEqProofs only [RR,RE,aa,zp,↓reduceIte,reduceCtorEq,zq,zr,zs,zt,mX]
  exact ⟨rfl,v3,cs3,ev3,by rw [stG];simpa using w3,gB.trans g3⟩
 ·obtain ⟨ha,hl2⟩:=h3 rfl
  obtain ⟨x0,x1,rfl⟩:∃ x0 x1,l=[x0,x1]:=by
   match l,hl2 with
   | [a,b],_=>exact ⟨a,b,rfl⟩
  obtain ⟨j,a,e1,e2,e3'⟩:=iw ha
  have hwa:=mT hck
  obtain ⟨zz,e4',hz0,hz1⟩:=oo op.al hwa e2
  have i0':=ek (exT p K x0) [exT p K x1]
  have i1':=nW (exT p K x0) (exT p K x1) []
  rw [← cT] at i0' i1'
  have hcn:=wB.cn
  simp -implicitDefEqProofs only [RR,RE,aa,zp,↓reduceIte,reduceCtorEq,zq,zr,zs,zt,e0,e3,e4,p0,q1,aa,Ie,List.map_cons,List.map_nil,i0',i1',aV,aQ,↓cw,↓cu]
  refine (w54 p (bw K) g.name (bw g.params) g.result (ay g.body) v s.2 ev n (exT p K x0) j a zz op.al hwa e1 e2 e4' hz0 hz1 c H2 nx2 wB.cell hcn).mono ?_
  rintro y' h' n3 ⟨rfl,rfl,hn3⟩
  have w3:=wB.more hn3 fun _ _ _ h=>h
  have g3:=gB.trans (GrM.refl (v:=v) (cs:=cs) (ev:=ev) (c:=c) hn3 fun _ _ _ h=>h)
  simp -implicitDefEqProofs only [RR,RE,aa,zp,↓reduceIte,reduceCtorEq,zq,zr,zs,zt,e0,e3,e4,i0',i1',aV,aQ,aa,br,↓cw,↓cu]
  refine (vK p K g c _ n3 v ev cs xs s w3 ⟨2,[],[],[exT p K x1,elT zz a (exT p K x0)]⟩ i0 bk hi0 hb0 hl0).mono ?_
  rintro y h4 n4 ⟨rfl,v4,cs4,ev4,w4,g4⟩
  simp -implicitDefEqProofs only [RR,RE,aa,zp,↓reduceIte,reduceCtorEq,zq,zr,zs,zt,mX]
  exact ⟨rfl,v4,cs4,ev4,by rw [stG,lT e1 e2,lJ e1 e4'];simpa [hdT] using w4,g3.trans g4⟩
 ·have l1:((mkB s).1.length:Int)=(s.1.length:Int)+1:=by rw [aW];omega
  have l2:((mkB (mkB s)).1.length:Int)=(s.1.length:Int)+2:=by rw [aW,aW];omega
  have lb:dt (ay e)=some e.length:=by simp [ay,dP]
  have nm:((-1:Int)≥0)=False:=eq_false (by omega)
  have okb':okL p K loop b:=by simpa using hokb
  simp -implicitDefEqProofs only [RR,RE,aa,zp,↓reduceIte,reduceCtorEq,zq,zr,zs,zt,e0,e3,e4,p0,aa,Ie]
  refine (w71 p K g c H2 nx2 v ev cs xs s wB (by omega)).mono ?_
  rintro y h1 n1 ⟨rfl,v1,cs1,ev1,w1,g1⟩
  have kx1:=kx.go g1
  have pe1:=bK (off:=6) kx1.at_ rfl
  rcases tq e with ⟨he,d1⟩|⟨he,d1⟩
  ·rw [stG]
   simp only [Ie,or_self,if_false,if_true,he]
   simp -implicitDefEqProofs only [RR,RE,aa,zp,↓reduceIte,reduceCtorEq,zq,zr,zs,zt,e0,e3,e4,pe1,aa,lb,d1]
   refine (w71 p K g c h1 n1 v1 ev1 cs1 xs (mkB s) w1 (by rw [aW];omega)).mono ?_
   rintro y h2 n2 ⟨rfl,v2,cs2,ev2,w2,g2⟩
   have kx2:=kx1.go g2
   rw [l1]
   simp -implicitDefEqProofs only [RR,RE,aa,zp,↓reduceIte,reduceCtorEq,zq,zr,zs,zt,e0,e3,e4,nm,Ig,br,↓cw,↓cu]
   refine (w73 p K g c h2 n2 v2 ev2 cs2 xs (mkB (mkB s)) w2 o.mk.mk 6 (cg (l.map (exT p K))) (cP [(s.1.length:Int),(s.1.length:Int)+1]) _ _ (.inl rfl) (.inl rfl)).mono ?_
   rintro y h4 n4 ⟨rfl,v4,cs4,ev4,w4,g4⟩
   have kx4:=kx2.go g4
   generalize hs4:cQ 6 (l.map (exT p K)) [(s.1.length:Int),(s.1.length:Int)+1] (mkB (mkB s))=s4 at w4
   have hl4:s4.1.length=s.1.length+2:=by rw [← hs4,dn,aW,aW]
   have hM4:SB M s4:=by rw [← hs4];exact hM.mk.mk.en _ _ _
   have st4:=st1 (off:=8) (x:=.int .i64 (s.1.length:Int)) w4.cell (by simp [mkC,mkr]) rfl
   obtain ⟨w5,g5⟩:=w4.open (s.1.length:Int)
   have kx5:=kx4.go g5
   have pb5:=bK (off:=5) kx5.at_ rfl
   simp only [mkC,mkr,HG,HH] at st4 w5 g5 kx5 pb5
   simp -implicitDefEqProofs only [RR,RE,aa,zp,↓reduceIte,reduceCtorEq,zq,zr,zs,zt,e0,e3,e4,st4,pb5,aa]
   refine (cb loop ex xs _ _ v4 ev4 cs4 (opB s.1.length s4) M okb' hx w5 (Op.at (by omega)) (hM4.op _) (by omega) (by rw [dy];omega) (by omega)).mono ?_
   rintro y h6 n6 ⟨rfl,v6,cs6,ev6,w6,g6⟩
   have o6:=(dh p K b ex (opB s.1.length s4)).2.2 (Op.at (by omega))
   generalize slG p K ex b (opB s.1.length s4)=s6 at w6 o6
   simp -implicitDefEqProofs only [RR,RE,aa,zp,↓reduceIte,reduceCtorEq,zq,zr,zs,zt,e0,e3,e4]
   refine (uo p K g c h6 n6 v6 ev6 cs6 xs s6 w6 o6 ((s.1.length:Int)+1)).mono ?_
   rintro y h7 n7 ⟨rfl,v7,cs7,ev7,w7,g7⟩
   have st7:=st1 (off:=8) (x:=.int .i64 ((s.1.length:Int)+1)) w7.cell (by simp [mkC,mkr]) rfl
   obtain ⟨w8,g8⟩:=w7.open ((s.1.length:Int)+1)
   simp only [mkC,mkr,HG,HH] at st7 w8 g8
   simp -implicitDefEqProofs only [RR,RE,aa,zp,↓reduceIte,reduceCtorEq,zq,zr,zs,zt,e0,e3,e4,st7,nm,Ig,mX]
   exact ⟨rfl,v7,cs7,ev7,w8,gB.trans (g1.trans (g2.trans (g4.trans (g5.trans (g6.trans (g7.trans g8))))))⟩
  ·rw [stG]
   simp only [Ie,or_self,if_false,if_true,he,Bool.false_eq_true]
   have nm2:((s.1.length:Int)+1≥0)=True:=eq_true (by omega)
   simp -implicitDefEqProofs only [RR,RE,aa,zp,↓reduceIte,reduceCtorEq,zq,zr,zs,zt,e0,e3,e4,pe1,aa,lb,d1]
   refine (w71 p K g c h1 n1 v1 ev1 cs1 xs (mkB s) w1 (by rw [aW];omega)).mono ?_
   rintro y hb2 nb2 ⟨rfl,vb2,csb2,evb2,wb2,gb2⟩
   have kxb:=kx1.go gb2
   rw [l1]
   simp -implicitDefEqProofs only [RR,RE,aa,zp,↓reduceIte,reduceCtorEq,zq,zr,zs,zt,e0,e3,e4]
   refine (w71 p K g c hb2 nb2 vb2 evb2 csb2 xs (mkB (mkB s)) wb2 (by rw [aW,aW];omega)).mono ?_
   rintro y h2 n2 ⟨rfl,v2,cs2,ev2,w2,g2⟩
   have kx2:=kxb.go g2
   rw [l2]
   simp -implicitDefEqProofs only [RR,RE,aa,zp,↓reduceIte,reduceCtorEq,zq,zr,zs,zt,e0,e3,e4,nm2,br,↓cw,↓cu]
   refine (w73 p K g c h2 n2 v2 ev2 cs2 xs (mkB (mkB (mkB s))) w2 o.mk.mk.mk 6 (cg (l.map (exT p K))) (cP [(s.1.length:Int),(s.1.length:Int)+1]) _ _ (.inl rfl) (.inl rfl)).mono ?_
   rintro y h4 n4 ⟨rfl,v4,cs4,ev4,w4,g4⟩
   have kx4:=kx2.go g4
   generalize hs4:cQ 6 (l.map (exT p K)) [(s.1.length:Int),(s.1.length:Int)+1] (mkB (mkB (mkB s)))=s4 at w4
   have hl4:s4.1.length=s.1.length+3:=by rw [← hs4,dn,aW,aW,aW]
   have hM4:SB M s4:=by rw [← hs4];exact hM.mk.mk.mk.en _ _ _
   have st4:=st1 (off:=8) (x:=.int .i64 (s.1.length:Int)) w4.cell (by simp [mkC,mkr]) rfl
   obtain ⟨w5,g5⟩:=w4.open (s.1.length:Int)
   have kx5:=kx4.go g5
   have pb5:=bK (off:=5) kx5.at_ rfl
   simp only [mkC,mkr,HG,HH] at st4 w5 g5 kx5 pb5
   simp -implicitDefEqProofs only [RR,RE,aa,zp,↓reduceIte,reduceCtorEq,zq,zr,zs,zt,e0,e3,e4,st4,pb5,aa]
   refine (cb loop ex xs _ _ v4 ev4 cs4 (opB s.1.length s4) M okb' hx w5 (Op.at (by omega)) (hM4.op _) (by omega) (by rw [dy];omega) (by omega)).mono ?_
   rintro y h6 n6 ⟨rfl,v6,cs6,ev6,w6,g6⟩
   have kx6:=kx5.go g6
   have sl6:=dh p K b ex (opB s.1.length s4)
   have o6:=sl6.2.2 (Op.at (by omega))
   have hM6:=iM p K b ex (opB s.1.length s4) M (hM4.op _)
   rw [dy] at sl6
   generalize slG p K ex b (opB s.1.length s4)=s6 at w6 o6 hM6 sl6
   simp -implicitDefEqProofs only [RR,RE,aa,zp,↓reduceIte,reduceCtorEq,zq,zr,zs,zt,e0,e3,e4]
   refine (uo p K g c h6 n6 v6 ev6 cs6 xs s6 w6 o6 ((s.1.length:Int)+2)).mono ?_
   rintro y h7 n7 ⟨rfl,v7,cs7,ev7,w7,g7⟩
   have kx7:=kx6.go g7
   have hl7:=ep ((s.1.length:Int)+2) s6
   have hM7:=hM6.jm ((s.1.length:Int)+2)
   generalize jmp ((s.1.length:Int)+2) s6=s7 at w7 hl7 hM7
   have st7:=st1 (off:=8) (x:=.int .i64 ((s.1.length:Int)+1)) w7.cell (by simp [mkC,mkr]) rfl
   obtain ⟨w8,g8⟩:=w7.open ((s.1.length:Int)+1)
   have kx8:=kx7.go g8
   have pb8:=bK (off:=6) kx8.at_ rfl
   simp only [mkC,mkr,HG,HH] at st7 w8 g8 kx8 pb8
   have ec:((s.1.length:Int)+1)=((s.1.length+1:Nat):Int):=by omega
   simp -implicitDefEqProofs only [RR,RE,aa,zp,↓reduceIte,reduceCtorEq,zq,zr,zs,zt,e0,e3,e4,st7,nm2,pb8,aa]
   refine (ce loop ex xs _ _ v7 ev7 cs7 (opB ((s.1.length:Int)+1) s7) _ hoke hx w8 (by rw [ec];exact Op.at (by omega)) (hM7.op _) (by omega) (by rw [dy];omega) (by omega)).mono ?_
   rintro y h9 n9 ⟨rfl,v9,cs9,ev9,w9,g9⟩
   have o9:=(dh p K e ex (opB ((s.1.length:Int)+1) s7)).2.2 (by rw [ec];exact Op.at (by omega))
   generalize slG p K ex e (opB ((s.1.length:Int)+1) s7)=s9 at w9 o9
   simp -implicitDefEqProofs only [RR,RE,aa,zp,↓reduceIte,reduceCtorEq,zq,zr,zs,zt,e0,e3,e4]
   refine (uo p K g c h9 n9 v9 ev9 cs9 xs s9 w9 o9 ((s.1.length:Int)+2)).mono ?_
   rintro y ha na ⟨rfl,va,csa,eva,wa,ga⟩
   have sta:=st1 (off:=8) (x:=.int .i64 ((s.1.length:Int)+2)) wa.cell (by simp [mkC,mkr]) rfl
   obtain ⟨wz,gz⟩:=wa.open ((s.1.length:Int)+2)
   simp only [mkC,mkr,HG,HH] at sta wz gz
   simp -implicitDefEqProofs only [RR,RE,aa,zp,↓reduceIte,reduceCtorEq,zq,zr,zs,zt,e0,e3,e4,sta,mX]
   exact ⟨rfl,va,csa,eva,wz,gB.trans (g1.trans (gb2.trans (g2.trans (g4.trans (g5.trans (g6.trans (g7.trans (g8.trans (g9.trans (ga.trans gz))))))))))⟩
 ·have l1:((mkB s).1.length:Int)=(s.1.length:Int)+1:=by rw [aW];omega
  have l2:((mkB (mkB s)).1.length:Int)=(s.1.length:Int)+2:=by rw [aW,aW];omega
  have okb':okL p K true b:=by simpa using hokb
  rw [stG]
  simp only [Ie,or_self,if_false,if_true]
  simp -implicitDefEqProofs only [RR,RE,aa,zp,↓reduceIte,reduceCtorEq,zq,zr,zs,zt,e0,e3,e4,p0,aa,Ie]
  refine (w71 p K g c H2 nx2 v ev cs xs s wB (by omega)).mono ?_
  rintro y h1 n1 ⟨rfl,v1,cs1,ev1,w1,g1⟩
  have kx1:=kx.go g1
  simp -implicitDefEqProofs only [RR,RE,aa,zp,↓reduceIte,reduceCtorEq,zq,zr,zs,zt,e0,e3,e4]
  refine (w71 p K g c h1 n1 v1 ev1 cs1 xs (mkB s) w1 (by rw [aW];omega)).mono ?_
  rintro y h2 n2 ⟨rfl,v2,cs2,ev2,w2,g2⟩
  have kx2:=kx1.go g2
  rw [l1]
  simp -implicitDefEqProofs only [RR,RE,aa,zp,↓reduceIte,reduceCtorEq,zq,zr,zs,zt,e0,e3,e4]
  refine (w71 p K g c h2 n2 v2 ev2 cs2 xs (mkB (mkB s)) w2 (by rw [aW,aW];omega)).mono ?_
  rintro y h3 n3 ⟨rfl,v3,cs3,ev3,w3,g3⟩
  have kx3:=kx2.go g3
  rw [l2]
  simp -implicitDefEqProofs only [RR,RE,aa,zp,↓reduceIte,reduceCtorEq,zq,zr,zs,zt,e0,e3,e4]
  refine (uo p K g c h3 n3 v3 ev3 cs3 xs (mkB (mkB (mkB s))) w3 o.mk.mk.mk (s.1.length:Int)).mono ?_
  rintro y h4 n4 ⟨rfl,v4,cs4,ev4,w4,g4⟩
  have kx4:=kx3.go g4
  generalize hs4:jmp (s.1.length:Int) (mkB (mkB (mkB s)))=s4 at w4
  have hl4:s4.1.length=s.1.length+3:=by rw [← hs4,ep,aW,aW,aW]
  have hM4:SB M s4:=by rw [← hs4];exact hM.mk.mk.mk.jm _
  have st4:=st1 (off:=8) (x:=.int .i64 (s.1.length:Int)) w4.cell (by simp [mkC,mkr]) rfl
  obtain ⟨w5,g5⟩:=w4.open (s.1.length:Int)
  have kx5:=kx4.go g5
  simp only [mkC,mkr,rp,HG,HH] at st4 w5 g5 kx5
  simp -implicitDefEqProofs only [RR,RE,aa,zp,↓reduceIte,reduceCtorEq,zq,zr,zs,zt,e0,e3,e4,st4,br,↓cw,↓cu]
  refine (w73 p K g c _ n4 v4 ev4 cs4 xs (opB s.1.length s4) w5 (Op.at (by omega)) 6 (cg (l.map (exT p K))) (cP [(s.1.length:Int)+1,(s.1.length:Int)+2]) _ _ (.inl rfl) (.inl rfl)).mono ?_
  rintro y h6 n6 ⟨rfl,v6,cs6,ev6,w6,g6⟩
  have kx6:=kx5.go g6
  generalize hs6:cQ 6 (l.map (exT p K)) [(s.1.length:Int)+1,(s.1.length:Int)+2] (opB s.1.length s4)=s6 at w6
  have hl6:s6.1.length=s.1.length+3:=by rw [← hs6,dn,dy];exact hl4
  have hM6:SB M s6:=by rw [← hs6];exact (hM4.op _).en _ _ _
  have st6:=st1 (off:=8) (x:=.int .i64 ((s.1.length:Int)+1)) w6.cell (by simp [mkC,mkr]) rfl
  obtain ⟨w7,g7⟩:=w6.open ((s.1.length:Int)+1)
  have pe7:=bK (off:=9) w7.cell rfl
  obtain ⟨ev8,h8,n8,ea,X8,hn8,hk8,hb8⟩:=w7.xst.push (by omega) ((s.1.length:Int)+2)
  have gc8:=hk8 c _ w7.cn w7.cell fun e=>w7.cf (.inr e)
  obtain ⟨q1',q2',_⟩:=X8.plain
  have st8:=st1 (off:=9) (x:=ev8) gc8 (by simp [mkC,mkr]) rfl
  obtain ⟨w8,g8⟩:=w7.exits X8 hn8 hk8 hb8
  have kx8:=(kx6.go g7).go g8
  have pb8:=bK (off:=5) kx8.at_ rfl
  have ec:((s.1.length:Int)+1)=((s.1.length+1:Nat):Int):=by omega
  have op8:Op (opB ((s.1.length:Int)+1) s6):=by rw [ec];exact Op.at (by omega)
  simp only [mkC,mkr,rp,HG,HH] at pe7 st6 ea st8 w8 g7 g8 kx8 pb8
  simp -implicitDefEqProofs only [RR,RE,aa,zp,↓reduceIte,reduceCtorEq,zq,zr,zs,zt,e0,e3,e4,st6,pe7,ea,q1',q2',st8,pb8,aa]
  refine (cb true ((s.1.length:Int)+2) (xs++[(s.1.length:Int)+2]) _ _ v6 ev8 cs6 (opB ((s.1.length:Int)+1) s6) M okb' (fun _=>by simp) w8 op8 (hM6.op _) (by omega) (by rw [dy];omega) (by simp only [List.length_append,Hc,Hd];omega)).mono ?_
  rintro y h9 n9 ⟨rfl,v9,cs9,ev9,w9,g9⟩
  have o9:=(dh p K b ((s.1.length:Int)+2) (opB ((s.1.length:Int)+1) s6)).2.2 op8
  generalize slG p K ((s.1.length:Int)+2) b (opB ((s.1.length:Int)+1) s6)=s9 at w9 o9
  obtain ⟨ev10,sl10,X10,hb10⟩:=w9.xst.pop
  obtain ⟨_,_,ll9⟩:=w9.xst.plain
  obtain ⟨q3',q4',_⟩:=X10.plain
  rw [show (xs++[(s.1.length:Int)+2]).length=xs.length+1 by simp] at ll9
  have f9:IntKind.i64.wrap (((xs.length+1:Nat):Int)-1)=(xs.length:Int):=by rw [w64 (by omega) (by omega)];omega
  have re9:=rl1 (bK (off:=9) w9.cell rfl)
  have hz9:((0:Int)≤(xs.length:Int))=True:=eq_true (by omega)
  have st10:=st1 (off:=9) (x:=ev10) w9.cell (by simp [mkC,mkr]) rfl
  obtain ⟨w10,g10⟩:=w9.exits X10 (H4 _) (fun _ _ _ h _=>h) fun k hk=>.inr (hb10 k hk)
  simp only [mkC,mkr,rp,HG,HH] at re9 st10 w10 g10
  simp -implicitDefEqProofs only [RR,RE,aa,zp,↓reduceIte,reduceCtorEq,zq,zr,zs,zt,e0,e3,e4,re9,ll9,f9,bnd,hz9,If,sl10,q3',q4',st10]
  refine (uo p K g c _ n9 v9 ev10 cs9 xs s9 w10 o9 (s.1.length:Int)).mono ?_
  rintro y ha na ⟨rfl,va,csa,eva,wa,ga⟩
  have sta:=st1 (off:=8) (x:=.int .i64 ((s.1.length:Int)+2)) wa.cell (by simp [mkC,mkr]) rfl
  obtain ⟨wz,gz⟩:=wa.open ((s.1.length:Int)+2)
  simp only [mkC,mkr,rp,HG,HH] at sta wz gz
  simp -implicitDefEqProofs only [RR,RE,aa,zp,↓reduceIte,reduceCtorEq,zq,zr,zs,zt,e0,e3,e4,sta,mX]
  exact ⟨rfl,va,csa,eva,wz,gB.trans (g1.trans (g2.trans (g3.trans (g4.trans (g5.trans (g6.trans (g7.trans (g8.trans (g9.trans (g10.trans (ga.trans gz)))))))))))⟩
 ·obtain ⟨_,_,ll9⟩:=wB.xst.plain
  have hxl:=hx (h6 rfl)
  obtain ⟨bq,oq,rq,ixq,pq⟩:=wB.xst.last hxl
  have hxp:0<xs.length:=by
   cases xs with
   | nil=>simp at hxl
   | cons a r=>simp
  have f9:IntKind.i64.wrap ((xs.length:Int)-1)=(xs.length:Int)-1:=by rw [w64 (by omega) (by omega)]
  have re9:=rl1 (bK (off:=9) wB.cell rfl)
  have rq9:=rl1 pq
  simp -implicitDefEqProofs only [RR,RE,aa,zp,↓reduceIte,reduceCtorEq,zq,zr,zs,zt,e0,e3,e4,p0,re9,ll9,f9,ixq,rq9,aa,Ie]
  refine (uo p K g c H2 nx2 v ev cs xs s wB o ex).mono ?_
  rintro y h3 n3 ⟨rfl,v3,cs3,ev3,w3,g3⟩
  simp -implicitDefEqProofs only [RR,RE,aa,zp,↓reduceIte,reduceCtorEq,zq,zr,zs,zt,mX]
  exact ⟨rfl,v3,cs3,ev3,by rw [stG];simpa using w3,gB.trans g3⟩
 ·simp -implicitDefEqProofs only [RR,RE,aa,zp,↓reduceIte,reduceCtorEq,zq,zr,zs,zt,e0,e3,e4,p0,p1,aa,br,Ie,↓cw,↓cu]
  refine (vK p K g c H2 nx2 v ev cs xs s wB ⟨4,[],[],l.map (exT p K)⟩ i0 bk hi0 hb0 hl0).mono ?_
  rintro y h3 n3 ⟨rfl,v3,cs3,ev3,w3,g3⟩
  simp -implicitDefEqProofs only [RR,RE,aa,zp,↓reduceIte,reduceCtorEq,zq,zr,zs,zt,mX]
  exact ⟨rfl,v3,cs3,ev3,by rw [stG];simpa using w3,gB.trans g3⟩
 ·simp -implicitDefEqProofs only [RR,RE,aa,zp,↓reduceIte,reduceCtorEq,zq,zr,zs,zt,e0,e3,e4,p0,p1,aa,br,Ie,↓cw,↓cu]
  refine (w73 p K g c H2 nx2 v ev cs xs s wB o 7 (cg (l.map (exT p K))) .nilS _ [] (.inl rfl) (.inr ⟨rfl,rfl⟩)).mono ?_
  rintro y h3 n3 ⟨rfl,v3,cs3,ev3,w3,g3⟩
  simp -implicitDefEqProofs only [RR,RE,aa,zp,↓reduceIte,reduceCtorEq,zq,zr,zs,zt,mX]
  exact ⟨rfl,v3,cs3,ev3,by rw [stG];simpa using w3,gB.trans g3⟩
 ·simp -implicitDefEqProofs only [RR,RE,aa,zp,↓reduceIte,reduceCtorEq,zq,zr,zs,zt,e0,e3,e4,p0,p1,p2,aa,br,Ie,↓cw,↓cu]
  refine (vK p K g c H2 nx2 v ev cs xs s wB ⟨3,n,fn,l.map (exT p K)⟩ i0 bk hi0 hb0 hl0).mono ?_
  rintro y h3 n3 ⟨rfl,v3,cs3,ev3,w3,g3⟩
  simp -implicitDefEqProofs only [RR,RE,aa,zp,↓reduceIte,reduceCtorEq,zq,zr,zs,zt,mX]
  exact ⟨rfl,v3,cs3,ev3,by rw [stG];simpa using w3,gB.trans g3⟩
theorem jO:∀ l:List Sm,l.length≤bS l
 | []=>by simp
 | x::r=>by have:=jO r;have:=lF x;simp only [Hc,bS];omega
theorem vE (p:Pr) (op:OkP p) (hck:ckE p=0) (K:List Pm) (g:Fu) (c:Nat) (hkl:K.length≤1000000) (L:List Sm) (hsz:bS L≤5000) (H:∀ k n fn wd l b e,Sm.mk k n fn wd l b e∈L→C72 p K g c b∧C72 p K g c e):C72 p K g c L:=by
 intro loop ex xs h nx v ev cs s M hok hx w o hM hMb hlb hxb
 refine AC.go aj is72 (by simp) ?_
 have lv:=aO L
 have hLl:=jO L
 simp -implicitDefEqProofs only [RA,aa,zp,↓reduceIte,reduceCtorEq,zq,zr,zs,zt,A72,FB]
 refine aq (fun q st=>∃ (i:Nat) (v1 ev1:AV) (cs1:List (List AV)) (s1:WSt) (M1:Nat),q=L.length-i∧i≤L.length∧slG p K ex (L.drop i) s1=slG p K ex L s∧ab st.env 0=some (.op c 0)∧ab st.env 1=some (ay L)∧ab st.env 4=some (.int .i64 i)∧MS p K g c st.heap st.nx v1 cs1 ev1 xs s1∧GrM c h nx v cs ev st.heap st.nx v1 cs1 ev1∧Op s1∧SB M1 s1∧M1+dr (L.drop i)≤900000∧s1.1.length+3*dr (L.drop i)≤900000∧st.dm=[]) (n:=L.length) aj
  ⟨0,v,ev,cs,s,M,rfl,by omega,by simp,by simp [ab],by simp [ab],by simp [ab],w,GrM.refl (H4 _) fun _ _ _ h=>h,o,hM,hMb,hlb,rfl⟩ ?_
 rintro q ⟨env,heap,nx',dm⟩ ⟨i,v1,ev1,cs1,s1,M1,rfl,hi,hres,g0,g1,g4,w1,G1,o1,hM1,hMb1,hlb1,hdm⟩
 simp only at g0 g1 g4 w1 G1 hdm
 subst hdm
 have f1:=wS (i:=i) (by omega)
 by_cases hc:(i:Int)<(L.length:Int)
 case neg =>
  have:L.drop i=[]:=Hb (by omega)
  rw [this,slG] at hres
  rw [← hres]
  simp -implicitDefEqProofs only [RA,aa,zp,↓reduceIte,reduceCtorEq,zq,zr,zs,zt,tV,pk,g0,g1,g4,lv,hc,R72]
  exact ⟨rfl,v1,cs1,ev1,w1,G1⟩
 have hr:=G7 (show i<L.length by omega)
 generalize L[i]=x at hr
 have hmem:=G8 hr
 rw [cG hr,slG] at hres
 have hnd:dr (L.drop i)=nst x+dr (L.drop (i+1)):=by rw [cG hr,dr]
 have ix:=eQ hr
 have pa:bG heap (.op c 8)=some [.int .i64 s1.2,ev1]:=bK (off:=8) w1.cell rfl
 rcases ah (s1.2=-1) with ⟨d1',_⟩|⟨d1',_⟩
 case inl =>
  rw [if_pos d1'] at hres
  rw [← hres]
  have d2:((-1:Int)≥0)=False:=eq_false (by omega)
  rw [d1'] at pa
  simp -implicitDefEqProofs only [RR,RE,aa,zp,↓reduceIte,reduceCtorEq,zq,zr,zs,zt,tV,pk,g0,g1,g4,lv,hc,pa,d2,aa,Ig,R72]
  exact ⟨rfl,v1,cs1,ev1,w1,G1⟩
 rw [if_neg d1'] at hres
 have d2:(s1.2≥0)=True:=eq_true (by
  rcases o1 with h1|h1
  ·exact absurd h1 d1'
  ·exact h1.1)
 obtain ⟨k,n,fn,wd,l,b,e⟩:=x
 have hokx:=oE hok hmem
 have hszx:=bH hmem
 have sl1:=nY p K (.mk k n fn wd l b e) ex s1
 have sb1:=qZ p K (.mk k n fn wd l b e) ex s1 M1 hM1
 have hnm:=mG hmem
 obtain ⟨cb,ce⟩:=H k n fn wd l b e hmem
 rw [Dw] at ix
 have sml:(smC k n fn wd l b e).length=7:=rfl
 have smt:(smC k n fn wd l b e).take 7=smC k n fn wd l b e:=rfl
 simp -implicitDefEqProofs only [RR,RE,aa,zp,↓reduceIte,reduceCtorEq,zq,zr,zs,zt,tV,pk,g0,g1,g4,lv,hc,pa,d2,ix,sml,smt,aa]
 refine (w107 p op hck K g c hkl k n fn wd l b e (by omega) loop hokx ex xs hx heap nx' v1 ev1 cs1 s1 M1 w1 o1 d1' hM1 (by omega) (by omega) (by omega) cb ce).mono ?_
 rintro y h3 n3 ⟨rfl,v3,cs3,ev3,w3,g3⟩
 simp -implicitDefEqProofs only [RR,RE,aa,zp,↓reduceIte,reduceCtorEq,zq,zr,zs,zt,g0,g1,g4,f1]
 exact ⟨L.length-(i+1),by omega,i+1,v3,ev3,cs3,_,_,rfl,by omega,hres,rfl,w3,G1.trans g3,sl1.2.2 o1,sb1,by omega,by omega⟩
theorem w72 (p:Pr) (op:OkP p) (hck:ckE p=0) (K:List Pm) (g:Fu) (c:Nat) (hkl:K.length≤1000000):∀ (N:Nat) (L:List Sm),bS L≤N→N≤5000→C72 p K g c L
 | 0,L,h,hN=>vE p op hck K g c hkl L (by omega) fun k n fn wd l b e hm=>by have:=bH hm;simp only [szS] at this;omega
 | N+1,L,h,hN=>vE p op hck K g c hkl L (by omega) fun k n fn wd l b e hm=>by
  have:=bH hm
  simp only [szS] at this
  exact ⟨w72 p op hck K g c hkl N b (by omega) (by omega),w72 p op hck K g c hkl N e (by omega) (by omega)⟩
end Go.Proofs.YtgeieafamocnhaaGreatDoor
