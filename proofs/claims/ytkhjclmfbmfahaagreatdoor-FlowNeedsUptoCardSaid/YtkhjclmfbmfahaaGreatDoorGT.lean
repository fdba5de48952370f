/- Live variables of the package: behind the tables' making. -/
import Derived.Test.YtkhjclmfbmfahaaGreatDoorGS
import Derived.Test.YtkhjclmfbmfahaaGreatDoorCards
import Derived.Test.YtkhjclmfbmfahaaGreatDoorTie
import Derived.WalkKit
import Derived.OpenShut
import Derived.ShutString
import Derived.ChangeOld
import Derived.Below
import Derived.FnData
import Derived.LaidLaws
import Derived.Deep.DeepHandedRow
import Derived.Deep.DeepWitnessRowRef
namespace Go.Proofs.YtkhjclmfbmfahaaGreatDoor
open List renaming getElem?_eq_getElem → Fo, mem_of_getElem? → Fp, getElem?_eq_some_iff → Fq, length_map → Fw, mem_map → Fy, getElem?_map → FR, map_cons → FU, flatten_cons → FW
open Option renaming map_eq_some_iff → Ga
open Nat renaming le_refl → Gp
set_option maxHeartbeats 64000000
open Go Go.Ab Go.Proofs
open Nat renaming reduceEqDiff → zp, reduceAdd → zq, reduceLeDiff → zr, reduceLT → zs, reduceBEq → zt
set_option linter.unusedVariables false
set_option linter.unusedSimpArgs false
set_option maxRecDepth 20000
theorem zS {g:Fn} {p:Nat→Prop} {S k:Nat} (h:∀ v,S.testBit v=true↔p v):pkS (nmV g) S k=pkK g p k:=by
 unfold pkS pkK
 congr 1
 apply List.filter_congr
 intro v _
 rw [Bool.eq_iff_iff,h v,eY]
theorem CU {g:Fn} {I O:List Nat} (h:∀ b,b<g.blocks.length→∀ v,((gD I b).testBit v=true↔LvG g v b)∧((gD O b).testBit v=true↔LoG g v b)):lsP g I O g.blocks.length=lsF g (fun _=>(nmV g).length) fun _=>(nmV g).length:=by
 unfold lsP lsF
 apply List.map_congr_left
 intro b hb
 have:=h b (List.mem_range.1 hb)
 rw [zS (p:=fun v=>LvG g v b) fun v=>(this v).1,zS (p:=fun v=>LoG g v b) fun v=>(this v).2]
theorem BF (n b:Nat):gD (List.replicate n 0) b=0:=by simp [gD,List.getD_eq_getElem?_getD,List.getElem?_replicate];split <;> rfl
theorem yJ {P:Pi} {g:Fn} (G:GdF P g) (hok:okF g) {c6 c8 cI cO bI bO:Nat} {env:Env} {heap:Heap} {nx:Nat}
  (g6:ah env 6=some (.op c6 0)) (g8:ah env 8=some (.op c8 0)) (g9:ah env 9=some (.int .i64 g.blocks.length)) (g10:ah env 10=some (.op cI 0)) (g11:ah env 11=some (.op cO 0)) (g37:ah env 37=some (.os bI 0 78 1 g.blocks.length)) (g39:ah env 39=some (.os bO 0 78 1 g.blocks.length))
  (S:FS g c6 c8 cI cO bI bO (List.replicate g.blocks.length 0) (List.replicate g.blocks.length 0) heap nx []) :
  go Tryz.prog (fun _ _=>false) none 119 [] (Ab.Fin R7 fun y h' n'=>∃ v,y=AE.ret (AV.tup [v,AV.int IntKind.i64 0])∧LvS h' n' v (lsF g (fun _=>(nmV g).length) fun _=>(nmV g).length)) Ch ⟨env,heap,nx,[]⟩:=by
 have hL:LVI (nbG g) (co g) (bF g) (gD (List.replicate g.blocks.length 0)) (gD (List.replicate g.blocks.length 0)):=by
  have e:gD (List.replicate g.blocks.length 0)=fun _=>0:=funext fun b=>BF _ b
  rw [e];exact LVI.first
 simp -implicitDefEqProofs only [RA,ae,zp,↓reduceIte,reduceCtorEq,zq,zr,zs,zt,↓aA,↓az,↓au,↓ar,↓ay,↓aw,↓ak,↓aj,↓aC,↓aB,↓aE,↓aD,unA,ne_eq,not_true_eq_false,not_false_eq_true,Ch,Ai,g6,g8,g9,g10,g11]
 refine s9 G hok (c6:=c6) (c8:=c8) (cI:=cI) (cO:=cO) (bI:=bI) (bO:=bO) (by simp) (by simp) hL (by simp [ah,g6]) (by simp [ah,g8]) (by simp [ah,g9]) (by simp [ah,g10]) (by simp [ah,g11]) (by simp [ah]) S ?_
 clear g6 g8 g9 g10 g11 S hL
 intro env' h' n' dm' I O k8 k9 k10 k11 hlI hlO S hbits hlt
 simp -implicitDefEqProofs only [RA,ae,zp,↓reduceIte,reduceCtorEq,zq,zr,zs,zt,↓aA,↓az,↓au,↓ar,↓ay,↓aw,↓ak,↓aj,↓aC,↓aB,↓aE,↓aD,unA,ne_eq,not_true_eq_false,not_false_eq_true,k8,k9,k10,k11]
 refine s7 G (c6:=c6) (c8:=c8) (cI:=cI) (cO:=cO) (bI:=bI) (bO:=bO) (I:=I) (O:=O) hlI hlO hlt (by simp [ah,k10]) (by simp [ah,k11]) (by simp [ah]) (by simp [ah]) (by simp [ah]) (by simp [ah]) S ?_
 intro env2 h2 n2 v vs e19 ov cs hvs hv hfr hle
 simp only at hvs hv hfr hle
 simp -implicitDefEqProofs only [RA,ae,zp,↓reduceIte,reduceCtorEq,zq,zr,zs,zt,↓aA,↓az,↓au,↓ar,↓ay,↓aw,↓ak,↓aj,↓aC,↓aB,↓aE,↓aD,unA,ne_eq,not_true_eq_false,not_false_eq_true,e19,we,R7]
 have hms:=S.ms.ext hle fun k o h1 h2 _=>hfr k o h1 h2
 refine ⟨hms.ok,?_⟩
 have hd:∀ k o,n'≤k→aq h2 k=some o→aq (fm h2 dm') k=some o:=fun k o h1 h3=>by
  rw [lY _ _ _ fun hm=>by have:=(S.ms.d1 k hm).1;omega];exact h3
 rw [CU hbits] at cs
 exact ⟨v,rfl,vs,ov.keep (Gp _) fun k o h1 h3=>hd k o (hv k h1) h3,cs.ext (Gp _) fun b s x k o h1 h3 h4=>hd k o ((hvs b s x k h1 h3).2) h4,fun b s x c h1 h3=>(hvs b s x c h1 h3).1⟩
theorem w7 (P:Pi) (f:Int) (ho:jZ P) (nx:Nat):AC Tryz.prog 7 [.agg (piE P),.int .i64 f] [] nx fun y h' n'=>∃ v,y=.ret (.tup [v,.int .i64 (chE P f)])∧LvS h' n' v (lvR P f):=by
 refine AC.go aI is7 (by simp) ?_
 have w23':=w23 P f ho
 have n1:(nx+1=nx)=False:=eq_false (by omega)
 unfold piE at w23' ⊢
 simp -implicitDefEqProofs only [RA,ae,zp,↓reduceIte,reduceCtorEq,zq,zr,zs,zt,↓aA,↓az,↓au,↓ar,↓ay,↓aw,↓ak,↓aj,↓aC,↓aB,↓aE,↓aD,unA,ne_eq,not_true_eq_false,not_false_eq_true,A7,A7p]
 refine w23'.use fun k1 hk1=>?_
 have a1:(k1=nx)=False:=eq_false (by omega)
 rcases ai (chE P f=0) with ⟨c1,d1⟩|⟨c1,d1⟩
 case inr =>
  rw [va c1,mN c1]
  simp -implicitDefEqProofs only [RA,ae,zp,↓reduceIte,reduceCtorEq,zq,zr,zs,zt,↓aA,↓az,↓au,↓ar,↓ay,↓aw,↓ak,↓aj,↓aC,↓aB,↓aE,↓aD,unA,ne_eq,not_true_eq_false,not_false_eq_true,d1,a1,n1,R7,zFn]
  exact ⟨_,rfl,LvS.nil _ _⟩
 obtain ⟨e0,e1,e2,g,hg,hgm⟩:=p8 c1
 obtain ⟨gl,_,_,gd⟩:=vW e0
 have G:=gd g hgm
 have hok:=ho.2 g hgm
 rw [u9 c1 hg,uM c1 hg,c1]
 have hvr:=G.vars
 have w24':=w24 g (by omega) (by omega)
 have hn60:=G.n2
 have fl:=mY g
 have ft:=mX g
 have ff:=bN g
 have lb:=dv g.blocks
 have pn:(nmA (nmV g)).plain=true:=rfl
 have cn:cellsOf (nmA (nmV g))=[nmA (nmV g)]:=rfl
 have hmk:=zU (n:=g.blocks.length) (b:=8) (by omega) (by omega)
 have mkb:=Bp g.blocks.length
 rw [ff] at fl ft w24' ⊢
 simp -implicitDefEqProofs only [RA,ae,zp,↓reduceIte,reduceCtorEq,zq,zr,zs,zt,↓aA,↓az,↓au,↓ar,↓ay,↓aw,↓ak,↓aj,↓aC,↓aB,↓aE,↓aD,unA,ne_eq,not_true_eq_false,not_false_eq_true,a1,n1,fl,ft]
 refine w24'.use fun k2 hk2=>?_
 have y1:(k2=k1)=False:=eq_false (by omega)
 have z1:(k2+1=k2)=False:=eq_false (by omega)
 have z2:(k2+1+1=k2)=False:=eq_false (by omega)
 have z3:(k2+1+1+1=k2)=False:=eq_false (by omega)
 have z4:(k2+1+1+1+1=k2)=False:=eq_false (by omega)
 have u2:(k2+2=k2)=False:=eq_false (by omega)
 have u3:(k2+3=k2)=False:=eq_false (by omega)
 have u4:(k2+4=k2)=False:=eq_false (by omega)
 have r1:(k2=k2+1)=False:=eq_false (by omega)
 have r2:(k2=k2+2)=False:=eq_false (by omega)
 have r3:(k2=k2+3)=False:=eq_false (by omega)
 have r4:(k2=k2+4)=False:=eq_false (by omega)
 simp -implicitDefEqProofs only [RA,ae,zp,↓reduceIte,reduceCtorEq,zq,zr,zs,zt,↓aA,↓az,↓au,↓ar,↓ay,↓aw,↓ak,↓aj,↓aC,↓aB,↓aE,↓aD,unA,ne_eq,not_true_eq_false,not_false_eq_true,RT,r1,r2,r3,r4,y1,z1,z2,z3,z4,u2,u3,u4,lb,hmk,mkb,Int.toNat_natCast,pn,cn]
 repeat' with_reducible apply And.intro
 all_goals
  refine yJ G hok (c6:=k1) (c8:=k2) (by simp [ah]) (by simp [ah]) (by simp [ah]) (by rfl) (by rfl) (by rfl) (by rfl) ?_
  refine ⟨?_,?_,?_,?_,?_,?_,by omega,by omega,⟨fun d hd=>by simp at hd,.nil⟩⟩
  ·repeat (first|rw [af,if_pos rfl]|rw [af,if_neg (by omega)])
   rw [ff]
  all_goals repeat (first|rw [af,if_pos rfl]|rw [af,if_neg (by omega)])
def lvE (p:List Nm × List Nm):List AV:=[nmA p.1,nmA p.2]
def lvA (l:List (List Nm × List Nm)):AV:=.lst 2 (l.map lvE)
theorem yG (l:List (List Nm × List Nm)):eN (lvA l)=some l.length:=by simp [lvA,eM]
theorem yH {l:List (List Nm × List Nm)} {n:Nat} {r:List Nm × List Nm} (h:l[n]?=some r):idxA 2 (lvA l) (n:Int)=some (.fp (lvE r)):=dB h
theorem w9 (l:List (List Nm × List Nm)) (hl:l.length≤4000000) (hi:∀ x∈l,x.1.length≤4000000∧x.2.length≤4000000):Pure Tryz.prog 9 [lvA l,lvA l] (.bool true):=by
 refine Pure.of fun nx=>AC.go aI is9 (by simp) ?_
 have lo:=yG l
 simp -implicitDefEqProofs only [RA,ae,zp,↓reduceIte,reduceCtorEq,zq,zr,zs,zt,↓aA,↓az,↓au,↓ar,↓ay,↓aw,↓ak,↓aj,↓aC,↓aB,↓aE,↓aD,unA,ne_eq,not_true_eq_false,not_false_eq_true,A9,A9p,lo]
 refine aJ (fun q st=>∃ i:Nat,q=l.length-i∧i≤l.length∧ah st.env 0=some (lvA l)∧ah st.env 1=some (lvA l)∧ah st.env 5=some (.int .i64 i)∧st.dm=[]) (n:=l.length) aI
  ⟨0,rfl,by omega,by simp [ah],by simp [ah],by simp [ah],rfl⟩ ?_
 rintro q ⟨env,heap,nx',dm⟩ ⟨i,rfl,hi',g0,g1,g5,hdm⟩
 simp only at g0 g1 g5 hdm
 subst hdm
 have f1:=wS (i:=i) (by omega)
 by_cases hc:(i:Int)<(l.length:Int)
 case neg =>
  simp -implicitDefEqProofs only [RA,ae,zp,↓reduceIte,reduceCtorEq,zq,zr,zs,zt,↓aA,↓az,↓au,↓ar,↓ay,↓aw,↓ak,↓aj,↓aC,↓aB,↓aE,↓aD,unA,ne_eq,not_true_eq_false,not_false_eq_true,Cd,wq,g0,g1,g5,lo,hc,R9]
 have hr:=Fo (show i<l.length by omega)
 generalize l[i]=r at hr
 have ixr:=yH hr
 rw [lvE] at ixr
 have hw:=hi r (Fp hr)
 have w1:=w34 r.1 hw.1
 have w2:=w34 r.2 hw.2
 simp -implicitDefEqProofs only [RA,ae,zp,↓reduceIte,reduceCtorEq,zq,zr,zs,zt,↓aA,↓az,↓au,↓ar,↓ay,↓aw,↓ak,↓aj,↓aC,↓aB,↓aE,↓aD,unA,ne_eq,not_true_eq_false,not_false_eq_true,Cd,wq,g0,g1,g5,lo,hc,ixr]
 refine w1.use fun k hk=>?_
 simp -implicitDefEqProofs only [RA,ae,zp,↓reduceIte,reduceCtorEq,zq,zr,zs,zt,↓aA,↓az,↓au,↓ar,↓ay,↓aw,↓ak,↓aj,↓aC,↓aB,↓aE,↓aD,unA,ne_eq,not_true_eq_false,not_false_eq_true,g0,g1,g5,ixr]
 refine w2.use fun k2 hk2=>?_
 simp -implicitDefEqProofs only [RA,ae,zp,↓reduceIte,reduceCtorEq,zq,zr,zs,zt,↓aA,↓az,↓au,↓ar,↓ay,↓aw,↓ak,↓aj,↓aC,↓aB,↓aE,↓aD,unA,ne_eq,not_true_eq_false,not_false_eq_true,g0,g1,g5,f1]
 exact ⟨l.length-(i+1),by omega,i+1,rfl,by omega,rfl⟩
theorem vr {h:Heap} {n:Nat} {x:AV} {d:List Nm} (o:aR 9 1 h n x (d.map nmE)):Ice h x (nmA d):=by
 refine aR.icy o (ir _) rfl fun i a b ha hb=>?_
 rw [ha] at hb;injection hb with hb;subst hb
 refine ka.same fun y hy=>?_
 obtain ⟨s,_,rfl⟩:=Fy.1 (Fp ha)
 simp [nmE] at hy;subst hy;rfl
theorem LvS.ice {h:Heap} {n:Nat} {v:AV} {ls:List (List Nm × List Nm)} (s:LvS h n v ls):Ice h v (lvA ls):=by
 obtain ⟨vs,ov,cs,_⟩:=s
 refine aR.icy ov (rk _) (by rw [Fw,Fw,cs.len]) fun i x y hx hy=>?_
 rw [FR] at hx hy
 obtain ⟨p,hp,rfl⟩:=Ga.1 hx
 obtain ⟨l,hl,rfl⟩:=Ga.1 hy
 have o1:=cs.own i false p.1 l.1 (by unfold cB;rw [hp];rfl) (by unfold fj;rw [hl];rfl)
 have o2:=cs.own i true p.2 l.2 (by unfold cB;rw [hp];rfl) (by unfold fj;rw [hl];rfl)
 exact .cons (vr o1) rfl (.cons (vr o2) rfl (.nil _))
theorem sK {h:Heap} {nx n1 n2:Nat} {v v':AV} {ls:List (List Nm × List Nm)} (s1:LvS h n1 v ls) (s2:LvS h n2 v' ls) (hl:ls.length≤4000000) (hi:∀ x∈ls,x.1.length≤4000000∧x.2.length≤4000000) :
  AC Tryz.prog 9 [v,v'] h nx fun y h' n'=>y=.ret (.bool true)∧h'=h∧nx≤n':=AC.ro (w9 ls hl hi) ⟨s1.ice,s2.ice,trivial⟩ rfl
theorem s4 (P:Pi) (f:Int):(lvR P f).length≤4000000∧∀ x∈lvR P f,x.1.length≤4000000∧x.2.length≤4000000:=by
 unfold lvR
 split
 ·rename_i h
  split
  ·rename_i g hg
   have G:=BQ h hg
   have h60:=G.n2
   have hvl:=iq G
   refine ⟨by rw [ep];omega,fun x hx=>?_⟩
   unfold lsF at hx
   obtain ⟨b,_,rfl⟩:=Fy.1 hx
   exact ⟨by have:=iY g (fun i=>LvG g i b) (nmV g).length;simp only;omega,by have:=iY g (fun i=>LoG g i b) (nmV g).length;simp only;omega⟩
  ·exact ⟨by simp,fun x hx=>by simp at hx⟩
 ·exact ⟨by simp,fun x hx=>by simp at hx⟩
theorem CS.put {h:Heap} {nx:Nat} {vs:List (AV × AV)} {ls:List (List Nm × List Nm)} (c:CS h nx vs ls) {b k:Nat} {s:Bool} {x:AV} {d:List Nm} (w:Nm) (hx:cB vs b s=some x) (hd:fj ls b s=some d) (hb:b<vs.length) (hk:k<d.length) {B:Nat} (hB:aP x=some B) :
  CS ((B,.cells ((d.set k w).map AV.str))::h) nx vs (iG ls b s (d.set k w)):=by
 have fl:∀ l:List Nm,(l.map nmE).flatten=l.map AV.str:=fun l=>by
  induction l with
  | nil=>rfl
  | cons a r ih=>simp only [FU,FW,nmE,ih];rfl
 refine ⟨by rw [iW];exact c.len,fun b1 s1 x1 d1 h1 h2=>?_,c.ne⟩
 rw [mH (by rw [← c.len];exact hb)] at h2
 split at h2
 ·rename_i e
  injection h2 with h2
  obtain ⟨rfl,rfl⟩:=e
  rw [hx] at h1;injection h1 with h1;subst h1
  obtain ⟨e1,e2,e3⟩:=(c.own b1 s1 x d hx hd).blk hB
  refine .inr ⟨B,by rw [e1,← h2];simp,by rw [af,if_pos rfl,← h2,fl],e3⟩
 ·rename_i e
  refine (c.own b1 s1 x1 d1 h1 h2).keep (Gp _) fun k1 o q1 q2=>?_
  rw [af,if_neg (fun e2=>e (c.ne b1 s1 b s x1 x B h1 hx (by rw [q1,← e2]) hB))];exact q2
theorem LvS.ext {h h':Heap} {n n':Nat} {v:AV} {ls:List (List Nm × List Nm)} (s:LvS h n v ls) (hn:n≤n') (hk:∀ k o,aq h k=some o→aq h' k=some o):LvS h' n' v ls :=
 let ⟨vs,ov,cs,hd⟩:=s
 ⟨vs,ov.keep hn fun k o _ h2=>hk k o h2,cs.ext hn fun b s x k o _ _ h2=>hk k o h2,hd⟩
def LvN (h:Heap) (n:Nat) (v:AV) (ls:List (List Nm × List Nm)) (H:Heap):Prop:=∃ vs,aR 36 2 h n v (vs.map vpE)∧CS h n vs ls∧(∀ b s x c,cB vs b s=some x→aP x=some c→aP v≠some c)∧∀ b s x c,cB vs b s=some x→aP x=some c→aq H c=none
theorem LvS.up {h' H:Heap} {n:Nat} {v:AV} {ls:List (List Nm × List Nm)} (s:LvS h' n v ls) (hap:∀ c o,aq H c=some o→aq h' c=none):LvN (h'++H) n v ls H:=by
 obtain ⟨vs,ov,cs,hd⟩:=s
 have hk:∀ k o,aq h' k=some o→aq (h'++H) k=some o:=fun k o h1=>by rw [bG,h1];rfl
 refine ⟨vs,ov.keep (Gp _) fun k o _ h2=>hk k o h2,cs.ext (Gp _) fun b s x k o _ _ h2=>hk k o h2,hd,fun b s x c h1 h2=>?_⟩
 obtain ⟨d,hd2⟩:=fw cs.len h1
 have hb:=((cs.own b s x d h1 hd2).blk h2).2.1
 cases hq:aq H c with
 | none=>rfl
 | some o=>rw [hap c o hq] at hb;cases hb
theorem iR {h' H:Heap} (hap:∀ c o,aq H c=some o→aq h' c=none) {k:Nat} {o:AO} (h:aq H k=some o):aq (h'++H) k=some o:=by
 rw [bG,hap k o h,h];rfl
theorem LvN.ext {h h' H:Heap} {n n':Nat} {v:AV} {ls:List (List Nm × List Nm)} (s:LvN h n v ls H) (hn:n≤n') (hk:∀ k o,aq h k=some o→aq h' k=some o):LvN h' n' v ls H :=
 let ⟨vs,ov,cs,hd,hx⟩:=s
 ⟨vs,ov.keep hn fun k o _ h2=>hk k o h2,cs.ext hn fun b s x k o _ _ h2=>hk k o h2,hd,hx⟩
theorem LvN.s {h H:Heap} {n:Nat} {v:AV} {ls:List (List Nm × List Nm)} (s:LvN h n v ls H):LvS h n v ls:=let ⟨vs,ov,cs,hd,_⟩:=s;⟨vs,ov,cs,hd⟩
theorem w3 (P:Pi) (f:Int) (hz:szI P≤4000000) (hk:kdI P):Pure Tryz.prog 3 [.agg (piE P),.int .i64 f] (.bool true):=by
 refine Pure.of fun nx=>AC.go aI is3 (by simp) ?_
 have w5':=w5 P hz
 unfold piE at w5' ⊢
 simp -implicitDefEqProofs only [RA,ae,zp,↓reduceIte,reduceCtorEq,zq,zr,zs,zt,↓aA,↓az,↓au,↓ar,↓ay,↓aw,↓ak,↓aj,↓aC,↓aB,↓aE,↓aD,unA,ne_eq,not_true_eq_false,not_false_eq_true,A3,A3p]
 refine w5'.use fun k1 hk1=>?_
 cases hg:grI P
 case true =>
  simp -implicitDefEqProofs only [RA,ae,zp,↓reduceIte,reduceCtorEq,zq,zr,zs,zt,↓aA,↓az,↓au,↓ar,↓ay,↓aw,↓ak,↓aj,↓aC,↓aB,↓aE,↓aD,unA,ne_eq,not_true_eq_false,not_false_eq_true,R3]
 have ho:=Dq hg hk
 have w6':=w6 P ho
 have w7':=fun nx=>w7 P f ho nx
 have w8':=fun nx=>w8 P f ho nx
 have w10':=w10 P ho.1 ho.2
 have hlb:=s4 P f
 unfold piE at w6' w7' w8'
 simp -implicitDefEqProofs only [RA,ae,zp,↓reduceIte,reduceCtorEq,zq,zr,zs,zt,↓aA,↓az,↓au,↓ar,↓ay,↓aw,↓ak,↓aj,↓aC,↓aB,↓aE,↓aD,unA,ne_eq,not_true_eq_false,not_false_eq_true]
 refine w6'.use fun k2 hk2=>?_
 have a1:(k2=nx)=False:=eq_false (by omega)
 simp -implicitDefEqProofs only [RA,ae,zp,↓reduceIte,reduceCtorEq,zq,zr,zs,zt,↓aA,↓az,↓au,↓ar,↓ay,↓aw,↓ak,↓aj,↓aC,↓aB,↓aE,↓aD,unA,ne_eq,not_true_eq_false,not_false_eq_true,a1]
 obtain ⟨H0,hH0⟩:∃ H,H=[(k2,AO.cells [bM P]),(k2,.cells [.nilS]),(nx,.cells [bM P])]:=⟨_,rfl⟩
 have b1:aq H0 nx=some (.cells [bM P]):=by rw [hH0,af,if_neg (by omega),af,if_neg (by omega),af,if_pos rfl]
 have b2:aq H0 k2=some (.cells [bM P]):=by rw [hH0,af,if_pos rfl]
 rw [← hH0]
 refine ((w7' _).frame H0).mono ?_
 rintro y hh1 n1 ⟨h1,rfl,hn1,ap1,v,rfl,s1⟩
 have S1:=s1.up ap1
 have c1:=iR ap1 b1
 have c2:=iR ap1 b2
 simp -implicitDefEqProofs only [RA,ae,zp,↓reduceIte,reduceCtorEq,zq,zr,zs,zt,↓aA,↓az,↓au,↓ar,↓ay,↓aw,↓ak,↓aj,↓aC,↓aB,↓aE,↓aD,unA,ne_eq,not_true_eq_false,not_false_eq_true,c1,c2]
 refine ((w8' _).frame (h1++H0)).mono ?_
 rintro y hh2 n2 ⟨h2,rfl,hn2,ap2,v',rfl,s2⟩
 have S1':=S1.ext (n':=n2) hn2 fun k o h=>iR ap2 h
 have S2:=(s2.up ap2).s
 have e1:=iR ap2 c1
 have e2:=iR ap2 c2
 clear S1 s1 s2 c1 c2
 generalize h2++(h1++H0)=H2 at *
 simp -implicitDefEqProofs only [RA,ae,zp,↓reduceIte,reduceCtorEq,zq,zr,zs,zt,↓aA,↓az,↓au,↓ar,↓ay,↓aw,↓ak,↓aj,↓aC,↓aB,↓aE,↓aD,unA,ne_eq,not_true_eq_false,not_false_eq_true,e1,e2]
 refine (sK S1'.s S2 hlb.1 hlb.2).mono ?_
 rintro y h3 n3 ⟨rfl,rfl,hn3⟩
 simp -implicitDefEqProofs only [RA,ae,zp,↓reduceIte,reduceCtorEq,zq,zr,zs,zt,↓aA,↓az,↓au,↓ar,↓ay,↓aw,↓ak,↓aj,↓aC,↓aB,↓aE,↓aD,unA,ne_eq,not_true_eq_false,not_false_eq_true,e1,e2]
 obtain ⟨vs,ov,cs,hd,hx⟩:=S1'.ext hn3 fun _ _ h=>h
 clear S1' S2 w5' w6' w7' w8' ap1 ap2
 have lv:eN v=some vs.length:=by have:=ov.len;rwa [Fw] at this
 have hvl:vs.length≤4000000:=by rw [cs.len];exact hlb.1
 have hnb:∀ b s x c,cB vs b s=some x→aP x=some c→c≠nx∧c≠k2:=fun b s x c q1 q2=>⟨(fun e=>by have h:=hx b s x c q1 q2;rw [e,b1] at h;cases h),(fun e=>by have h:=hx b s x c q1 q2;rw [e,b2] at h;cases h)⟩
 refine aJ (fun q st=>∃ (i:Nat) (ls:List (List Nm × List Nm)),q=vs.length-i∧i≤vs.length∧ah st.env 2=some (.op nx 0)∧ah st.env 5=some (.op k2 0)∧ah st.env 6=some v∧ah st.env 10=some (.bool true)∧ah st.env 11=some (.int .i64 i)∧aR 36 2 st.heap st.nx v (vs.map vpE)∧CS st.heap st.nx vs ls∧(∀ x∈ls,x.1.length≤4000000) ∧
   aq st.heap nx=some (.cells [bM P])∧aq st.heap k2=some (.cells [bM P])∧st.dm=[]) (n:=vs.length) aI
  ⟨0,_,rfl,by omega,by simp [ah],by simp [ah],by simp [ah],by simp [ah],by simp [ah],ov,cs,fun x hx=>(hlb.2 x hx).1,e1,e2,rfl⟩ ?_
 clear ov cs e1 e2
 rintro q ⟨env,heap,nx',dm⟩ ⟨i,ls,rfl,hi,g2,g5,g6,g10,g11,ov,cs,hll,e1,e2,hdm⟩
 simp only at g2 g5 g6 g10 g11 ov cs e1 e2 hdm
 subst hdm
 have f1:=wS (i:=i) (by omega)
 by_cases hc:(i:Int)<(vs.length:Int)
 case neg =>
  unfold piE at w10'
  simp -implicitDefEqProofs only [RA,ae,zp,↓reduceIte,reduceCtorEq,zq,zr,zs,zt,↓aA,↓az,↓au,↓ar,↓ay,↓aw,↓ak,↓aj,↓aC,↓aB,↓aE,↓aD,unA,ne_eq,not_true_eq_false,not_false_eq_true,Cw,xi,g2,g5,g6,g10,g11,lv,hc,e1,e2]
  refine w10'.use fun k hk=>?_
  simp -implicitDefEqProofs only [RA,ae,zp,↓reduceIte,reduceCtorEq,zq,zr,zs,zt,↓aA,↓az,↓au,↓ar,↓ay,↓aw,↓ak,↓aj,↓aC,↓aB,↓aE,↓aD,unA,ne_eq,not_true_eq_false,not_false_eq_true,R3]
 have hin:i<vs.length:=by omega
 obtain ⟨bv,hve,hbv,hbl⟩:∃ bv,v=.os bv 0 36 2 vs.length∧aq heap bv=some (.cells (vsC vs))∧bv<nx':=by
  rcases ov with ⟨_,e⟩|⟨bv,e,h1,h2⟩
  ·have:=congrArg List.length e;simp at this;subst this;simp at hin
  ·exact ⟨bv,by rw [e,Fw],h1,h2⟩
 have hp:=Fo hin
 generalize vs[i]=p at hp
 have ix:idxA 2 v (i:Int)=some (.op bv (2*i)):=by rw [hve];exact rC hin
 have a0:=my hp
 have hsl:cB vs i false=some p.1:=nX hp
 obtain ⟨d0,hd0⟩:=fw cs.len hsl
 have lp:eN p.1=some d0.length:=by have:=(cs.own i false p.1 d0 hsl hd0).len;rwa [Fw] at this
 have hdl:d0.length≤4000000:=by
  unfold fj at hd0
  obtain ⟨r,hr,e⟩:=Ga.1 hd0
  have:=hll r (Fp hr)
  simp at e;rw [← e];exact this
 simp -implicitDefEqProofs only [RA,ae,zp,↓reduceIte,reduceCtorEq,zq,zr,zs,zt,↓aA,↓az,↓au,↓ar,↓ay,↓aw,↓ak,↓aj,↓aC,↓aB,↓aE,↓aD,unA,ne_eq,not_true_eq_false,not_false_eq_true,Cw,xi,g2,g5,g6,g10,g11,lv,hc]
 refine aJ (fun q st=>∃ (k:Nat) (ls:List (List Nm × List Nm)) (d:List Nm),q=d0.length-k∧k≤d0.length∧d.length=d0.length∧fj ls i false=some d∧ah st.env 2=some (.op nx 0)∧ah st.env 5=some (.op k2 0)∧ah st.env 6=some v∧ah st.env 10=some (.bool true)∧ah st.env 11=some (.int .i64 i)∧ah st.env 12=some (.int .i64 k)∧aq st.heap bv=some (.cells (vsC vs))∧CS st.heap st.nx vs ls∧(∀ x∈ls,x.1.length≤4000000) ∧
   aq st.heap nx=some (.cells [bM P])∧aq st.heap k2=some (.cells [bM P])∧st.nx=nx'∧st.dm=[]) (n:=d0.length) aI
  ⟨0,ls,d0,rfl,by omega,rfl,hd0,by simp [ah,g2],by simp [ah,g5],by simp [ah,g6],by simp [ah,g10],by simp [ah,g11],by simp [ah],hbv,cs,hll,e1,e2,rfl,rfl⟩ ?_
 clear g2 g5 g6 g10 g11 ov cs e1 e2 hbv hd0 hll ls
 rintro q ⟨env,heap,nx2,dm⟩ ⟨k,ls,d,rfl,hk,hdl2,hd0,g2,g5,g6,g10,g11,g12,hbv,cs,hll,e1,e2,hnx,hdm⟩
 simp only at g2 g5 g6 g10 g11 g12 hbv cs e1 e2 hnx hdm
 subst hdm hnx
 have f2:=wS (i:=k) (by omega)
 by_cases hck:(k:Int)<(d0.length:Int)
 case neg =>
  simp -implicitDefEqProofs only [RA,ae,zp,↓reduceIte,reduceCtorEq,zq,zr,zs,zt,↓aA,↓az,↓au,↓ar,↓ay,↓aw,↓ak,↓aj,↓aC,↓aB,↓aE,↓aD,unA,ne_eq,not_true_eq_false,not_false_eq_true,Cx,xj,g2,g5,g6,g10,g11,g12,hck,ix,hbv,a0,lp,bE,f1]
  exact ⟨vs.length-(i+1),by omega,i+1,ls,rfl,by omega,rfl,.inr ⟨bv,by rw [hve,Fw],hbv,hbl⟩,cs,hll,e1,e2⟩
 obtain ⟨B,hpe,hB⟩:∃ B,p.1=.os B 0 9 1 d0.length∧aq heap B=some (.cells (d.map AV.str)):=by
  rcases cs.own i false p.1 d hsl hd0 with ⟨_,e⟩|⟨B,e,h1,h2⟩
  ·have:=congrArg List.length e;simp at this;subst this;simp at hdl2;omega
  ·refine ⟨B,by rw [e,Fw,hdl2],?_⟩
   rw [h1]
   congr 2
   clear e h1 hd0 hdl2
   induction d with
   | nil=>rfl
   | cons a r ih=>simp only [FU,FW,nmE,ih];rfl
 have hBb:aP p.1=some B:=by rw [hpe];simp [aP]
 have ib:idxA 1 p.1 (k:Int)=some (.op B k):=by rw [hpe];exact fV (by omega)
 have hput:=kf (f:=AV.str) (l:=d) (i:=k) (by omega) [119,114,105,116,116,101,110]
 have hle:=mU (f:=AV.str) (l:=d) (i:=k) (by omega)
 have CP:=cs.put (k:=k) [119,114,105,116,116,101,110] hsl hd0 hin (by omega) hBb
 obtain ⟨q1,q2⟩:=hnb i false p.1 B hsl hBb
 have q3:B≠bv:=fun e=>hd i false p.1 B hsl hBb (by rw [hve,e];simp [aP])
 have hll2:∀ x∈iG ls i false (d.set k [119,114,105,116,116,101,110]),x.1.length≤4000000:=fun x hx=>by
  unfold iG at hx
  split at hx
  ·rename_i r hr
   rcases List.mem_or_eq_of_mem_set hx with h|h
   ·exact hll x h
   ·subst h;simp;omega
  ·exact hll x hx
 have hls2:fj (iG ls i false (d.set k [119,114,105,116,116,101,110])) i false=some (d.set k [119,114,105,116,116,101,110]):=by
  rw [mH (by rw [← cs.len];exact hin),if_pos ⟨rfl,rfl⟩]
 have m1:aq ((B,AO.cells ((d.set k [119,114,105,116,116,101,110]).map AV.str))::heap) bv=some (.cells (vsC vs)):=by rw [af,if_neg q3];exact hbv
 have m2:aq ((B,AO.cells ((d.set k [119,114,105,116,116,101,110]).map AV.str))::heap) nx=some (.cells [bM P]):=by rw [af,if_neg q1];exact e1
 have m3:aq ((B,AO.cells ((d.set k [119,114,105,116,116,101,110]).map AV.str))::heap) k2=some (.cells [bM P]):=by rw [af,if_neg q2];exact e2
 rw [← hput] at m1 m2 m3 CP
 simp -implicitDefEqProofs only [RA,ae,zp,↓reduceIte,reduceCtorEq,zq,zr,zs,zt,↓aA,↓az,↓au,↓ar,↓ay,↓aw,↓ak,↓aj,↓aC,↓aB,↓aE,↓aD,unA,ne_eq,not_true_eq_false,not_false_eq_true,Cx,xj,g2,g5,g6,g10,g11,g12,hck,ix,hbv,a0,lp,bE,ib,hB,hle,f2]
 exact ⟨d0.length-(k+1),by omega,k+1,iG ls i false (d.set k [119,114,105,116,116,101,110]),d.set k [119,114,105,116,116,101,110],rfl,by omega,by rw [List.length_set];exact hdl2,hls2,rfl,by rw [if_neg q3],CP,hll2,by rw [if_neg q1];exact e1,by rw [if_neg q2];exact e2⟩
open Go.ChangeShapes Go.WideShapes Go.ChangeAt Go.RowKit
set_option maxRecDepth 100000
theorem ownK:ownKnob Tryz.prog.godebug=none:=by kernel_rfl
theorem yM:laidOutB Tryz.prog=true:=by kernel_rfl
theorem fF {n:Nat} {y:List AV} {t:TypeId} {k:IntKind} (hu:Tryz.prog.underlying t=some (.int k)) (h:AT Tryz.prog n t y):∃ a:Int,y=[.int k a]∧(Lit.int k a).wf=true:=by
 cases n with
 | zero=>exact h.elim
 | succ n =>
  simp only [AT,hu] at h
  exact h
theorem CE {a:Int} (h:(Lit.int .u8 a).wf=true):0≤a∧a<256:=by
 simp [Lit.wf,IntKind.min,IntKind.max,IntKind.signed,IntKind.bits] at h;omega
theorem AF {a:Int} (h:(Lit.int .u64 a).wf=true):0≤a∧a<18446744073709551616:=by
 simp [Lit.wf,IntKind.min,IntKind.max,IntKind.signed,IntKind.bits] at h;omega
theorem jK {n:Nat} {y:List AV} (h:AT Tryz.prog n 9 y):∃ s:Nm,y=[.str s]:=by
 cases n with
 | zero=>exact h.elim
 | succ n =>
  simp only [AT,Tryz.underlying9] at h
  obtain ⟨s,h1,h2⟩:=h
  exact ⟨s,h1⟩
theorem oZ {n:Nat} {y:List AV} {t e:TypeId} {sz:Nat} (hu:Tryz.prog.underlying t=some (.slice e)) (hc:Tryz.prog.cellsOf e=sz) (h:AT Tryz.prog (n+1) t y):∃ es,y=[.lst sz es]∧∀ x∈es,AT Tryz.prog n e x:=by
 simp only [AT,hu] at h
 obtain ⟨es,h1,h2,h3⟩:=h
 rw [hc] at h1
 exact ⟨es,h1,fun x hx=>(h3 x hx).2⟩
theorem mW {α:Type} {f:α→List AV} {p:α→Prop}:∀ (es:List (List AV)),(∀ x∈es,∃ a,x=f a∧p a)→∃ l:List α,es=l.map f∧∀ a∈l,p a
 | [],_=>⟨[],rfl,by simp⟩
 | e::es,h=>by
  obtain ⟨l,hl,hp⟩:=mW es fun x hx=>h x (List.mem_cons_of_mem _ hx)
  obtain ⟨a,ha,hq⟩:=h e List.mem_cons_self
  exact ⟨a::l,by rw [hl,ha];rfl,fun b hb=>by
   rcases List.mem_cons.1 hb with e|e
   ·subst e;exact hq
   ·exact hp b e⟩
theorem mi {n:Nat} {y:List AV} {t e:TypeId} {sz:Nat} {α:Type} {f:α→List AV} {p:α→Prop} (hu:Tryz.prog.underlying t=some (.slice e)) (hc:Tryz.prog.cellsOf e=sz) (hf:∀ (n:Nat) (x:List AV),AT Tryz.prog n e x→∃ a,x=f a∧p a) (h:AT Tryz.prog n t y):∃ l:List α,y=[.lst sz (l.map f)]∧∀ a∈l,p a:=by
 cases n with
 | zero=>exact h.elim
 | succ n =>
  obtain ⟨es,rfl,hes⟩:=oZ hu hc h
  obtain ⟨l,rfl,hp⟩:=mW (f:=f) (p:=p) es fun x hx=>hf n x (hes x hx)
  exact ⟨l,rfl,hp⟩
theorem CW {k w b:Int} {n:Nm} {lo:Int} {l:List Tm} (hk:kdN (.mk k w b n lo l)) (hl:∀ x∈l,kdT x):kdT (.mk k w b n lo l):=by
 intro y hy
 rw [dU] at hy
 rcases List.mem_cons.1 hy with e|e
 ·subst e;exact hk
 ·have key:∀ m:List Tm,(∀ x∈m,kdT x)→y∈bD m→kdN y:=by
   intro m
   induction m with
   | nil=>intro _ h;simp [bD] at h
   | cons a r ih =>
    intro hm h
    rw [bD] at h
    rcases List.mem_append.1 h with e|e
    ·exact hm a (by simp) y e
    ·exact ih (fun x hx=>hm x (List.mem_cons_of_mem _ hx)) e
  exact key l hl e
theorem qc:∀ n:Nat,(∀ y,AT Tryz.prog n 119 y→∃ x:Tm,y=tmE x∧kdT x)∧(∀ y,AT Tryz.prog n 60 y→∃ l:List Tm,y=[bg l]∧∀ x∈l,kdT x)
 | 0=>⟨fun y h=>h.elim,fun y h=>h.elim⟩
 | n+1=>by
  obtain ⟨ih1,ih2⟩:=qc n
  refine ⟨fun y h=>?_,fun y h=>?_⟩
  ·simp only [AT,Tryz.underlying119] at h
   obtain ⟨y1,z1,rfl,h1,y2,z2,rfl,h2,y3,z3,rfl,h3,y4,z4,rfl,h4,y5,z5,rfl,h5,y6,z6,rfl,h6,h7⟩:=h
   subst h7
   obtain ⟨k,rfl,r1⟩:=fF Tryz.underlying5 h1
   obtain ⟨w,rfl,_⟩:=fF Tryz.underlying3 h2
   obtain ⟨b,rfl,r2⟩:=fF Tryz.underlying76 h3
   obtain ⟨nm,rfl⟩:=jK h4
   obtain ⟨o,rfl,_⟩:=fF Tryz.underlying3 h5
   obtain ⟨l,rfl,hl⟩:=ih2 _ h6
   have r1:=CE r1
   have r2:=AF r2
   exact ⟨.mk k w b nm o l,by rw [gI];rfl,CW ⟨r1.1,r1.2,r2.1,r2.2⟩ hl⟩
  ·obtain ⟨es,rfl,hes⟩:=oZ Tryz.underlying60 (show Tryz.prog.cellsOf 119=6 by kernel_rfl) h
   obtain ⟨l,rfl,hl⟩:=mW (f:=tmE) (p:=kdT) es fun x hx=>ih1 x (hes x hx)
   exact ⟨l,rfl,hl⟩
theorem DY (n:Nat) (y:List AV) (h:AT Tryz.prog n 102 y):∃ s:St,y=stE s∧∀ t∈s.terms,kdT t:=by
 cases n with
 | zero=>exact h.elim
 | succ n =>
  simp only [AT,Tryz.underlying102] at h
  obtain ⟨y1,z1,rfl,h1,y2,z2,rfl,h2,y3,z3,rfl,h3,y4,z4,rfl,h4,h5⟩:=h
  subst h5
  obtain ⟨k,rfl,_⟩:=fF Tryz.underlying5 h1
  obtain ⟨v,rfl⟩:=jK h2
  obtain ⟨f,rfl⟩:=jK h3
  obtain ⟨l,rfl,hl⟩:=(qc n).2 _ h4
  exact ⟨⟨k,v,f,l⟩,rfl,hl⟩
theorem BW (n:Nat) (y:List AV) (h:AT Tryz.prog n 3 y):∃ a:Int,y=inE a∧True:=by
 obtain ⟨a,h1,_⟩:=fF Tryz.underlying3 h
 exact ⟨a,h1,trivial⟩
theorem D0 (n:Nat) (y:List AV) (h:AT Tryz.prog n 64 y):∃ b:Bk,y=bkE b∧(∀ s∈b.steps,∀ t∈s.terms,kdT t)∧∀ t∈b.terms,kdT t:=by
 cases n with
 | zero=>exact h.elim
 | succ n =>
  simp only [AT,Tryz.underlying64] at h
  obtain ⟨y1,z1,rfl,h1,y2,z2,rfl,h2,h3⟩:=h
  subst h3
  obtain ⟨ss,rfl,hs⟩:=mi (f:=stE) (p:=fun s=>∀ t∈s.terms,kdT t) Tryz.underlying59 (show Tryz.prog.cellsOf 102=4 by kernel_rfl) DY h1
  cases n with
  | zero=>exact h2.elim
  | succ n =>
   simp only [AT,Tryz.underlying62] at h2
   obtain ⟨x1,w1,rfl,g1,x2,w2,rfl,g2,x3,w3,rfl,g3,x4,w4,rfl,g4,g5⟩:=h2
   subst g5
   obtain ⟨k,rfl,_⟩:=fF Tryz.underlying5 g1
   obtain ⟨f,rfl⟩:=jK g2
   obtain ⟨l,rfl,hl⟩:=(qc n).2 _ g3
   obtain ⟨to,rfl,_⟩:=mi (f:=inE) (p:=fun _=>True) Tryz.underlying44 (show Tryz.prog.cellsOf 3=1 by kernel_rfl) BW g4
   exact ⟨⟨ss,k,f,l,to⟩,rfl,hs,hl⟩
theorem Aa (n:Nat) (y:List AV) (h:AT Tryz.prog n 57 y):∃ v:Pm,y=pmE v∧True:=by
 cases n with
 | zero=>exact h.elim
 | succ n =>
  simp only [AT,Tryz.underlying57] at h
  obtain ⟨y1,z1,rfl,h1,y2,z2,rfl,h2,h3⟩:=h
  subst h3
  obtain ⟨nm,rfl⟩:=jK h1
  obtain ⟨w,rfl,_⟩:=fF Tryz.underlying3 h2
  exact ⟨(nm,w),rfl,trivial⟩
def kdF (f:Fn):Prop:=∀ b∈f.blocks,(∀ s∈b.steps,∀ t∈s.terms,kdT t)∧∀ t∈b.terms,kdT t
theorem DZ (n:Nat) (y:List AV) (h:AT Tryz.prog n 54 y):∃ f:Fn,y=fnE f∧kdF f:=by
 cases n with
 | zero=>exact h.elim
 | succ n =>
  simp only [AT,Tryz.underlying54] at h
  obtain ⟨y1,z1,rfl,h1,y2,z2,rfl,h2,y3,z3,rfl,h3,y4,z4,rfl,h4,y5,z5,rfl,h5,h6⟩:=h
  subst h6
  obtain ⟨nm,rfl⟩:=jK h1
  obtain ⟨ps,rfl,_⟩:=mi (f:=pmE) (p:=fun _=>True) Tryz.underlying51 (show Tryz.prog.cellsOf 57=2 by kernel_rfl) Aa h2
  obtain ⟨r,rfl,_⟩:=fF Tryz.underlying3 h3
  obtain ⟨ls,rfl,_⟩:=mi (f:=pmE) (p:=fun _=>True) Tryz.underlying51 (show Tryz.prog.cellsOf 57=2 by kernel_rfl) Aa h4
  obtain ⟨bs,rfl,hb⟩:=mi (f:=bkE) (p:=fun b=>(∀ s∈b.steps,∀ t∈s.terms,kdT t)∧∀ t∈b.terms,kdT t) Tryz.underlying52 (show Tryz.prog.cellsOf 64=5 by kernel_rfl) D0 h5
  exact ⟨⟨nm,ps,r,ls,bs⟩,rfl,hb⟩
theorem yv {n:Nat} {y:List AV} (h:AT Tryz.prog n 24 y):∃ P:Pi,y=piE P∧kdI P:=by
 cases n with
 | zero=>exact h.elim
 | succ n =>
  simp only [AT,Tryz.underlying24] at h
  obtain ⟨y1,z1,rfl,h1,h2⟩:=h
  subst h2
  obtain ⟨fs,rfl,hf⟩:=mi (f:=fnE) (p:=kdF) Tryz.underlying22 (show Tryz.prog.cellsOf 54=5 by kernel_rfl) DZ h1
  exact ⟨fs,rfl,hf⟩
theorem uL {n:Nat} {x:AV} (h:AT Tryz.prog n 3 [x]):∃ a:Int,x=.int .i64 a:=by
 obtain ⟨a,h1,_⟩:=fF Tryz.underlying3 h
 exact ⟨a,by simpa using h1⟩
mutual
theorem DQ:∀ x:Tm,szT x≤cM (tmE x)
 | .mk k w b n o s=>by
  have:=qb s
  simp only [tmE,szT,cM,avz];omega
theorem qb:∀ l:List Tm,bx l≤fD (pr l)
 | []=>by simp [bx]
 | x::r=>by
  have:=DQ x
  have:=qb r
  simp only [pr,bx,fD];omega
end
theorem r6 (l:List Tm):bx l≤fD (l.map tmE):=by have:=qb l;rwa [kv] at this
theorem ni {α:Type} {f:α→List AV} (h:∀ a,1≤cM (f a)):∀ l:List α,l.length≤fD (l.map f)
 | []=>by simp
 | x::r=>by
  have:=ni h r
  have:=h x
  simp only [FU,List.length_cons,fD];omega
theorem nh {α:Type} {f:α→List AV} {g:α→Nat} (h:∀ a,g a≤cM (f a)):∀ l:List α,bC g l≤fD (l.map f)
 | []=>by simp [bC]
 | x::r=>by
  have:=nh h r
  have:=h x
  simp only [FU,bC,fD];omega
theorem DU (s:St):szS s≤cM (stE s):=by
 have:=r6 s.terms
 simp only [szS,stE,bg,cM,avz];omega
theorem DX (b:Bk):szB b≤cM (bkE b):=by
 have h1:=nh DU b.steps
 have h2:=r6 b.terms
 have h3:=ni (f:=inE) (fun a=>by simp [inE,cM,avz]) b.to
 simp only [szB,iT,bkE,eH,bg,cD,cM,avz];omega
theorem DW (f:Fn):szF f≤cM (fnE f):=by
 have h1:=nh DX f.blocks
 have h2:=ni (f:=pmE) (fun a=>by simp [pmE,cM,avz]) f.params
 have h3:=ni (f:=pmE) (fun a=>by simp [pmE,cM,avz]) f.locals
 simp only [szF,fnE,bp,cp,cM,avz];omega
theorem DV (P:Pi):szI P≤cM (piE P):=by
 have h1:=nh DW P
 simp only [szI,piE,bM,cM,avz];omega
def iX:List (Nm × Int × Int):=[([],0,0),([],0,0),([],0,0),([110,111,116],1,1),([110,101,103],1,1),([97,100,100],2,1),([115,117,98],2,1),([109,117,108],2,1),([97,110,100],2,1),([111,114],2,1),([120,111,114],2,1),([115,104,108],2,1),([115,104,114],2,1),([115,97,114],2,1),([117,100,105,118],2,1),([117,114,101,109],2,1),([101,113],2,2),([117,108,116],2,2),([115,108,116],2,2),([105,116,101],3,3),([99,111,110,99,97,116],2,4),([101,120,116,114,97,99,116],1,5),([122,101,120,116],1,6),([115,101,120,116],1,6),([108,111,97,100],1,7)]
theorem yT:GL 0=some (iX.map fun r=>[AV.str r.1,.int .i64 r.2.1,.int .i64 r.2.2]).flatten:=rfl
theorem tf:(Rows.laid_retarget_term_shapes:DataW Unit)=.agg (iX.map fun r=>.agg [.lit (.string r.1),.lit (.int .i64 r.2.1),.lit (.int .i64 r.2.2)]):=rfl
theorem rP:Tryz.prog.globalNamed "retarget/term.shapes" = some 0:=by kernel_rfl
theorem oI:(Tryz.prog.globals[0]?).map (·.type)=some 166:=by kernel_rfl
theorem BR:Tryz.prog.cellsOf 9=1:=by kernel_rfl
theorem BS:Tryz.prog.cellsOf 3=1:=by kernel_rfl
theorem oU:Tryz.prog.cellsOf 162=3:=by kernel_rfl
section
variable {w:World} {base:Nat} {spare:Nat→Bool} {held:Bool}
theorem sJ {fuel:Nat} {cs:List Value} {a:Nm} {b c:Int} {p:List MemPlace} (h:DataW.trod (fun _=>()) Tryz.prog w base spare held fuel 162 cs=some (.agg [.lit (.string a),.lit (.int .i64 b),.lit (.int .i64 c)],p)) :
  ∃ s:ByteArray,cs=[.string s,.int .i64 b,.int .i64 c]∧s.data.toList=a:=by
 obtain ⟨xs,m,rfl,hx,hl,hn,hf⟩:=DataW.trod_struct Tryz.underlying162 h
 rw [oU] at hl
 obtain ⟨v0,v1,v2,rfl⟩:∃ v0 v1 v2,cs=[v0,v1,v2]:=by
  match cs,hl with
  | [v0,v1,v2],_=>exact ⟨_,_,_,rfl⟩
 simp only [Prod.mk.injEq,DataW.agg.injEq] at hx
 obtain ⟨hx,_⟩:=hx
 have hg:∀ i:Nat,(xs.map (·.1))[i]?=([.lit (.string a),.lit (.int .i64 b),.lit (.int .i64 c)]:List (DataW Unit))[i]?:=fun i=>by rw [← hx]
 have h0:=hf 0 { name := "word",type:=9,offset:=0,embedded:=false,tag := "",pkgPath := "retarget/term",byteOffset:=0 } rfl
 have h1:=hf 1 { name := "parts",type:=3,offset:=1,embedded:=false,tag := "",pkgPath := "retarget/term",byteOffset:=16 } rfl
 have h2:=hf 2 { name := "how",type:=3,offset:=2,embedded:=false,tag := "",pkgPath := "retarget/term",byteOffset:=24 } rfl
 dsimp only at h0 h1 h2
 rw [BR] at h0
 rw [BS] at h1 h2
 simp only [List.drop_zero,List.take_succ_cons,List.take_zero,List.drop_succ_cons] at h0 h1 h2
 have g0:=hg 0
 have g1:=hg 1
 have g2:=hg 2
 rw [FR] at g0 g1 g2
 cases e0:xs[0]? with
 | none=>rw [e0] at g0;cases g0
 | some x0 =>
 cases e1:xs[1]? with
 | none=>rw [e1] at g1;cases g1
 | some x1 =>
 cases e2:xs[2]? with
 | none=>rw [e2] at g2;cases g2
 | some x2 =>
 rw [e0] at h0 g0
 rw [e1] at h1 g1
 rw [e2] at h2 g2
 obtain ⟨s,q0,r0,_⟩:=DataW.trod_string Tryz.underlying9 h0
 obtain ⟨n1,q1,r1,_⟩:=DataW.trod_int Tryz.underlying3 h1
 obtain ⟨n2,q2,r2,_⟩:=DataW.trod_int Tryz.underlying3 h2
 subst r0;subst r1;subst r2
 simp at g0 g1 g2 q0 q1 q2
 subst g1;subst g2;subst q0;subst q1;subst q2
 exact ⟨s,rfl,g0⟩
theorem uC {fuel:Nat} {cs:List Value} {p:List MemPlace} (h:DataW.trod (fun _=>()) Tryz.prog w base spare held fuel 166 cs=some (Rows.laid_retarget_term_shapes,p)) {i:Nat} {r:Nm × Int × Int} (hr:iX[i]?=some r) :
  ∃ s:ByteArray,(cs.drop (i*3)).take 3=[.string s,.int .i64 r.2.1,.int .i64 r.2.2]∧s.data.toList=r.1:=by
 obtain ⟨xs,m,rfl,hx,hl,hn,hf⟩:=DataW.trod_array Tryz.underlying166 h
 rw [tf] at hx
 simp only [Prod.mk.injEq,DataW.agg.injEq] at hx
 obtain ⟨hx,_⟩:=hx
 have hi:i<25:=by
  have:=(Fq.1 hr).1
  exact this
 have hg:(xs.map (·.1))[i]?=some (.agg [.lit (.string r.1),.lit (.int .i64 r.2.1),.lit (.int .i64 r.2.2)]):=by rw [← hx,FR,hr];rfl
 rw [FR] at hg
 have h1:=hf i hi
 rw [oU] at h1
 cases e:xs[i]? with
 | none=>rw [e] at hg;cases hg
 | some x =>
  rw [e] at hg h1
  obtain ⟨d,ps⟩:=x
  simp only [Option.map_some,Option.some.injEq] at hg
  subst hg
  exact sJ h1
end
theorem yL {W:World} {laid:List (String × DataW Unit)} (hlaid:laid=[("retarget/term.shapes",Rows.laid_retarget_term_shapes)]) (h:laidMet Tryz.prog laid W):GlR (wd0 W) 0:=by
 subst hlaid
 obtain ⟨ps,⟨g',t',cs,fuel,p,q,hg',ht',hvar,hd,_,_⟩,_⟩:=h
 obtain rfl:=Option.some.inj (rP.symm.trans hg')
 obtain rfl:=Option.some.inj (oI.symm.trans ht')
 intro g gcs hgl
 have hg0:g=0:=by
  unfold GL at hgl
  split at hgl
  ·assumption
  ·cases hgl
 subst hg0
 rw [yT] at hgl
 simp only [Option.some.injEq] at hgl
 subst hgl
 have hall:∀ z∈iX.map fun r=>[AV.str r.1,.int .i64 r.2.1,.int .i64 r.2.2],z.length=3:=fun z hz=>by
  obtain ⟨r,_,rfl⟩:=Fy.1 hz;rfl
 have hlen:(iX.map fun r=>[AV.str r.1,.int .i64 r.2.1,.int .i64 r.2.2]).flatten.length=75:=rfl
 have key:∀ j,j<75→∃ (r:Nm × Int × Int) (s:ByteArray) (v:Value) (x:AV),iX[j / 3]?=some r∧s.data.toList=r.1∧cs[j]?=some v∧([.string s,.int .i64 r.2.1,.int .i64 r.2.2]:List Value)[j % 3]?=some v∧([AV.str r.1,.int .i64 r.2.1,.int .i64 r.2.2])[j % 3]?=some x∧(iX.map fun r=>[AV.str r.1,.int .i64 r.2.1,.int .i64 r.2.2]).flatten[j]?=some x:=by
  intro j hj
  have hjl:j / 3<iX.length:=by show j / 3<25;omega
  obtain ⟨r,hr⟩:∃ r,iX[j / 3]?=some r:=⟨_,Fo hjl⟩
  obtain ⟨s,h1,h2⟩:=uC hd hr
  have hm:j % 3<3:=Nat.mod_lt _ (by omega)
  have hj3:j / 3*3+j % 3=j:=by omega
  have hv:(cs.toList)[j]?=([.string s,.int .i64 r.2.1,.int .i64 r.2.2]:List Value)[j % 3]?:=by
   rw [← h1,List.getElem?_take,if_pos hm,List.getElem?_drop,hj3]
  have e1:=Fo (l:=([.string s,.int .i64 r.2.1,.int .i64 r.2.2]:List Value)) (show j % 3<3 from hm)
  have e2:=Fo (l:=[AV.str r.1,.int .i64 r.2.1,.int .i64 r.2.2]) (show j % 3<3 from hm)
  refine ⟨r,s,_,_,hr,h2,?_,e1,e2,?_⟩
  ·rw [← e1,← hv];simp
  ·have:=fB hall (j / 3) _ (by rw [FR,hr];rfl) (j % 3) _ e2
   rwa [hj3] at this
 refine .fp _ _ (fun j=>cs[j]?.getD undef) (fun j x hx=>?_) (fun k hk=>?_) (fun j x hx=>?_)
 ·have hj:j<75:=by rw [← hlen];exact (Fq.1 hx).1
  obtain ⟨r,s,v,y,h1,h2,h3,h4,h5,h6⟩:=key j hj
  rw [h6] at hx
  cases hx
  match hq:j % 3,h5 with
  | 0,h5=>simp at h5;subst h5;rfl
  | 1,h5=>simp at h5;subst h5;rfl
  | 2,h5=>simp at h5;subst h5;rfl
  | k+3,h5=>omega
 ·rw [hlen] at hk
  obtain ⟨r,s,v,y,h1,h2,h3,h4,h5,h6⟩:=key k hk
  have hc:=World.var?_cell rP hvar k
  rw [h3] at hc
  have hc2:(wd0 W).w.cell? ((⟨0,0,none⟩:Addr).add k)=some v:=by rw [cN,Nat.zero_add];exact hc
  exact ⟨by rw [h3];exact hc2,Old.wd0 W _ _ (na hc2)⟩
 ·have hj:j<75:=by rw [← hlen];exact (Fq.1 hx).1
  obtain ⟨r,s,v,y,h1,h2,h3,h4,h5,h6⟩:=key j hj
  rw [h6] at hx
  cases hx
  rw [h3]
  match hq:j % 3,h4,h5 with
  | 0,h4,h5=>simp at h4 h5;subst h4;subst h5;exact .str _ _ h2
  | 1,h4,h5=>simp at h4 h5;subst h4;subst h5;exact .int _ _
  | 2,h4,h5=>simp at h4 h5;subst h4;subst h5;exact .int _ _
  | k+3,h4,h5=>omega
end Go.Proofs.YtkhjclmfbmfahaaGreatDoor
