/- Copies of blocks. -/
import Derived.Test.YtkhjclmfbmfahaaDoorGN
import Derived.Test.YtkhjclmfbmfahaaDoorRows
namespace Go.Proofs.YtkhjclmfbmfahaaDoor
open List renaming getElem?_eq_getElem → D9, mem_of_getElem? → Ea, getElem?_eq_some_iff → Eb, length_map → Eg, all_eq_true → Ej, getElem?_map → Ez
open Option renaming map_some → EQ
open Bool renaming and_eq_true → EU
set_option maxHeartbeats 64000000
open Go Go.Ab Go.Proofs
open Nat renaming reduceEqDiff → zp, reduceAdd → zq, reduceLeDiff → zr, reduceLT → zs, reduceBEq → zt
set_option linter.unusedVariables false
set_option linter.unusedSimpArgs false
set_option maxRecDepth 20000
def kdN (x:Tm):Prop:=0≤x.kind∧x.kind<256∧0≤x.bits∧x.bits<18446744073709551616
def kdT (t:Tm):Prop:=∀ x∈ndT t,kdN x
def kdI (P:Pi):Prop:=∀ f∈P,∀ b∈f.blocks,(∀ s∈b.steps,∀ t∈s.terms,kdT t)∧∀ t∈b.terms,kdT t
theorem Ae {p:Tm→Prop} (hs:∀ x,p x→∀ y∈x.sub,p y):∀ (N:Nat) (x:Tm),szT x≤N→p x→∀ y∈ndT x,p y:=by
 intro N
 induction N with
 | zero=>intro x h;have:=bW x;omega
 | succ N ih =>
  intro x h hp y hy
  rw [eY] at hy
  rcases List.mem_cons.1 hy with e|e
  ·subst e;exact hp
  ·have key:∀ l:List Tm,(∀ z∈l,z∈x.sub)→y∈bP l→p y:=by
    intro l
    induction l with
    | nil=>intro _ h;simp [bP] at h
    | cons a r ihr =>
     intro hz hy
     rw [bP] at hy
     rcases List.mem_append.1 hy with e|e
     ·have ha:=hz a (by simp)
      have:=cp ha
      have:=bW x
      exact ih a (by omega) (hs x hp a ha) y e
     ·exact ihr (fun z hz'=>hz z (List.mem_cons_of_mem _ hz')) e
   exact key x.sub (fun _ h=>h) e
theorem Aj {x:Tm} (h:grT x=false) (hk:kdT x):szT x≤4000000∧okT x:=by
 obtain ⟨h1,h2,h3⟩:=Ak h
 refine ⟨by omega,fun y hy=>?_⟩
 have:=Ae (p:=fun x=>kd x=false∧szT x≤500) (fun x hx y hy=>by
  obtain ⟨k,w,b,n,lo,s⟩:=x
  simp only [kd,Bool.or_eq_false_iff] at hx
  simp only [Tm.sub] at hy
  rw [jJ] at hx
  have:=cp hy
  have:=bW (.mk k w b n lo s)
  simp only [Tm.sub] at this
  exact ⟨jO hx.1.1 hy,by omega⟩) _ x (Nat.le_refl _) ⟨h3,h1⟩ y hy
 obtain ⟨k1,k2,k3,k4⟩:=hk y hy
 obtain ⟨k,w,b,n,lo,s⟩:=y
 simp only [kd,Bool.or_eq_false_iff,decide_eq_false_iff_not] at this
 have e1:=bW (.mk k w b n lo s)
 have e2:=cq s
 simp only [Tm.sub] at e1
 exact ⟨k1,k2,k3,k4,by simp only [Tm.name];omega,by simp only [Tm.sub];omega⟩
theorem rH {l:List Tm} (h:oG l=false) (hk:∀ t∈l,kdT t):mJ l:=by
 simp only [oG,Bool.or_eq_false_iff,decide_eq_false_iff_not] at h
 exact ⟨by omega,fun x hx=>Aj (jO h.2 hx) (hk x hx)⟩
theorem B9 {P:Pi} (h:grI P=false) (hk:kdI P):ka P:=by
 simp only [grI,Bool.or_eq_false_iff,decide_eq_false_iff_not] at h
 obtain ⟨h1,h2,h3⟩:=h
 refine ⟨by omega,fun f hf=>?_⟩
 have hg:=jO h2 hf
 simp only [grF,Bool.or_eq_false_iff,decide_eq_false_iff_not] at hg
 obtain ⟨g1,g2,g3,g4,g5,g6⟩:=hg
 refine ⟨by omega,by omega,by omega,fun p hp=>?_,by omega,fun b hb=>?_⟩
 ·have:=jO g5 hp
  simp only [grV,decide_eq_false_iff_not] at this
  omega
 ·have hb':=jO g6 hb
  simp only [grB,Bool.or_eq_false_iff,decide_eq_false_iff_not] at hb'
  obtain ⟨b1,b2,b3,b4,b5⟩:=hb'
  obtain ⟨k1,k2⟩:=hk f hf b hb
  refine ⟨by omega,fun s hs=>?_,rH b3 k2,by omega⟩
  have hs':=jO b5 hs
  simp only [grS,Bool.or_eq_false_iff] at hs'
  exact rH hs'.1 (k1 s hs)
theorem Ay {P:Pi} {f:Int} (h:chE P f=0) {g:Fn} (hg:P[f.toNat]?=some g):GdF P g:=by
 obtain ⟨e0,_⟩:=mW h
 exact (rS e0).2.2.2 g (Ea hg)
end Go.Proofs.YtkhjclmfbmfahaaDoor
namespace Go.Ab
open List renaming getElem?_eq_getElem → D9, mem_of_getElem? → Ea, getElem?_eq_some_iff → Eb, length_map → Eg, all_eq_true → Ej, getElem?_map → Ez
open Option renaming map_some → EQ
open Bool renaming and_eq_true → EU
set_option maxHeartbeats 64000000
open Go.RowKit Go.ChangeShapes Go.Proofs.YtkhjclmfbmfahaaDoor.Rows
set_option linter.unusedVariables false
set_option linter.unusedSimpArgs false
mutual
def avz:AV→Nat
 | .str s=>s.length+1
 | .lst _ es=>fG es+1
 | .agg cs=>cF cs+1
 | .tup cs=>cF cs+1
 | .fp cs=>cF cs+1
 | _=>1
def cF:List AV→Nat
 | []=>0
 | x::r=>avz x+cF r
def fG:List (List AV)→Nat
 | []=>0
 | x::r=>cF x+fG r
end
theorem oX:∀ a b:List AV,cF (a++b)=cF a+cF b
 | [],b=>by simp [cF]
 | x::a,b=>by simp only [List.cons_append,cF,oX a b];omega
theorem oT {H:Type}:∀ (es:List (List AV)) (ps:List (DataW H)),es.length=ps.length→(∀ (i:Nat) x d,es[i]?=some x→ps[i]?=some d→cF x≤uptoBulk d)→fG es≤uptoBulkAll ps
 | [],_,_,_=>by simp [fG]
 | x::es,[],h,_=>by simp at h
 | x::es,d::ps,h,hb=>by
  have h1:=hb 0 x d rfl rfl
  have h2:=oT es ps (by simpa using h) fun i y e hy he=>hb (i+1) y e (by simpa using hy) (by simpa using he)
  simp only [fG,uptoBulkAll];omega
section
variable {H:Type} {enc:TypeId × Value→H} {P:Program} {K:Wd} {base:Nat} {spare:Nat→Bool} {held:Bool}
theorem ru {S:List TypeId} (hS:okS P S=true) (hK:Old K):∀ (fuel:Nat) (t:TypeId) (cs:List Value) (x:DataW H × List MemPlace),t∈S→DataW.trod enc P K.w base spare held fuel t cs=some x →
  ∃ xs,AT P fuel t xs∧CR K 0 xs cs∧cF xs≤uptoBulk x.1:=by
 intro fuel
 induction fuel with
 | zero=>intro t cs x _ h;simp [DataW.trod] at h
 | succ n ih =>
  intro t cs x ht h
  have hok:=Ej.1 hS t ht
  have fields:∀ (ts:List (TypeId × Nat)) (ps:List (DataW H × List MemPlace)) (cs:List Value) (o:Nat),(∀ q∈ts,q.1∈S∧q.2=P.cellsOf q.1)→ps.length=ts.length→cs.length=o+(ts.map (·.2)).sum →
    (∀ i q,ts[i]?=some q→DataW.trod enc P K.w base spare held n q.1 ((cs.drop (o+((ts.take i).map (·.2)).sum)).take q.2)=ps[i]?)→∃ xs,ATl (AT P n) (ts.map (·.1)) xs∧CR K 0 xs (cs.drop o)∧cF xs≤uptoBulkAll (ps.map (·.1)):=by
   intro ts
   induction ts with
   | nil =>
    intro ps cs o _ _ hl _
    refine ⟨[],rfl,?_,by simp [cF]⟩
    rw [List.drop_of_length_le (by simp at hl;omega)];exact .nil _ _
   | cons q ts ihs =>
    intro ps cs o hq hu hl hf
    match ps,hu with
    | y::ps,hu =>
    have hy:=hf 0 q rfl
    simp only [List.take_zero,List.map_nil,List.sum_nil,Nat.add_zero,List.getElem?_cons_zero] at hy
    obtain ⟨ys,h1,h2,h2b⟩:=ih _ _ _ (hq q List.mem_cons_self).1 hy
    obtain ⟨zs,h3,h4,h4b⟩:=ihs ps cs (o+q.2) (fun r hr=>hq r (List.mem_cons_of_mem _ hr)) (by simpa using hu) (by rw [hl];simp;omega) (fun i r hr=>by
     have hy':=hf (i+1) r (by simpa using hr)
     rw [List.getElem?_cons_succ] at hy'
     rw [← hy']
     simp only [List.take_succ_cons,List.map_cons,List.sum_cons,Nat.add_assoc])
    refine ⟨ys++zs,⟨ys,zs,rfl,h1,h3⟩,?_,by rw [oX,List.map_cons,uptoBulkAll];omega⟩
    have:cs.drop o=(cs.drop o).take q.2++cs.drop (o+q.2):=by
     rw [← List.drop_drop,List.take_append_drop]
    rw [this]
    exact h2.append h4
  simp only [AT]
  cases hu:P.underlying t with
  | none=>simp [hu] at hok
  | some d =>
   simp only [hu] at hok
   cases d <;> simp only at hok <;> first|(cases hok;done)|skip
   case bool =>
    obtain ⟨b,rfl,rfl⟩:=DataW.trod_bool hu h
    exact ⟨[.bool b],⟨b,rfl⟩,.single (.bool b) rfl,by simp [cF,avz,uptoBulk]⟩
   case int k =>
    obtain ⟨i,rfl,rfl,hw⟩:=DataW.trod_int hu h
    exact ⟨[.int k i],⟨i,rfl,hw⟩,.single (.int k i) rfl,by simp [cF,avz,uptoBulk]⟩
   case string =>
    obtain ⟨s,rfl,rfl,hw⟩:=DataW.trod_string hu h
    exact ⟨[.str s.data.toList],⟨_,rfl,by simpa using hw⟩,.single (.str _ s rfl) rfl,by simp [cF,avz,uptoBulk]⟩
   case pointer e =>
    have he:e∈S:=by simpa using hok
    rcases DataW.trod_pointer hu h with ⟨rfl,rfl⟩|⟨a,cs',y,m,hm,rfl,rfl,hc,hy⟩
    ·exact ⟨[.nilP],.inl rfl,.single .nilP rfl,by simp [cF,avz,uptoBulk]⟩
    ·obtain rfl:m=n:=by omega
     obtain ⟨ys,h1,h2,h2b⟩:=ih e cs' y he hy
     obtain ⟨h3,h4⟩:=jt hc
     refine ⟨[.fp ys],.inr ⟨ys,rfl,h1⟩,.single (.fp ys a (fun k=>cs'.getD k undef) h2.one (fun k hk=>?_) fun j x hx=>?_) rfl,by simp only [cF,avz,uptoBulk];omega⟩
     ·have hkl:k<cs'.length:=by rw [h2.len];exact hk
      have:=h4 k (by omega)
      rw [D9 hkl] at this
      refine ⟨by simp only [this,List.getD_eq_getElem?_getD,D9 hkl,Option.getD_some],hK _ _ ?_⟩
      exact mX this
     ·have hj:=(Eb.1 hx).1
      have hjl:j<cs'.length:=by rw [h2.len];exact hj
      refine h2.at_ j x _ hx ?_
      simp only [List.getD_eq_getElem?_getD,D9 hjl,Option.getD_some]
   case slice e =>
    have he:e∈S:=by simpa using hok
    rcases DataW.trod_slice hu h with ⟨rfl,rfl⟩|⟨a,len,cap,elems,rest,m,hm,rfl,hx,_,hlc,hcap,hlen,hel,_,_⟩
    ·exact ⟨[.lst (P.cellsOf e) []],⟨[],rfl,by simp,fun x hx=>by simp at hx⟩,.single (.lst0 _ _ _ _ _ rfl rfl fun _=>rfl) rfl,by simp [cF,avz,fG,uptoBulk]⟩
    ·obtain rfl:m=n:=by omega
     obtain ⟨es,h1,h2⟩:=jX (α:=List AV) (p:=fun i xs=>AT P m e xs∧∃ cs,K.w.cells? base (a.add (i*P.cellsOf e)) (P.cellsOf e)=some cs∧CR K 0 xs cs∧∀ d,elems[i]?=some d→cF xs≤uptoBulk d.1) len fun i hi=>by
      have h3:=hel i hi
      have hy:elems[i]?=some (elems[i]'(by omega)):=D9 (by omega)
      rw [hy] at h3
      obtain ⟨cs,h4,h5⟩:=Option.bind_eq_some_iff.1 h3
      obtain ⟨xs,h6,h7,h8⟩:=ih e cs _ he h5
      exact ⟨xs,h6,cs,h4,h7,fun d hd=>by rw [hy] at hd;injection hd with hd;subst hd;exact h8⟩
     have hlenE:∀ (i:Nat) (x:List AV),es[i]?=some x→x.length=P.cellsOf e:=fun i x hx=>by
      obtain ⟨_,cs,h4,h5,_⟩:=h2 i x hx
      rw [← h5.len];exact (jt h4).1
     have hbk:fG es≤uptoBulkAll (elems.map (·.1)):=oT es _ (by rw [Eg,hlen,h1]) fun i x d hx hd=>by
      rw [Ez] at hd
      cases hel:elems[i]? with
      | none=>rw [hel] at hd;cases hd
      | some y =>
       rw [hel] at hd;simp only [EQ,Option.some.injEq] at hd;subst hd
       obtain ⟨_,_,_,_,h6⟩:=h2 i x hx
       exact h6 y hel
     refine ⟨[.lst (P.cellsOf e) es],⟨es,rfl,by omega,fun x hx=>?_⟩,.single ?_ rfl,by rw [hx];simp only [cF,avz,uptoBulk];omega⟩
     ·obtain ⟨i,hi⟩:=List.getElem?_of_mem hx
      exact ⟨hlenE i x hi,(h2 i x hi).1⟩
     ·refine .lst _ es a len cap (fun k=>(K.w.cell? (a.add k)).getD undef) h1.symm hlc hcap hlenE (fun i x hx j y hy=>?_) (fun k hk=>?_) fun i x hx j y hy=>?_
      ·obtain ⟨_,cs,h4,h5,_⟩:=h2 i x hx
       exact h5.one j y hy
      ·have hpos:0<P.cellsOf e:=by
        rcases Nat.eq_zero_or_pos (P.cellsOf e) with h|h
        ·rw [h] at hk;simp at hk
        ·exact h
       have hi:k / P.cellsOf e<len:=by rw [Nat.div_lt_iff_lt_mul hpos];exact hk
       have hx:es[k / P.cellsOf e]?=some (es[k / P.cellsOf e]'(by omega)):=D9 (by omega)
       obtain ⟨_,cs,h4,h5,_⟩:=h2 _ _ hx
       obtain ⟨h6,h7⟩:=jt h4
       have hmod:k % P.cellsOf e<P.cellsOf e:=Nat.mod_lt _ hpos
       have h8:=h7 (k % P.cellsOf e) hmod
       rw [D9 (by omega)] at h8
       have h9:=r7 _ _ _ _ _ h8
       rw [Nat.mul_comm,Nat.div_add_mod] at h9
       exact ⟨by rw [h9];rfl,hK _ _ (mX h9)⟩
      ·obtain ⟨_,cs,h4,h5,_⟩:=h2 i x hx
       obtain ⟨h6,h7⟩:=jt h4
       have hj:=(Eb.1 hy).1
       have hjl:j<cs.length:=by rw [h5.len];exact hj
       have h8:=h7 j (by omega)
       rw [D9 hjl] at h8
       have h9:=r7 _ _ _ _ _ h8
       rw [h9]
       exact h5.at_ j y _ hy (D9 hjl)
   case struct fs =>
    simp only [EU,Ej,beq_iff_eq] at hok
    obtain ⟨hmem,htile⟩:=hok
    obtain ⟨ys,m,hm,rfl,hl,hyl,hf⟩:=DataW.trod_struct hu h
    obtain rfl:m=n:=by omega
    have off:∀ (l:List Field) (o r:Nat),nU P o l=some r→r=o+(l.map fun f=>P.cellsOf f.type).sum∧∀ i f,l[i]?=some f→f.offset=o+((l.take i).map fun f=>P.cellsOf f.type).sum:=by
     intro l
     induction l with
     | nil=>intro o r h;simp only [nU,Option.some.injEq] at h;subst h;exact ⟨by simp,fun i f h=>by simp at h⟩
     | cons f l ihl =>
      intro o r h
      simp only [nU] at h
      split at h
      ·rename_i ho
       obtain ⟨h1,h2⟩:=ihl _ _ h
       refine ⟨by rw [h1];simp;omega,fun i g hg=>?_⟩
       cases i with
       | zero=>simp at hg;subst hg;simpa using ho
       | succ i=>rw [h2 i g (by simpa using hg)];simp;omega
      ·cases h
    obtain ⟨h1,h2⟩:=off fs.toList 0 _ htile
    have hmm:∀ (l:List Field),(l.map fun f=>(f.type,P.cellsOf f.type)).map (·.1)=l.map (·.type):=fun l=>by simp
    obtain ⟨xs,h3,h4,h4b⟩:=fields (fs.toList.map fun f=>(f.type,P.cellsOf f.type)) ys cs 0 (fun q hq=>by
      obtain ⟨f,hf,rfl⟩:=List.mem_map.1 hq
      exact ⟨by simpa using hmem f hf,rfl⟩) (by rw [Eg,hyl];simp) (by rw [hl,h1,List.map_map];rfl) (fun i q hq=>by
      rw [Ez] at hq
      cases hfi:fs.toList[i]? with
      | none=>rw [hfi] at hq;cases hq
      | some f =>
       rw [hfi] at hq
       simp only [EQ,Option.some.injEq] at hq;subst hq
       have hfi':fs[i]?=some f:=by simpa using hfi
       have h5:=hf i f hfi'
       rw [← h5,h2 i f hfi,← List.map_take,List.map_map];rfl)
    rw [hmm] at h3
    exact ⟨xs,h3,by simpa using h4,by simp only [uptoBulk];omega⟩
   case array m e =>
    simp only [EU,beq_iff_eq] at hok
    obtain ⟨hmem,hsz⟩:=hok
    obtain ⟨ys,m',hm,rfl,hl,hyl,hf⟩:=DataW.trod_array hu h
    obtain rfl:m'=n:=by omega
    have hsum:∀ k,((List.replicate k (e,P.cellsOf e)).map (·.2)).sum=k*P.cellsOf e:=fun k=>by simp
    obtain ⟨xs,h3,h4,h4b⟩:=fields (List.replicate m (e,P.cellsOf e)) ys cs 0 (fun q hq=>by
      have:q=(e,P.cellsOf e):=(List.mem_replicate.1 hq).2
      subst this
      exact ⟨by simpa using hmem,rfl⟩) (by rw [List.length_replicate];exact hyl) (by rw [hl,hsz,hsum];omega) (fun i q hq=>by
      have hi:i<m:=by have:=(Eb.1 hq).1;simpa using this
      have:q=(e,P.cellsOf e):=(List.mem_replicate.1 (Ea hq)).2
      subst this
      have h5:=hf i hi
      rw [← h5,List.take_replicate,hsum,Nat.min_eq_left (by omega),Nat.zero_add])
    refine ⟨xs,?_,by simpa using h4,by simp only [uptoBulk];omega⟩
    simpa using h3
theorem vK {S:List TypeId} (hS:okS P S=true) {W:World} {t:TypeId} {v:Value} {d:DataW H} {p:List MemPlace} (ht:t∈S) (hone:∀ c,v≠.agg c) (h:DataW.Trod enc P W base spare held t v d p) :
  ∃ n x,AT P n t [x]∧VR (wd0 W) 0 x v∧avz x≤uptoBulk d:=by
 obtain ⟨fuel,hf⟩:=h
 obtain ⟨xs,h1,h2,h3⟩:=ru (K:=wd0 W) hS (Old.wd0 W) fuel t _ _ ht hf
 have hc:v.cells.toList=[v]:=by cases v <;> first|rfl|exact absurd rfl (hone _)
 rw [hc] at h2
 have hl:=h2.len
 match xs,hl with
 | [x],_=>exact ⟨fuel,x,h1,h2.at_ 0 x v rfl rfl,by simpa [cF] using h3⟩
theorem vL {S:List TypeId} (hS:okS P S=true) {W:World} {t:TypeId} {c:Array Value} {d:DataW H} {p:List MemPlace} (ht:t∈S) (h:DataW.Trod enc P W base spare held t (.agg c) d p) :
  ∃ n xs,AT P n t xs∧VR (wd0 W) 0 (.agg xs) (.agg c)∧cF xs≤uptoBulk d:=by
 obtain ⟨fuel,hf⟩:=h
 obtain ⟨xs,h1,h2,h3⟩:=ru (K:=wd0 W) hS (Old.wd0 W) fuel t _ _ ht hf
 exact ⟨fuel,xs,h1,h2.toAgg',h3⟩
end
end Go.Ab
