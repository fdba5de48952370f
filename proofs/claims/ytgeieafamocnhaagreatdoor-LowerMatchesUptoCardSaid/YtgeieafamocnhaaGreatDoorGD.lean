/- Running the steps of a region as far as they can be. -/
import Derived.Test.YtgeieafamocnhaaGreatDoorGC
import Derived.Laws.BitsLemmas
import Derived.Laws.Bits64
import Derived.Laws.BitsAllLaws
import Derived.OpenShut
import Derived.ChangeOld
import Derived.Carry
import Derived.SizedLaws
import Derived.ProofKit
namespace Go.Ab
open List renaming getElem?_eq_getElem → G7, mem_of_getElem? → G8, getElem?_eq_some_iff → G9, length_cons → Hc, length_nil → Hd, getElem?_append → Hi, flatten_cons → HA, set_cons_succ → HG, set_cons_zero → HH
open Bool renaming false_eq_true → HQ
open Nat renaming le_refl → H4, zero_add → H8
set_option maxHeartbeats 64000000
open Go.RowKit
set_option linter.unusedVariables false
set_option linter.unusedSimpArgs false
section
variable {P:Program} {f:FuncId} {xs:List AV} {h:Heap} {nx:Nat} {Q:AE→Heap→Nat→Prop}
theorem AC.sub {Q1:AE→Heap→Nat→Prop} (hc:AC P f xs h nx Q1) (hq:∀ y h' n',nx≤n'→Q1 y h' n'→∃ h'',(∀ b o,af h'' b=some o→af h' b=some o)∧Q y h'' n'):AC P f xs h nx Q:=by
 refine ⟨hc.1,fun w0 K args hg ha=>(hc.2 w0 K args hg ha).mono ?_⟩
 rintro e w' ⟨K',h',nx',y,rfl,hext,hgood,her,hq1⟩
 obtain ⟨h'',h1,h2⟩:=hq y h' nx' hext.le hq1
 exact ⟨K',h'',nx',y,rfl,hext,hgood.weaken (H4 _) h1,her,h2⟩
theorem AC.pre {h0:Heap} (hc:AC P f xs h0 nx Q) (hh:∀ b o,af h0 b=some o→af h b=some o):AC P f xs h nx Q :=
 ⟨hc.1,fun w0 K args hg ha=>hc.2 w0 K args (hg.weaken (H4 _) hh) ha⟩
theorem AC.live (h1:∀ args w,(callFunc f args).run P w=.ok (.enter f args) w) (hc:(∀ b o,af h b=some o→b<nx)→AC P f xs h nx Q):AC P f xs h nx Q :=
 ⟨h1,fun w0 K args hg ha=>(hc fun b o hb=>(hg.live b o hb).1).2 w0 K args hg ha⟩
def Pure (P:Program) (f:FuncId) (xs:List AV) (r:AV):Prop:=∀ h nx,AC P f xs h nx fun y h' n'=>y=.ret r∧h'=h∧nx≤n'
theorem Pure.of {r:AV} (hc:∀ nx,AC P f xs [] nx fun y _ _=>y=.ret r):Pure P f xs r:=fun h nx =>
 (((hc nx).sub (Q:=fun y h' n'=>y=.ret r∧h'=[]) fun y h' n' hle hy=>⟨[],fun b o hb=>by simp [af] at hb,hy,rfl⟩).frame h).sub
  fun y h' n' hle ⟨h1,e,_,_,hy,e1⟩=>⟨h',fun b o hb=>hb,hy,by rw [e,e1];rfl,hle⟩
theorem AC.pure {R:AV→Prop} (hc:AC P f xs [] nx fun y _ _=>∃ r,y=.ret r∧R r) (h:Heap):AC P f xs h nx fun y h' n'=>(∃ r,y=.ret r∧R r)∧h'=h∧nx≤n' :=
 ((hc.sub (Q:=fun y h' n'=>(∃ r,y=.ret r∧R r)∧h'=[]) fun y h' n' hle hy=>⟨[],fun b o hb=>by simp [af] at hb,hy,rfl⟩).frame h).sub
  fun y h' n' hle ⟨h1,e,_,_,hy,e1⟩=>⟨h',fun b o hb=>hb,hy,by rw [e,e1];rfl,hle⟩
end
theorem jk {sz:Nat}:∀ {es:List (List AV)},(∀ e∈es,e.length=sz)→∀ (i:Nat) (e:List AV),es[i]?=some e→∀ (j:Nat) (x:AV),e[j]?=some x→es.flatten[i*sz+j]?=some x
 | [],_,i,e,h,_,_,_=>by simp at h
 | e0::es,hs,i,e,h,j,x,hj=>by
  have h0:=hs e0 List.mem_cons_self
  cases i with
  | zero =>
   simp only [List.getElem?_cons_zero,Option.some.injEq] at h;subst h
   have hjl:j<e0.length:=(G9.1 hj).1
   simp only [Nat.zero_mul,H8,HA]
   rw [Hi,if_pos hjl];exact hj
  | succ i =>
   simp only [List.getElem?_cons_succ] at h
   have:=jk (fun e he=>hs e (List.mem_cons_of_mem _ he)) i e h j x hj
   simp only [HA]
   rw [Hi,if_neg (by rw [h0,Nat.succ_mul];omega)]
   rw [← this];congr 1;rw [h0,Nat.succ_mul];omega
theorem gS {sz:Nat}:∀ {es:List (List AV)},(∀ e∈es,e.length=sz)→es.flatten.length=es.length*sz
 | [],_=>by simp
 | e0::es,hs=>by
  simp only [HA,List.length_append,Hc,hs e0 List.mem_cons_self,gS fun e he=>hs e (List.mem_cons_of_mem _ he),Nat.succ_mul];omega
theorem B6 {w0:World} {K:Wd} {h:Heap} {nx b sz:Nat} {e:TypeId} {es:List (List AV)} {v:Value} (g:Good w0 K h nx) (hb:af h b=some (.cells es.flatten)) (hs:∀ x∈es,x.length=sz) (hv:VR K nx (.os b 0 e sz es.length) v) :
  VR (K.ice1 b) nx (.lst sz es) v:=by
 have he:=Ext.ice1 g hb
 obtain ⟨h1,h2,h3,ob,h4,h5⟩:=g.live b _ hb
 cases hv with
 | os _ _ _ _ _ a n cap hn hlt hc hcap hA hroom =>
  subst hn
  rcases Nat.eq_zero_or_pos cap with h0|h0
  ·have:es=[]:=List.length_eq_zero_iff.1 (by omega)
   exact .lst0 sz es (some a) _ cap this (by rw [this];rfl) (fun h=>by cases h)
  ·have ha:=hA h0;subst ha
   obtain ⟨c,hrow,hsize⟩:=hroom
   rw [hrow] at h4;injection h4 with h4;subst h4
   cases h5 with
   | cells _ _ _ hcs hc1 hcc =>
    have hfl:=gS hs
    rw [hfl] at hcs
    refine .lst sz es _ _ cap (fun k=>c.getD k undef) rfl hc hcap (fun i x hx=>hs x (G8 hx)) (fun i x hx j y hy=>hc1 _ y (jk hs i x hx j y hy)) (fun k hk=>⟨?_,?_⟩) fun i x hx j y hy=>?_
    ·rw [dW]
     show K.w.cell? _=_
     rw [eU hrow]
     have:0+k<c.size:=by omega
     simp [this,Array.getD_eq_getD_getElem?]
     rw [H8] at this
     simp [this]
    ·rw [dW];exact .inr rfl
    ·have hf:=jk hs i x hx j y hy
     have hl:=(G9.1 hf).1
     have hlc:i*sz+j<c.size:=by omega
     refine (hcc _ y _ hf ?_).mono he
     simp [Array.getD_eq_getD_getElem?,hlc]
def Frz (h:Heap) (x:AV) (h':Heap) (x':AV):Prop:=∀ (w0:World) (K:Wd) (nx:Nat) (v:Value),Good w0 K h nx→VR K nx x v→∃ K',K'.w=K.w∧Ext K nx K' nx∧Good w0 K' h' nx∧VR K' nx x' v
theorem Frz.refl (h:Heap) (x:AV):Frz h x h x:=fun w0 K nx v g hv=>⟨K,rfl,Ext.refl _ _,g,hv⟩
theorem Frz.os {h:Heap} {b sz n:Nat} {e:TypeId} {es:List (List AV)} (hb:af h b=some (.cells es.flatten)) (hs:∀ x∈es,x.length=sz) (hn:n=es.length):Frz h (.os b 0 e sz n) (dZ h b) (.lst sz es) :=
 fun w0 K nx v g hv=>by subst hn;exact ⟨K.ice1 b,rfl,Ext.ice1 g hb,g.ice1 hb,B6 g hb hs hv⟩
theorem Frz.nilS (h:Heap) (sz:Nat):Frz h .nilS h (.lst sz []):=fun w0 K nx v g hv=>⟨K,rfl,Ext.refl _ _,g,by cases hv;exact .lst0 _ _ _ _ _ rfl rfl fun _=>rfl⟩
theorem Frz.emp (h:Heap) (sz:Nat):Frz h .emp h (.lst sz []):=fun w0 K nx v g hv=>⟨K,rfl,Ext.refl _ _,g,by cases hv;exact .lst0 _ _ _ _ _ rfl rfl fun _=>rfl⟩
theorem Frz.head {h h':Heap} {x x':AV} {r:List AV} (hf:Frz h x h' x'):Frz h (.tup (x::r)) h' (.tup (x'::r)):=fun w0 K nx v g hv=>by
 cases hv with
 | tup _ c hs hc =>
  have h0:0<c.size:=by simp at hs;omega
  obtain ⟨K',h1,h2,h3,h4⟩:=hf w0 K nx c[0] g (hc 0 x _ rfl (Array.getElem?_eq_getElem h0))
  refine ⟨K',h1,h2,h3,.tup _ c (by simpa using hs) fun i y u hi hu=>?_⟩
  cases i with
  | zero =>
   simp only [List.getElem?_cons_zero,Option.some.injEq] at hi;subst hi
   rw [Array.getElem?_eq_getElem h0] at hu;injection hu with hu;subst hu;exact h4
  | succ i=>exact (hc (i+1) y u (by simpa using hi) hu).mono h2
theorem Frz.tail {h h':Heap} {x:AV} {r r':List AV} (hf:Frz h (.tup r) h' (.tup r')) (hl:r.length=r'.length):Frz h (.tup (x::r)) h' (.tup (x::r')):=fun w0 K nx v g hv=>by
 cases hv with
 | tup _ c hs hc =>
  have hsz:(c.extract 1 c.size).size=r.length:=by simp at hs ⊢;omega
  obtain ⟨K',h1,h2,h3,h4⟩:=hf w0 K nx (.tuple (c.extract 1 c.size)) g (.tup _ _ hsz fun i y u hi hu=>by
   refine hc (i+1) y u (by simpa using hi) ?_
   rw [Array.getElem?_extract] at hu
   split at hu
   ·rw [← hu];congr 1;omega
   ·cases hu)
  refine ⟨K',h1,h2,h3,.tup _ c (by simp at hs ⊢;omega) fun i y u hi hu=>?_⟩
  cases i with
  | zero=>exact (hc 0 y u (by simpa using hi) hu).mono h2
  | succ i =>
   cases h4 with
   | tup _ _ hs' hc' =>
    refine hc' i y u (by simpa using hi) ?_
    rw [Array.getElem?_extract]
    have:=(Array.getElem?_eq_some_iff.1 hu).1
    rw [if_pos (by omega),← hu];congr 1;omega
section
variable {P:Program} {f:FuncId} {xs:List AV} {h:Heap} {nx:Nat} {Q:AE→Heap→Nat→Prop}
theorem AC.frz (hc:AC P f xs h nx fun y h' n'=>match y with
  | .ret x=>∃ h'' x',Frz h' x h'' x'∧Q (.ret x') h'' n'
  | .panic x=>Q (.panic x) h' n'):AC P f xs h nx Q:=by
 refine ⟨hc.1,fun w0 K args hg ha=>(hc.2 w0 K args hg ha).mono ?_⟩
 rintro e w' ⟨K',h',nx',y,rfl,hext,hgood,her,hq⟩
 cases y with
 | ret x =>
  obtain ⟨h'',x',hf,hq⟩:=hq
  cases e <;> simp only [AER] at her <;> first|exact her.elim|skip
  obtain ⟨K2,e1,e2,e3,e4⟩:=hf w0 K' nx' _ hgood her
  exact ⟨K2,h'',nx',.ret x',e1,hext.trans e2,e3,e4,hq⟩
 | panic x=>exact ⟨K',h',nx',.panic x,rfl,hext,hgood,her,hq⟩
end
def Is (P:Program) (own:Nat→Nat→Bool) (f:FuncId) (N:Nat) (ac:ak) (rs:List RV):Prop :=
 ∃ fn,P.funcs[f]?=some fn∧fn.ntmps=N∧(fn.body.bind fun c=>bu P own N c)=some ac∧eB P fn.results.toList=some rs∧∀ args w,(callFunc f args).run P w=.ok (.enter f args) w
def Fin (rs:List RV) (Q:AE→Heap→Nat→Prop) (x:AX) (st:ASt):Prop :=
 vl st.heap st.dm∧match x with
   | .normal=>∃ ys,fO st.env (jt st.heap st.dm) rs=some ys∧Q (.ret (jT ys)) (jt st.heap st.dm) st.nx
   | .ret=>∃ ys,fO st.env (jt st.heap st.dm) rs=some ys∧Q (.ret (jT ys)) (jt st.heap st.dm) st.nx
   | .panic v=>Q (.panic v) (jt st.heap st.dm) st.nx
   | .exit _=>False
theorem AC.is {P:Program} {own:Nat→Nat→Bool} {f:FuncId} {N:Nat} {ac:ak} {rs:List RV} {xs:List AV} {h:Heap} {nx:Nat} {Q:AE→Heap→Nat→Prop} (hi:Is P own f N ac rs) (hl:xs.length≤N)
  (hw:AW P own none N ac (Fin rs Q) { env:=m8 0 xs,heap:=h,nx:=nx }):AC P f xs h nx Q:=by
 obtain ⟨fn,h1,h2,h3,h4,h5⟩:=hi
 obtain ⟨c,hb,hc⟩:=Option.bind_eq_some_iff.1 h3
 exact Af h1 hb h2 h5 hc h4 hl hw
theorem Fin.ret {rs:List RV} {Q:AE→Heap→Nat→Prop} {st:ASt} {ys:List AV} (hd:st.dm=[]) (hy:fO st.env st.heap rs=some ys) (hq:Q (.ret (jT ys)) st.heap st.nx):Fin rs Q .ret st:=by
 unfold Fin
 rw [hd]
 exact ⟨trivial,ys,hy,hq⟩
theorem AW.ice {P:Program} {own:Nat→Nat→Bool} {ro:Option Nat} {N:Nat} {Q:AX→ASt→Prop} {st:ASt} {ac:ak} {t:Tmp} {x x':AV} {h':Heap} (ht:ab st.env t=some x) (hf:Frz st.heap x h' x')
  (h:AW P own ro N ac Q { st with env:=(t,x')::st.env,heap:=h' }):AW P own ro N ac Q st:=by
 intro c hc w0 K a hs
 obtain ⟨v,h1,h2⟩:=hs.env t x ht
 obtain ⟨K',e1,e2,e3,e4⟩:=hf w0 K st.nx v hs.good h2
 have hs':StR w0 N K' { st with env:=(t,x')::st.env,heap:=h' } a:=by
  refine ⟨e3,fun u y hy=>?_,hs.size,by rw [hs.defers];exact (fm e2 hs.dm).symm,hs.dm⟩
  rw [eJ] at hy
  split at hy
  ·rename_i e;subst e
   injection hy with hy;subst hy
   exact ⟨v,h1,e4⟩
  ·obtain ⟨u',h3,h4⟩:=hs.env u y hy
   exact ⟨u',h3,h4.mono e2⟩
 have:=h c hc w0 K' a hs'
 rw [e1] at this
 exact wpIn_mono this fun e a w hp=>hp.of_ext e2
theorem w64 {n:Int} (h0:-9223372036854775808≤n) (h1:n<9223372036854775808):IntKind.i64.wrap n=n:=by rw [IntKind.wrap_i64];omega
theorem wS {i:Nat} (h:i≤4611686018427387904):IntKind.i64.wrap ((i:Int)+1)=((i+1:Nat):Int):=by rw [w64 (by omega) (by omega)];omega
theorem ul {n:Int} (h0:0≤n) (h1:n<18446744073709551616):IntKind.u64.wrap n=n:=by rw [IntKind.wrap_u64];omega
variable (k:IntKind) (a b:Int)
theorem EJ:dM .add (.int k a) (.int k b)=some (.int k (k.wrap (a+b))):=by simp [dM,jH]
theorem EA:dM .sub (.int k a) (.int k b)=some (.int k (k.wrap (a-b))):=by simp [dM,jH]
theorem ED:dM .mul (.int k a) (.int k b)=some (.int k (k.wrap (a*b))):=by simp [dM,jH]
theorem xt (h:b≠0):dM .quo (.int k a) (.int k b)=some (.int k (k.wrap (a.tdiv b))):=by simp [dM,jH,h]
theorem AJ (h:b≠0):dM .rem (.int k a) (.int k b)=some (.int k (a.tmod b)):=by simp [dM,jH,h]
theorem EI:dM .eql (.int k a) (.int k b)=some (.bool (decide (a=b))):=by simp [dM,jH,qI]
theorem EC:dM .neq (.int k a) (.int k b)=some (.bool (!decide (a=b))):=by simp [dM,jH,qI]
theorem EE:dM .lss (.int k a) (.int k b)=some (.bool (decide (a<b))):=by simp [dM,jH,qI]
theorem EF:dM .leq (.int k a) (.int k b)=some (.bool (decide (a≤b))):=by simp [dM,jH,qI]
theorem EG:dM .gtr (.int k a) (.int k b)=some (.bool (decide (b<a))):=by simp [dM,jH,qI]
theorem EH:dM .geq (.int k a) (.int k b)=some (.bool (decide (b≤a))):=by simp [dM,jH,qI]
theorem cj:dM .and (.int k a) (.int k b)=(iD .and k a b).map (.int k):=by simp [dM,jH]
theorem xu:dM .andNot (.int k a) (.int k b)=(iD .andNot k a b).map (.int k):=by simp [dM,jH]
theorem AI (k':IntKind) (h:0≤b):dM .shl (.int k a) (.int k' b)=some (.int k (k.wrap (a*2 ^ (min b.toNat k.bits)))):=by
 have:¬ b<0:=by omega
 simp [dM,shA,this]
theorem EB (k':IntKind) (h:0≤b):dM .shr (.int k a) (.int k' b)=some (.int k (a.fdiv (2 ^ (min b.toNat k.bits)))):=by
 have:¬ b<0:=by omega
 simp [dM,shA,this]
theorem aG (op:BinOp) (x y:List UInt8):dM op (.str x) (.str y)=aU op x y:=rfl
theorem bt1:(true==true)=true:=rfl
theorem bt2:(true==false)=false:=rfl
theorem bt3:(false==true)=false:=rfl
theorem bt4:(false==false)=true:=rfl
theorem wW {sz:Nat} {es:List (List AV)} {n:Nat} {e:List AV} (h:es[n]?=some e):idxA sz (.lst sz es) (n:Int)=some (.fp e):=by simp [idxA,h]
theorem cY {α:Type} {f:α→List AV} {sz:Nat} {l:List α} {n:Nat} {r:α} (h:l[n]?=some r):idxA sz (.lst sz (l.map f)) (n:Int)=some (.fp (f r)):=wW (by simp [h])
theorem B4 (h:Heap) (cs:List AV):bG h (.fp cs)=some cs:=rfl
theorem B1 (h:Heap) (sz:Nat) (ag:Bool) (cs:List AV):cI h sz ag (.fp cs)=aa sz ag cs:=rfl
theorem Du (sz:Nat) (x:AV) (r:List AV):aa sz false (x::r)=some x:=rfl
theorem dP {α:Type} (f:α→List AV) (sz:Nat) (l:List α):dt (.lst sz (l.map f))=some l.length:=by simp [dt]
theorem zn:ofV (.int k a)=some (.int k a):=rfl
theorem eR (s:ByteArray):ofV (.string s)=some (.str s.data.toList):=rfl
theorem wq:ofV (.slice none 0 0)=some .nilS:=rfl
theorem wr:ofV (.pointer none)=some .nilP:=rfl
theorem wu:ofV (.map none)=some .nilM:=rfl
theorem ww:ofV .nilFunc=some .nilF:=rfl
theorem wv:ofV .nilIface=some .nilI:=rfl
theorem wD (c:Bool):ofV (.bool c)=some (.bool c):=rfl
def nxP (args:List Operand) (b:Nat) (st:ASt) (d:Option Tmp) (k:ASt→Prop):Prop :=
 args=[nxM]∧∃ (mb since last ck:Nat) (seen sts:List Nat) (es:List (AV × AV)),af st.heap b=some (.mit mb since seen last)∧af st.heap mb=some (.map es sts ck)∧(∀ s∈sts,s<since)∧since≤last ∧
  ((∀ s∈sts,s∈seen)→k { st with env:=bP d (.tup [.bool false]) st.env }) ∧
  ∀ (i:Nat) (q x:AV) (s:Nat),es[i]?=some (q,x)→sts[i]?=some s→s∉seen→k { st with env:=bP d (.tup [.bool true,q,x]) st.env,heap:=bO st.heap b (.mit mb since (seen++[s]) ck) }
section
variable (P:Program) (own:Nat→Nat→Bool) (ro:Option Nat) (N:Nat)
def wpR (Q:AX→ASt→Prop):List bj→ASt→Prop
 | [],st=>Q .normal st
 | s::r,st=>match bt st.env s.guard with
  | none=>False
  | some c=>(c=true→match s.act with
    | .op ao=>(match aM ao st.env st.heap st.nx with
     | some (.val x,h,n)=>wpR Q r { st with env:=bP s.dst x st.env,heap:=h,nx:=n }
     | some (.skip,h,n)=>wpR Q r { st with env:=dL s.dst st.env,heap:=h,nx:=n }
     | none=>False)
    | .call f args=>(match oev st.env f,dJ st.env args with
     | some (.fn (.func fid) caps),some xs=>AC P fid (xs++caps) st.heap st.nx fun y h' n'=>match y with
      | .ret x=>wpR Q r { st with env:=bP s.dst x st.env,heap:=h',nx:=n' }
      | .panic x=>Q (.panic x) { st with heap:=h',nx:=n' }
     | some (.bm (.func fid) fs caps),some xs=>AC P fid (fs++(xs++caps)) st.heap st.nx fun y h' n'=>match y with
      | .ret x=>wpR Q r { st with env:=bP s.dst x st.env,heap:=h',nx:=n' }
      | .panic x=>Q (.panic x) { st with heap:=h',nx:=n' }
     | some (.yl b),some xs=>AY P b xs st.heap st.nx fun y h' n'=>match y with
      | .ret x=>wpR Q r { st with env:=bP s.dst x st.env,heap:=h',nx:=n' }
      | .panic x=>Q (.panic x) { st with heap:=h',nx:=n' }
     | some (.op b 0),none=>nxP args b st s.dst fun st'=>wpR Q r st'
     | _,_=>False)
    | .callZ _ _=>False) ∧
   (c=false→wpR Q r { st with env:=dL s.dst st.env })
def wpD (Q:AX→ASt→Prop):List aH→da→ASt→Prop
 | [],_,st=>Q .normal st
 | d::r,pd,st=>match bt st.env d.s.guard with
  | none=>False
  | some c=>(c=true→match d.s.act with
    | .op ao=>if ao.quiet=true then (match aM ao st.env st.heap st.nx with
      | some (.val x,_,_)=>wpD Q r pd { st with env:=bP d.s.dst x st.env }
      | _=>False)
     else match ao with
      | .load sz ag o=>(match oev st.env o with
       | some p=>(match cI st.heap sz ag p with
        | some x=>wpD Q r (if p.isFp=true then pd else (d.i,sz,ag,p,x)::pd) { st with env:=bP d.s.dst x st.env }
        | none=>False)
       | none=>False)
      | ao=>(match aM ao st.env st.heap st.nx with
       | some (.val x,h',n')=>bX h' (aC d.late pd)∧wpD Q r (aC d.late pd) { st with env:=bP d.s.dst x st.env,heap:=h',nx:=n' }
       | some (.skip,h',n')=>bX h' (aC d.late pd)∧wpD Q r (aC d.late pd) { st with env:=dL d.s.dst st.env,heap:=h',nx:=n' }
       | none=>False)
    | .call f args=>(match oev st.env f,dJ st.env args with
     | some (.fn (.func fid) caps),some xs=>AC P fid (xs++caps) st.heap st.nx fun y h' n'=>bX h' (aC d.late pd)∧match y with
      | .ret x=>wpD Q r (aC d.late pd) { st with env:=bP d.s.dst x st.env,heap:=h',nx:=n' }
      | .panic x=>Q (.panic x) { env:=[],heap:=h',nx:=n',dm:=st.dm }
     | some (.bm (.func fid) fs caps),some xs=>AC P fid (fs++(xs++caps)) st.heap st.nx fun y h' n'=>bX h' (aC d.late pd)∧match y with
      | .ret x=>wpD Q r (aC d.late pd) { st with env:=bP d.s.dst x st.env,heap:=h',nx:=n' }
      | .panic x=>Q (.panic x) { env:=[],heap:=h',nx:=n',dm:=st.dm }
     | _,_=>False)
    | .callZ f args=>(match oev st.env f,dJ st.env args with
     | some (.fn (.func fid) caps),some xs=>AC P fid (xs++caps) [] st.nx fun y h' n'=>(∀ c o,af st.heap c=some o→af h' c=none)→bX (h'++st.heap) (aC d.late pd)∧match y with
      | .ret x=>wpD Q r (aC d.late pd) { st with env:=bP d.s.dst x st.env,heap:=h'++st.heap,nx:=n' }
      | .panic x=>Q (.panic x) { env:=[],heap:=h'++st.heap,nx:=n',dm:=st.dm }
     | _,_=>False)) ∧
   (c=false→wpD Q r pd { st with env:=dL d.s.dst st.env })
def wpA:ak→(AX→ASt→Prop)→ASt→Prop
 | .skip,Q,st=>Q .normal st
 | .label,Q,st=>Q .normal st
 | .exit i,Q,st=>Q (.exit i) st
 | .ret,Q,st=>Q .ret st
 | .region ss,Q,st=>wpR P Q ss st
 | .dregion L,Q,st=>wpD P Q L [] st
 | .seq a b,Q,st=>wpA a (AX.then (fun s=>wpA b Q s) Q) st
 | .cond o a b,Q,st=>(match oev st.env o with
  | some (.bool c)=>(c=true→wpA a Q st)∧(c=false→wpA b Q st)
  | _=>False)
 | .block i b,Q,st=>wpA b (AX.inBlock i Q) st
 | .loop b,Q,st=>AW P own ro N (.loop b) Q st
 | .rangeF g ps a b,Q,st=>AW P own ro N (.rangeF g ps a b) Q st
end
section
variable {P:Program} {own:Nat→Nat→Bool} {ro:Option Nat} {N:Nat}
theorem iz {own:Nat→Bool} {Q:AX→ASt→Prop}:∀ (ss:List bj) (st:ASt),wpR P Q ss st→AWs P own ro N ss Q st
 | [],st,h=>Aa h
 | s::r,st,h=>by
  unfold wpR at h
  split at h
  ·exact h.elim
  ·rename_i c hg
   cases c with
   | false=>exact xJ hg (iz r _ (h.2 rfl))
   | true =>
    have h:=h.1 rfl
    obtain ⟨d,g,act⟩:=s
    cases act with
    | op ao =>
     simp only at h hg
     split at h
     ·rename_i hev;exact z8 hg hev (iz r _ h)
     ·rename_i hev;exact z9 hg hev (iz r _ h)
     ·exact h.elim
    | call f args =>
     simp only at h hg
     split at h
     ·rename_i hf hx
      refine xL hg hf hx (h.mono fun y h' n' hy=>?_)
      cases y with
      | ret x=>exact iz r _ hy
      | panic x=>exact hy
     ·rename_i hf hx
      refine vA hg hf hx (h.mono fun y h' n' hy=>?_)
      cases y with
      | ret x=>exact iz r _ hy
      | panic x=>exact hy
     ·rename_i hf hx
      refine vz hg hf hx (h.mono fun y h' n' hy=>?_)
      cases y with
      | ret x=>exact iz r _ hy
      | panic x=>exact hy
     ·rename_i hf hx
      obtain ⟨rfl,mb,since,last,ck,seen,sts,es,h1,h2,h3,h4,h5,h6⟩:=h
      exact xK hg hf h1 h2 h3 h4 (fun ha=>iz r _ (h5 ha)) fun i q x s k1 k2 k3=>iz r _ (h6 i q x s k1 k2 k3)
     ·exact h.elim
    | callZ f args=>exact h.elim
theorem ku {Q : AX → ASt → Prop} : ∀ (l : List aH) (pd : da) (st : ASt), wpD P Q l pd st → AD P Q l pd st
  | [], pd, st, h => h
  | d :: r, pd, st, h => by
    unfold wpD at h
    unfold AD
    cases hg : bt st.env d.s.guard with
    | none => simp only [hg] at h
    | some c =>
      simp only [hg] at h
      cases c with
      | false => exact ku r _ _ (h.2 rfl)
      | true =>
        have h := h.1 rfl
        simp only
        cases hact : d.s.act with
        | call f args =>
          simp only [hact] at h
          simp only
          split at h
          · rename_i hf hx
            simp only [hf, hx]
            refine h.mono fun y h' n' hy => ⟨hy.1, ?_⟩
            cases y with
            | ret x => exact ku r _ _ hy.2
            | panic x => exact hy.2
          · rename_i hf hx
            simp only [hf, hx]
            refine h.mono fun y h' n' hy => ⟨hy.1, ?_⟩
            cases y with
            | ret x => exact ku r _ _ hy.2
            | panic x => exact hy.2
          · exact h.elim
        | callZ f args =>
          simp only [hact] at h
          simp only
          split at h
          · rename_i hf hx
            simp only [hf, hx]
            refine h.mono fun y h' n' hz hd => ?_
            have hy := hz hd
            refine ⟨hy.1, ?_⟩
            cases y with
            | ret x => exact ku r _ _ hy.2
            | panic x => exact hy.2
          · exact h.elim
        | op ao =>
          simp only [hact] at h
          simp only
          by_cases hq : ao.quiet = true
          · simp only [hq, if_true] at h ⊢
            split at h
            · rename_i hev
              simp only [hev]
              exact ku r _ _ h
            · exact h.elim
          · simp only [hq] at h ⊢
            simp only [HQ, if_false] at h ⊢
            cases ao <;> simp only at h ⊢
            case load sz ag o =>
              split at h
              · rename_i p hp
                simp only [hp]
                split at h
                · rename_i x hx
                  simp only [hx]
                  exact ku r _ _ h
                · exact h.elim
              · exact h.elim
            all_goals
              first
              | (exact absurd rfl hq)
              | (split at h
                 · rename_i hev; simp only [hev]; exact ⟨h.1, ku r _ _ h.2⟩
                 · rename_i hev; simp only [hev]; exact ⟨h.1, ku r _ _ h.2⟩
                 · exact h.elim)
theorem CM (hm:P.follows .mixedOrders=true):∀ (ac:ak) (Q:AX→ASt→Prop) (st:ASt),wpA P own ro N ac Q st→AW P own ro N ac Q st:=by
 intro ac
 induction ac with
 | skip=>intro Q st h;exact Ac h
 | label=>intro Q st h;exact xM h
 | exit i=>intro Q st h;exact Ad h
 | ret=>intro Q st h;exact CL h
 | region ss=>intro Q st h;exact vB fun id=>iz ss st h
 | dregion L=>intro Q st h;exact r4 hm (ku L [] st h)
 | seq a b iha ihb =>
  intro Q st h
  refine CK fun K hK=>iha _ _ ?_
  unfold wpA at h
  have:∀ (x:AX) (s:ASt),AX.then (fun s=>wpA P own ro N b Q s) Q x s→AX.then K Q x s:=by
   intro x s hx
   cases x with
   | normal=>exact hK s (ihb _ _ hx)
   | _=>exact hx
  exact wpA_mono this h
 | cond o a b iha ihb =>
  intro Q st h
  unfold wpA at h
  split at h
  ·rename_i c hc
   exact nj hc (fun e=>iha _ _ (h.1 e)) (fun e=>ihb _ _ (h.2 e))
  ·exact h.elim
 | block i b ih=>intro Q st h;exact xN (ih _ _ h)
 | loop b ih=>intro Q st h;exact h
 | rangeF g ps a b iha ihb=>intro Q st h;exact h
where
  wpA_mono {ac : ak} {Q Q' : AX → ASt → Prop} {st : ASt} (hq : ∀ x s, Q x s → Q' x s) (h : wpA P own ro N ac Q st) : wpA P own ro N ac Q' st := by
    induction ac generalizing Q Q' st with
    | skip => exact hq _ _ h
    | label => exact hq _ _ h
    | exit i => exact hq _ _ h
    | ret => exact hq _ _ h
    | region ss => exact wpR_mono hq ss st h
    | dregion L => exact wpD_mono hq L [] st h
    | seq a b iha ihb =>
      unfold wpA at h ⊢
      refine iha (fun x s hx => ?_) h
      cases x with
      | normal => exact ihb hq hx
      | _ => exact hq _ _ hx
    | cond o a b iha ihb =>
      unfold wpA at h ⊢
      split
      · rename_i c hc
        (try simp only [hc] at h)
        exact ⟨fun e => iha hq (h.1 e), fun e => ihb hq (h.2 e)⟩
      · rename_i hn
        split at h
        · rename_i c hc; exact absurd hc (hn c)
        · exact h
    | block i b ih =>
      unfold wpA at h ⊢
      refine ih (fun x s hx => ?_) h
      cases x with
      | exit j => simp only [AX.inBlock] at hx ⊢; split <;> rename_i e <;> simp only [e, if_true, if_false] at hx <;> exact hq _ _ hx
      | _ => exact hq _ _ hx
    | loop b ih => exact AW.mono h hq
    | rangeF g ps a b iha ihb => exact AW.mono h hq
  wpR_mono {Q Q' : AX → ASt → Prop} (hq : ∀ x s, Q x s → Q' x s) : ∀ (ss : List bj) (st : ASt), wpR P Q ss st → wpR P Q' ss st
    | [], st, h => hq _ _ h
    | s :: r, st, h => by
      unfold wpR at h ⊢
      split at h
      · exact h.elim
      · rename_i c hg
        refine ⟨fun e => ?_, fun e => wpR_mono hq r _ (h.2 e)⟩
        have h := h.1 e
        cases hact : s.act with
        | op ao =>
          simp only [hact] at h ⊢
          split at h
          · rename_i hev; (try simp only [hev]); exact wpR_mono hq r _ h
          · rename_i hev; (try simp only [hev]); exact wpR_mono hq r _ h
          · exact h.elim
        | call f args =>
          simp only [hact] at h ⊢
          split at h
          · rename_i hf hx
            (try simp only [hf, hx])
            refine h.mono fun y h' n' hy => ?_
            cases y with
            | ret x => exact wpR_mono hq r _ hy
            | panic x => exact hq _ _ hy
          · rename_i hf hx
            (try simp only [hf, hx])
            refine h.mono fun y h' n' hy => ?_
            cases y with
            | ret x => exact wpR_mono hq r _ hy
            | panic x => exact hq _ _ hy
          · rename_i hf hx
            (try simp only [hf, hx])
            refine h.mono fun y h' n' hy => ?_
            cases y with
            | ret x => exact wpR_mono hq r _ hy
            | panic x => exact hq _ _ hy
          · rename_i hf hx
            (try simp only [hf, hx])
            obtain ⟨e0, mb, since, last, ck, seen, sts, es, h1, h2, h3, h4, h5, h6⟩ := h
            exact ⟨e0, mb, since, last, ck, seen, sts, es, h1, h2, h3, h4, fun ha => wpR_mono hq r _ (h5 ha), fun i q x s k1 k2 k3 => wpR_mono hq r _ (h6 i q x s k1 k2 k3)⟩
          · exact h.elim
        | callZ f args => simp only [hact] at h
  wpD_mono {Q Q' : AX → ASt → Prop} (hq : ∀ x s, Q x s → Q' x s) : ∀ (l : List aH) (pd : da) (st : ASt), wpD P Q l pd st → wpD P Q' l pd st
    | [], pd, st, h => hq _ _ h
    | d :: r, pd, st, h => by
      unfold wpD at h ⊢
      split at h
      · exact h.elim
      · rename_i c hg
        refine ⟨fun e => ?_, fun e => wpD_mono hq r _ _ (h.2 e)⟩
        have h := h.1 e
        cases hact : d.s.act with
        | call f args =>
          simp only [hact] at h ⊢
          split at h
          · rename_i hf hx
            (try simp only [hf, hx])
            refine h.mono fun y h' n' hy => ⟨hy.1, ?_⟩
            cases y with
            | ret x => exact wpD_mono hq r _ _ hy.2
            | panic x => exact hq _ _ hy.2
          · rename_i hf hx
            (try simp only [hf, hx])
            refine h.mono fun y h' n' hy => ⟨hy.1, ?_⟩
            cases y with
            | ret x => exact wpD_mono hq r _ _ hy.2
            | panic x => exact hq _ _ hy.2
          · exact h.elim
        | callZ f args =>
          simp only [hact] at h ⊢
          split at h
          · rename_i hf hx
            (try simp only [hf, hx])
            refine h.mono fun y h' n' hz hd => ?_
            have hy := hz hd
            refine ⟨hy.1, ?_⟩
            cases y with
            | ret x => exact wpD_mono hq r _ _ hy.2
            | panic x => exact hq _ _ hy.2
          · exact h.elim
        | op ao =>
          simp only [hact] at h ⊢
          by_cases hqt : ao.quiet = true
          · simp only [hqt, if_true] at h ⊢
            split at h
            · rename_i hev; (try simp only [hev]); exact wpD_mono hq r _ _ h
            · exact h.elim
          · simp only [hqt] at h ⊢
            simp only [HQ, if_false] at h ⊢
            cases ao <;> simp only at h ⊢
            case load sz ag o =>
              split at h
              · rename_i p hp
                split at h
                · rename_i x hx
                  (try simp only [hp, hx])
                  exact wpD_mono hq r _ _ h
                · exact h.elim
              · exact h.elim
            all_goals
              first
              | (exact absurd rfl hqt)
              | (split at h
                 · rename_i hev; (try simp only [hev]); exact ⟨h.1, wpD_mono hq r _ _ h.2⟩
                 · rename_i hev; (try simp only [hev]); exact ⟨h.1, wpD_mono hq r _ _ h.2⟩
                 · exact h.elim)
end
theorem Fc {P:Program} {own:Nat→Nat→Bool} {ro:Option Nat} {N:Nat} {ac:ak} {Q:AX→ASt→Prop} {st:ASt} (hm:P.follows .mixedOrders=true) (h:wpA P own ro N ac Q st):AW P own ro N ac Q st:=CM hm ac Q st h
theorem Pure.use {P:Program} {f:FuncId} {xs:List AV} {r:AV} {h:Heap} {nx:Nat} {Q:AE→Heap→Nat→Prop} (hp:Pure P f xs r) (hq:∀ n',nx≤n'→Q (.ret r) h n'):AC P f xs h nx Q :=
 (hp h nx).mono fun y h' n' ⟨e1,e2,hle⟩=>by subst e1;subst e2;exact hq n' hle
inductive Fr where
 | seq (b:ak)
 | blk (i:Nat)
section
variable (P:Program) (own:Nat→Nat→Bool) (ro:Option Nat) (N:Nat)
def post (Q:AX→ASt→Prop):List Fr→AX→ASt→Prop
 | []=>Q
 | .seq b::F=>AX.then (fun s=>wpA P own ro N b (post Q F) s) (post Q F)
 | .blk i::F=>AX.inBlock i (post Q F)
variable (F:List Fr) (Q:AX→ASt→Prop)
def go (c:ak) (st:ASt):Prop:=wpA P own ro N c (post P own ro N Q F) st
def fin (x:AX) (st:ASt):Prop:=post P own ro N Q F x st
def cK (a b:ak) (st:ASt):Option AV→Prop
 | some (.bool c)=>(c=true→go P own ro N F Q a st)∧(c=false→go P own ro N F Q b st)
 | _=>False
def rg (ss:List bj) (st:ASt):Prop:=wpR P (post P own ro N Q F) ss st
def rK (s:bj) (r:List bj) (st:ASt) (y:AE) (h:Heap) (n:Nat):Prop:=match y with
 | .ret x=>rg P own ro N F Q r { st with env:=bP s.dst x st.env,heap:=h,nx:=n }
 | .panic x=>fin P own ro N F Q (.panic x) { st with heap:=h,nx:=n }
def oK (s:bj) (r:List bj) (st:ASt):Option (Out × Heap × Nat)→Prop
 | some (.val x,h,n)=>rg P own ro N F Q r { st with env:=bP s.dst x st.env,heap:=h,nx:=n }
 | some (.skip,h,n)=>rg P own ro N F Q r { st with env:=dL s.dst st.env,heap:=h,nx:=n }
 | none=>False
def nK (s:bj) (r:List bj) (st:ASt) (b:Nat):Prop:=match s.act with
 | .call _ args=>nxP args b st s.dst fun st'=>rg P own ro N F Q r st'
 | _=>False
def fK (s:bj) (r:List bj) (st:ASt):Option AV→Option (List AV)→Prop
 | some (.fn (.func fid) caps),some xs=>AC P fid (xs++caps) st.heap st.nx (rK P own ro N F Q s r st)
 | some (.bm (.func fid) fs caps),some xs=>AC P fid (fs++(xs++caps)) st.heap st.nx (rK P own ro N F Q s r st)
 | some (.yl b),some xs=>AY P b xs st.heap st.nx (rK P own ro N F Q s r st)
 | some (.op b 0),none=>nK P own ro N F Q s r st b
 | _,_=>False
def aK (s:bj) (r:List bj) (st:ASt):jb→Prop
 | .op ao=>oK P own ro N F Q s r st (aM ao st.env st.heap st.nx)
 | .call f args=>fK P own ro N F Q s r st (oev st.env f) (dJ st.env args)
 | .callZ _ _=>False
def gK (s:bj) (r:List bj) (st:ASt):Option Bool→Prop
 | none=>False
 | some c=>(c=true→aK P own ro N F Q s r st s.act)∧(c=false→rg P own ro N F Q r { st with env:=dL s.dst st.env })
theorem zC (st:ASt):go P own ro N F Q .skip st=fin P own ro N F Q .normal st:=rfl
theorem wZ (st:ASt):go P own ro N F Q .label st=fin P own ro N F Q .normal st:=rfl
theorem zE (i:Nat) (st:ASt):go P own ro N F Q (.exit i) st=fin P own ro N F Q (.exit i) st:=rfl
theorem Ch (st:ASt):go P own ro N F Q .ret st=fin P own ro N F Q .ret st:=rfl
theorem Cg (a b:ak) (st:ASt):go P own ro N F Q (.seq a b) st=go P own ro N (.seq b::F) Q a st:=rfl
theorem xb (i:Nat) (b:ak) (st:ASt):go P own ro N F Q (.block i b) st=go P own ro N (.blk i::F) Q b st:=rfl
theorem zF (o:Operand) (a b:ak) (st:ASt):go P own ro N F Q (.cond o a b) st=cK P own ro N F Q a b st (oev st.env o):=by
 unfold go cK
 simp only [wpA]
 cases oev st.env o with
 | none=>rfl
 | some v=>cases v <;> rfl
theorem uW (ss:List bj) (st:ASt):go P own ro N F Q (.region ss) st=rg P own ro N F Q ss st:=rfl
theorem zD (b:ak) (st:ASt):go P own ro N F Q (.loop b) st=AW P own ro N (.loop b) (post P own ro N Q F) st:=rfl
theorem zI (x:AX) (st:ASt):fin P own ro N [] Q x st=Q x st:=rfl
theorem u4 (b:ak) (st:ASt):fin P own ro N (.seq b::F) Q .normal st=go P own ro N F Q b st:=rfl
theorem u5 (b:ak) (i:Nat) (st:ASt):fin P own ro N (.seq b::F) Q (.exit i) st=fin P own ro N F Q (.exit i) st:=rfl
theorem uZ (b:ak) (st:ASt):fin P own ro N (.seq b::F) Q .ret st=fin P own ro N F Q .ret st:=rfl
theorem u0 (b:ak) (x:AV) (st:ASt):fin P own ro N (.seq b::F) Q (.panic x) st=fin P own ro N F Q (.panic x) st:=rfl
theorem u9 (i:Nat) (st:ASt):fin P own ro N (.blk i::F) Q .normal st=fin P own ro N F Q .normal st:=rfl
theorem vb (i j:Nat) (st:ASt):fin P own ro N (.blk i::F) Q (.exit j) st=if j=i then fin P own ro N F Q .normal st else fin P own ro N F Q (.exit j) st:=rfl
theorem u6 (i:Nat) (st:ASt):fin P own ro N (.blk i::F) Q .ret st=fin P own ro N F Q .ret st:=rfl
theorem u7 (i:Nat) (x:AV) (st:ASt):fin P own ro N (.blk i::F) Q (.panic x) st=fin P own ro N F Q (.panic x) st:=rfl
theorem wj (x:AX) (st:ASt):post P own ro N Q F x st=fin P own ro N F Q x st:=rfl
theorem B0 (st:ASt):rg P own ro N F Q [] st=fin P own ro N F Q .normal st:=rfl
theorem zj (s:bj) (r:List bj) (st:ASt):rg P own ro N F Q (s::r) st=gK P own ro N F Q s r st (bt st.env s.guard):=by
 unfold rg gK
 rw [wpR]
 cases bt st.env s.guard with
 | none=>rfl
 | some c =>
  obtain ⟨d,g,act⟩:=s
  cases act <;> rfl
variable (s:bj) (r:List bj) (st:ASt)
theorem gK_t:gK P own ro N F Q s r st (some true)=aK P own ro N F Q s r st s.act:=by simp [gK]
theorem gK_f:gK P own ro N F Q s r st (some false)=rg P own ro N F Q r { st with env:=dL s.dst st.env }:=by simp [gK]
theorem EQ (ao:AOp):aK P own ro N F Q s r st (.op ao)=oK P own ro N F Q s r st (aM ao st.env st.heap st.nx):=rfl
theorem zU (f:Operand) (args:List Operand):aK P own ro N F Q s r st (.call f args)=fK P own ro N F Q s r st (oev st.env f) (dJ st.env args):=rfl
theorem Ca (x:AV) (h:Heap) (n:Nat):oK P own ro N F Q s r st (some (.val x,h,n))=rg P own ro N F Q r { st with env:=bP s.dst x st.env,heap:=h,nx:=n }:=rfl
theorem zv (h:Heap) (n:Nat):oK P own ro N F Q s r st (some (.skip,h,n))=rg P own ro N F Q r { st with env:=dL s.dst st.env,heap:=h,nx:=n }:=rfl
theorem Es (fid:FuncId) (caps xs:List AV):fK P own ro N F Q s r st (some (.fn (.func fid) caps)) (some xs)=AC P fid (xs++caps) st.heap st.nx (rK P own ro N F Q s r st):=rfl
theorem Et (fid:FuncId) (fs caps xs:List AV):fK P own ro N F Q s r st (some (.bm (.func fid) fs caps)) (some xs)=AC P fid (fs++(xs++caps)) st.heap st.nx (rK P own ro N F Q s r st):=rfl
theorem Er (b:Nat):fK P own ro N F Q s r st (some (.op b 0)) none=nK P own ro N F Q s r st b:=rfl
theorem DC (d:Option Tmp) (g:Option (Tmp × Bool)) (f:Operand) (args:List Operand) (b:Nat):nK P own ro N F Q ⟨d,g,.call f args⟩ r st b=nxP args b st d fun st'=>rg P own ro N F Q r st':=rfl
theorem B3 (x:AV) (h:Heap) (n:Nat):rK P own ro N F Q s r st (.ret x) h n=rg P own ro N F Q r { st with env:=bP s.dst x st.env,heap:=h,nx:=n }:=rfl
theorem cK_t (a b:ak):cK P own ro N F Q a b st (some (.bool true))=go P own ro N F Q a st:=by simp [cK]
theorem cK_f (a b:ak):cK P own ro N F Q a b st (some (.bool false))=go P own ro N F Q b st:=by simp [cK]
def dg (l:List aH) (pd:da) (st:ASt):Prop:=wpD P (post P own ro N Q F) l pd st
def dOK (d:aH) (r:List aH) (pd:da) (st:ASt):Option (Out × Heap × Nat)→Prop
 | some (.val x,h,n)=>bX h (aC d.late pd)∧dg P own ro N F Q r (aC d.late pd) { st with env:=bP d.s.dst x st.env,heap:=h,nx:=n }
 | some (.skip,h,n)=>bX h (aC d.late pd)∧dg P own ro N F Q r (aC d.late pd) { st with env:=dL d.s.dst st.env,heap:=h,nx:=n }
 | none=>False
def dQK (d:aH) (r:List aH) (pd:da) (st:ASt):Option (Out × Heap × Nat)→Prop
 | some (.val x,_,_)=>dg P own ro N F Q r pd { st with env:=bP d.s.dst x st.env }
 | _=>False
def xn (d:aH) (r:List aH) (pd:da) (st:ASt) (sz:Nat) (ag:Bool) (p:AV):Option AV→Prop
 | some x=>dg P own ro N F Q r (if p.isFp=true then pd else (d.i,sz,ag,p,x)::pd) { st with env:=bP d.s.dst x st.env }
 | none=>False
def dLK (d:aH) (r:List aH) (pd:da) (st:ASt) (sz:Nat) (ag:Bool):Option AV→Prop
 | some p=>xn P own ro N F Q d r pd st sz ag p (cI st.heap sz ag p)
 | none=>False
def dRK (d:aH) (r:List aH) (pd:da) (st:ASt) (y:AE) (h:Heap) (n:Nat):Prop:=bX h (aC d.late pd)∧match y with
 | .ret x=>dg P own ro N F Q r (aC d.late pd) { st with env:=bP d.s.dst x st.env,heap:=h,nx:=n }
 | .panic x=>fin P own ro N F Q (.panic x) { env:=[],heap:=h,nx:=n,dm:=st.dm }
def dFK (d:aH) (r:List aH) (pd:da) (st:ASt):Option AV→Option (List AV)→Prop
 | some (.fn (.func fid) caps),some xs=>AC P fid (xs++caps) st.heap st.nx (dRK P own ro N F Q d r pd st)
 | some (.bm (.func fid) fs caps),some xs=>AC P fid (fs++(xs++caps)) st.heap st.nx (dRK P own ro N F Q d r pd st)
 | _,_=>False
def dRZ (d:aH) (r:List aH) (pd:da) (st:ASt) (y:AE) (h:Heap) (n:Nat):Prop:=(∀ c o,af st.heap c=some o→af h c=none)→bX (h++st.heap) (aC d.late pd)∧match y with
 | .ret x=>dg P own ro N F Q r (aC d.late pd) { st with env:=bP d.s.dst x st.env,heap:=h++st.heap,nx:=n }
 | .panic x=>fin P own ro N F Q (.panic x) { env:=[],heap:=h++st.heap,nx:=n,dm:=st.dm }
def dZK (d:aH) (r:List aH) (pd:da) (st:ASt):Option AV→Option (List AV)→Prop
 | some (.fn (.func fid) caps),some xs=>AC P fid (xs++caps) [] st.nx (dRZ P own ro N F Q d r pd st)
 | _,_=>False
def dAK (d:aH) (r:List aH) (pd:da) (st:ASt):jb→Prop
 | .op (.load sz ag o)=>dLK P own ro N F Q d r pd st sz ag (oev st.env o)
 | .op ao=>if ao.quiet=true then dQK P own ro N F Q d r pd st (aM ao st.env st.heap st.nx) else dOK P own ro N F Q d r pd st (aM ao st.env st.heap st.nx)
 | .call f args=>dFK P own ro N F Q d r pd st (oev st.env f) (dJ st.env args)
 | .callZ f args=>dZK P own ro N F Q d r pd st (oev st.env f) (dJ st.env args)
def dGK (d:aH) (r:List aH) (pd:da) (st:ASt):Option Bool→Prop
 | none=>False
 | some c=>(c=true→dAK P own ro N F Q d r pd st d.s.act)∧(c=false→dg P own ro N F Q r pd { st with env:=dL d.s.dst st.env })
theorem rL (L:List aH) (st:ASt):go P own ro N F Q (.dregion L) st=dg P own ro N F Q L [] st:=rfl
theorem Ck (pd:da) (st:ASt):dg P own ro N F Q [] pd st=fin P own ro N F Q .normal st:=rfl
theorem zM (d:aH) (r:List aH) (pd:da) (st:ASt):dg P own ro N F Q (d::r) pd st=dGK P own ro N F Q d r pd st (bt st.env d.s.guard):=by
 unfold dg dGK
 rw [wpD]
 cases bt st.env d.s.guard with
 | none=>rfl
 | some c =>
  simp only
  congr 1
  apply propext
  refine imp_congr_right fun _=>?_
  cases hact:d.s.act with
  | op ao =>
   unfold dAK
   by_cases hq:ao.quiet=true
   ·simp only [hq,if_true]
    cases ao <;> first|(simp [AOp.quiet] at hq;done)|skip
    all_goals
     simp only [dQK]
     try rw [if_pos hq]
     generalize aM _ st.env st.heap st.nx=o
     rcases o with _|⟨o,h,n⟩
     ·exact Iff.rfl
     ·cases o <;> exact Iff.rfl
   ·simp only [hq]
    simp only [HQ,if_false]
    cases ao
    case load sz ag o =>
     simp only [dLK,xn]
     cases oev st.env o with
     | none=>exact Iff.rfl
     | some p =>
      simp only
      cases cI st.heap sz ag p with
      | none=>exact Iff.rfl
      | some x=>exact Iff.rfl
    all_goals first|(exact absurd rfl hq)|skip
    all_goals
     simp only [dOK]
     try rw [if_neg hq]
     generalize aM _ st.env st.heap st.nx=o
     rcases o with _|⟨o,h,n⟩
     ·exact Iff.rfl
     ·cases o <;> exact Iff.rfl
  | call f args =>
   simp only [dAK,dFK]
   cases oev st.env f with
   | none=>exact Iff.rfl
   | some v =>
    cases v <;> exact Iff.rfl
  | callZ f args =>
   simp only [dAK,dZK]
   cases oev st.env f with
   | none=>exact Iff.rfl
   | some v =>
    cases v <;> exact Iff.rfl
variable (d:aH) (r:List aH) (pd:da)
theorem Ew:dGK P own ro N F Q d r pd st (some true)=dAK P own ro N F Q d r pd st d.s.act:=by simp [dGK]
theorem Ey:dGK P own ro N F Q d r pd st (some false)=dg P own ro N F Q r pd { st with env:=dL d.s.dst st.env }:=by simp [dGK]
def dS (ao:AOp):Bool→Bool→Prop
 | true,_=>dQK P own ro N F Q d r pd st (aM ao st.env st.heap st.nx)
 | false,true=>(match ao with
  | .load sz ag o=>dLK P own ro N F Q d r pd st sz ag (oev st.env o)
  | _=>False)
 | false,false=>dOK P own ro N F Q d r pd st (aM ao st.env st.heap st.nx)
theorem Cr (ao:AOp):dAK P own ro N F Q d r pd st (.op ao)=dS P own ro N F Q st d r pd ao ao.quiet ao.isLoad:=by
 cases ao
 case m o=>cases o <;> rfl
 all_goals rfl
theorem dS_q (ao:AOp) (b:Bool):dS P own ro N F Q st d r pd ao true b=dQK P own ro N F Q d r pd st (aM ao st.env st.heap st.nx):=rfl
theorem dS_l (sz:Nat) (ag:Bool) (o:Operand):dS P own ro N F Q st d r pd (.load sz ag o) false true=dLK P own ro N F Q d r pd st sz ag (oev st.env o):=rfl
theorem dS_w (ao:AOp):dS P own ro N F Q st d r pd ao false false=dOK P own ro N F Q d r pd st (aM ao st.env st.heap st.nx):=rfl
theorem xo (f:Operand) (args:List Operand):dAK P own ro N F Q d r pd st (.call f args)=dFK P own ro N F Q d r pd st (oev st.env f) (dJ st.env args):=rfl
theorem vm (f:Operand) (args:List Operand):dAK P own ro N F Q d r pd st (.callZ f args)=dZK P own ro N F Q d r pd st (oev st.env f) (dJ st.env args):=rfl
theorem Cm (fid:FuncId) (caps xs:List AV):dZK P own ro N F Q d r pd st (some (.fn (.func fid) caps)) (some xs)=AC P fid (xs++caps) [] st.nx (dRZ P own ro N F Q d r pd st):=rfl
theorem zN (x:AV) (h:Heap) (n:Nat):dRZ P own ro N F Q d r pd st (.ret x) h n=((∀ c o,af st.heap c=some o→af h c=none)→bX (h++st.heap) (aC d.late pd)∧dg P own ro N F Q r (aC d.late pd) { st with env:=bP d.s.dst x st.env,heap:=h++st.heap,nx:=n }):=rfl
theorem Cn (sz:Nat) (ag:Bool) (p:AV):dLK P own ro N F Q d r pd st sz ag (some p)=xn P own ro N F Q d r pd st sz ag p (cI st.heap sz ag p):=rfl
theorem zS (sz:Nat) (ag:Bool) (cs:List AV) (x:AV):xn P own ro N F Q d r pd st sz ag (.fp cs) (some x)=dg P own ro N F Q r pd { st with env:=bP d.s.dst x st.env }:=rfl
theorem zR (sz:Nat) (ag:Bool) (b o:Nat) (x:AV):xn P own ro N F Q d r pd st sz ag (.op b o) (some x)=dg P own ro N F Q r ((d.i,sz,ag,.op b o,x)::pd) { st with env:=bP d.s.dst x st.env }:=rfl
theorem zP (x:AV) (h:Heap) (n:Nat):dQK P own ro N F Q d r pd st (some (.val x,h,n))=dg P own ro N F Q r pd { st with env:=bP d.s.dst x st.env }:=rfl
theorem zQ (x:AV) (h:Heap) (n:Nat):dOK P own ro N F Q d r pd st (some (.val x,h,n))=(bX h (aC d.late pd)∧dg P own ro N F Q r (aC d.late pd) { st with env:=bP d.s.dst x st.env,heap:=h,nx:=n }):=rfl
theorem xm (h:Heap) (n:Nat):dOK P own ro N F Q d r pd st (some (.skip,h,n))=(bX h (aC d.late pd)∧dg P own ro N F Q r (aC d.late pd) { st with env:=dL d.s.dst st.env,heap:=h,nx:=n }):=rfl
theorem Cq (fid:FuncId) (fs caps xs:List AV):dFK P own ro N F Q d r pd st (some (.bm (.func fid) fs caps)) (some xs)=AC P fid (fs++(xs++caps)) st.heap st.nx (dRK P own ro N F Q d r pd st):=rfl
theorem Co (fid:FuncId) (caps xs:List AV):dFK P own ro N F Q d r pd st (some (.fn (.func fid) caps)) (some xs)=AC P fid (xs++caps) st.heap st.nx (dRK P own ro N F Q d r pd st):=rfl
theorem zO (x:AV) (h:Heap) (n:Nat):dRK P own ro N F Q d r pd st (.ret x) h n=(bX h (aC d.late pd)∧dg P own ro N F Q r (aC d.late pd) { st with env:=bP d.s.dst x st.env,heap:=h,nx:=n }):=rfl
end
section
variable {P:Program} {own:Nat→Nat→Bool} {ro:Option Nat} {N:Nat} {F:List Fr} {Q:AX→ASt→Prop}
theorem tS {ac:ak} {st:ASt} (hm:P.follows .mixedOrders=true) (h:go P own ro N [] Q ac st):AW P own ro N ac Q st:=Fc hm h
theorem aq {b:ak} {st:ASt} (I:Nat→ASt→Prop) {n:Nat} (hm:P.follows .mixedOrders=true) (h0:I n st)
  (round:∀ n s,I n s→go P own ro N [] (AX.then (fun s'=>∃ m,m<n∧I m s') (post P own ro N Q F)) b s):AW P own ro N (.loop b) (post P own ro N Q F) st :=
 pg I h0 fun n s hi=>tS hm (round n s hi)
theorem AC.go {P:Program} {own:Nat→Nat→Bool} {f:FuncId} {N:Nat} {ac:ak} {rs:List RV} {xs:List AV} {h:Heap} {nx:Nat} {Q:AE→Heap→Nat→Prop} (hm:P.follows .mixedOrders=true) (hi:Is P own f N ac rs) (hl:xs.length≤N)
  (hw:go P own none N [] (Fin rs Q) ac { env:=m8 0 xs,heap:=h,nx:=nx }):AC P f xs h nx Q:=AC.is hi hl (tS hm hw)
end
theorem BT (K:ASt→Prop) (Q:AX→ASt→Prop) (st:ASt):AX.then K Q .normal st=K st:=rfl
theorem BU (K:ASt→Prop) (Q:AX→ASt→Prop) (i:Nat) (st:ASt):AX.then K Q (.exit i) st=Q (.exit i) st:=rfl
theorem BR (K:ASt→Prop) (Q:AX→ASt→Prop) (st:ASt):AX.then K Q .ret st=Q .ret st:=rfl
theorem BS (K:ASt→Prop) (Q:AX→ASt→Prop) (x:AV) (st:ASt):AX.then K Q (.panic x) st=Q (.panic x) st:=rfl
theorem zZ (rs:List RV) (Q:AE→Heap→Nat→Prop) (env:Env) (h:Heap) (n:Nat):Fin rs Q .ret ⟨env,h,n,[]⟩=(∃ ys,fO env h rs=some ys∧Q (.ret (jT ys)) h n):=by simp [Fin,vl,jt]
theorem r3 (rs:List RV) (Q:AE→Heap→Nat→Prop) (env:Env) (h:Heap) (n:Nat):Fin rs Q .normal ⟨env,h,n,[]⟩=(∃ ys,fO env h rs=some ys∧Q (.ret (jT ys)) h n):=by simp [Fin,vl,jt]
theorem zJ {α:Type} (x:α) (p:α→Prop):(∃ y,some x=some y∧p y)=p x:=by simp
open Go.RowKit Go.ChangeShapes
def ATl (A:TypeId→List AV→Prop):List TypeId→List AV→Prop
 | [],xs=>xs=[]
 | t::ts,xs=>∃ y z,xs=y++z∧A t y∧ATl A ts z
def AT (P:Program):Nat→TypeId→List AV→Prop
 | 0,_,_=>False
 | n+1,t,xs=>match P.underlying t with
  | some .bool=>∃ b,xs=[.bool b]
  | some (.int k)=>∃ i,xs=[.int k i]∧(Lit.int k i).wf=true
  | some .string=>∃ s,xs=[.str s]∧s.length≤maxLen
  | some (.slice e)=>∃ es,xs=[.lst (P.cellsOf e) es]∧es.length≤maxLen∧∀ x∈es,x.length=P.cellsOf e∧AT P n e x
  | some (.struct fs)=>ATl (AT P n) (fs.toList.map (·.type)) xs
  | some (.array m e)=>ATl (AT P n) (List.replicate m e) xs
  | some (.pointer e)=>xs=[.nilP]∨∃ cs,xs=[.fp cs]∧AT P n e cs
  | _=>False
def pZ (P:Program):Nat→List Field→Option Nat
 | o,[]=>some o
 | o,f::fs=>if f.offset=o then pZ P (o+P.cellsOf f.type) fs else none
def okS (P:Program) (S:List TypeId):Bool:=S.all fun t=>match P.underlying t with
 | some .bool=>true
 | some (.int _)=>true
 | some .string=>true
 | some (.slice e)=>S.contains e
 | some (.struct fs)=>fs.toList.all (fun f=>S.contains f.type)&&pZ P 0 fs.toList==some (P.cellsOf t)
 | some (.array m e)=>S.contains e&&P.cellsOf t==m*P.cellsOf e
 | some (.pointer e)=>S.contains e
 | _=>false
theorem qm {α β:Type} {f:α→Option β}:∀ {l:List α} {r:List β},l.mapM f=some r→r.length=l.length∧∀ (i:Nat) (a:α),l[i]?=some a→f a=r[i]?
 | [],r,h=>by simp at h;subst h;simp
 | a::l,r,h=>by
  simp only [List.mapM_cons,Option.bind_eq_bind,Option.bind_eq_some_iff,Option.pure_def,Option.some.injEq] at h
  obtain ⟨x,hx,ys,hys,rfl⟩:=h
  obtain ⟨h1,h2⟩:=qm hys
  refine ⟨by simp [h1],fun i b hb=>?_⟩
  cases i with
  | zero=>simp at hb;subst hb;simpa using hx
  | succ i=>simp at hb;simpa using h2 i b hb
theorem i8 {w:World} {base:Nat} {a:Addr} {n:Nat} {cs:List Value} (h:w.cells? base a n=some cs):cs.length=n∧∀ j,j<n→w.cell? (a.add j)=cs[j]?:=by
 unfold World.cells? at h
 split at h
 ·obtain ⟨h1,h2⟩:=qm h
  exact ⟨by simpa using h1,fun j hj=>h2 j j (by simp [hj])⟩
 ·cases h
theorem o7 (a:Addr) (i j:Nat) (v:Value) (w:World) (h:w.cell? ((a.add i).add j)=some v):w.cell? (a.add (i+j))=some v:=by
 unfold Addr.add at h ⊢
 by_cases hi:i=0
 ·subst hi;simpa using h
 ·by_cases hj:j=0
  ·subst hj;simpa [hi] using h
  ·have:i+j≠0:=by omega
   simp only [hi,hj,this,if_false] at h ⊢
   rw [← h];congr 2;omega
theorem lr {α:Type} {p:Nat→α→Prop}:∀ (n:Nat),(∀ i,i<n→∃ x,p i x)→∃ l:List α,l.length=n∧∀ (i:Nat) (x:α),l[i]?=some x→p i x
 | 0,_=>⟨[],rfl,fun i x h=>by simp at h⟩
 | n+1,h=>by
  obtain ⟨l,h1,h2⟩:=lr n fun i hi=>h i (by omega)
  obtain ⟨x,hx⟩:=h n (by omega)
  refine ⟨l++[x],by simp [h1],fun i y hy=>?_⟩
  rw [Hi] at hy
  split at hy
  ·exact h2 i y hy
  ·have:i=n:=by
    have:=(G9.1 hy).1
    simp at this;omega
   subst this
   simp [h1] at hy;subst hy;exact hx
theorem lQ {w:World} {a:Addr} {v:Value} (h:w.cell? a=some v):a.block<w.heap.size:=by
 unfold World.cell? at h
 split at h
 ·rename_i hb;exact bN hb
 ·cases h
section
variable {H:Type} {enc:TypeId × Value→H} {P:Program} {K:Wd} {base:Nat} {spare:Nat→Bool} {held:Bool}
def Old (K:Wd):Prop:=∀ b o,b<K.w.heap.size→K.Z b o
def wd0 (W:World):Wd:={ w:=W,m:=fun _=>0,Z:=fun b _=>b<W.heap.size,lo:=W.heap.size }
theorem Old.wd0 (W:World):Old (wd0 W):=fun b o h=>h
theorem Good.wd0 (W:World) (hgl:GlR (wd0 W) 0):Good W (wd0 W) [] 0:=⟨fun b o hb=>by simp [af] at hb,fun b b' o o' hb=>by simp [af] at hb,Below.refl _ _,fun b off h=>h,rfl,hgl⟩
theorem nN (hl:laidOutB P=true) {W W':World} (hb:Below W.heap.size W W'):∀ (ts:List TypeId) (vs:List Value) (ds:List (DataW H)) (ps:List MemPlace),ts.all (fun t=>P.readableRec t&&decide (t<P.types.size))=true →
  DataW.TrodAll enc P W 0 (fun _=>true) true ts vs ds ps→DataW.TrodAll enc P W' 0 (fun b=>decide (b<W.heap.size)) true ts vs ds ps
 | [],[],[],ps,_,h=>h
 | t::ts,v::vs,d::ds,ps,hr,⟨p,q,h1,h2,h3⟩=>by
  simp only [List.all_cons,Bool.and_eq_true,decide_eq_true_eq] at hr
  refine ⟨p,q,Below.trod hl hr.1.1 hr.1.2 h1 hb (by obtain ⟨m,hm⟩:=h1;exact DataW.trod_lt m _ _ _ hm),nN hl hb ts vs ds q hr.2 h2,h3⟩
 | [],_::_,_,_,_,h=>by simp [DataW.TrodAll] at h
 | [],[],_::_,_,_,h=>by simp [DataW.TrodAll] at h
 | _::_,[],_,_,_,h=>by simp [DataW.TrodAll] at h
 | _::_,_::_,[],_,_,h=>by simp [DataW.TrodAll] at h
theorem xE {K:Wd} {nx:Nat}:iG K nx [] #[]:=⟨rfl,fun i x v hx=>by simp at hx⟩
theorem vq {K:Wd} {nx:Nat} {x:AV} {xs:List AV} {v:Value} {vs:List Value} (h:VR K nx x v) (hr:iG K nx xs vs.toArray):iG K nx (x::xs) (v::vs).toArray:=by
 refine ⟨by have:=hr.1;simp at this ⊢;exact this,fun i y u hy hu=>?_⟩
 cases i with
 | zero=>simp at hy hu;subst hy;subst hu;exact h
 | succ i=>exact hr.2 i y u (by simpa using hy) (by simpa using hu)
theorem uT {f:FuncId} {xs:List AV} {W:World} {args:Array Value} (hc:AC P f xs [] 0 fun y _ _=>y=.ret (.bool true)) (ha:iG (wd0 W) 0 xs args) (hgl:GlR (wd0 W) 0:=by intro g cs h;cases h):Calls P f args W fun e W'=>e=.returned (.bool true)∧Below W.heap.size W W':=by
 refine (hc.2 W (wd0 W) args (Good.wd0 W hgl) ha).mono ?_
 rintro e w' ⟨K',h',nx',y,rfl,hext,hgood,her,rfl⟩
 cases e <;> simp only [AER] at her
 cases her
 exact ⟨rfl,hgood.below⟩
end
def aF (e sz:Nat) (h:Heap) (nx:Nat) (x:AV) (es:List (List AV)):Prop :=
 (x=.nilS∧es=[])∨∃ b,x=.os b 0 e sz es.length∧af h b=some (.cells es.flatten)∧b<nx
theorem aF.mono {e sz:Nat} {h:Heap} {nx nx':Nat} {x:AV} {es:List (List AV)} (ho:aF e sz h nx x es) (hle:nx≤nx'):aF e sz h nx' x es:=by
 rcases ho with ho|⟨b,h1,h2,h3⟩
 ·exact .inl ho
 ·exact .inr ⟨b,h1,h2,by omega⟩
theorem aF.len {e sz:Nat} {h:Heap} {nx:Nat} {x:AV} {es:List (List AV)} (ho:aF e sz h nx x es):dt x=some es.length:=by
 rcases ho with ⟨rfl,rfl⟩|⟨b,rfl,_,_⟩ <;> rfl
theorem aF.frz {e sz:Nat} {h:Heap} {nx:Nat} {x:AV} {es:List (List AV)} (ho:aF e sz h nx x es) (hs:∀ z∈es,z.length=sz):∃ h',Frz h x h' (.lst sz es):=by
 rcases ho with ⟨rfl,rfl⟩|⟨b,rfl,hb,_⟩
 ·exact ⟨h,Frz.nilS h sz⟩
 ·exact ⟨dZ h b,Frz.os hb hs rfl⟩
theorem aF.frz2 {e sz:Nat} {h:Heap} {nx:Nat} {x:AV} {es:List (List AV)} (ho:aF e sz h nx x es) (hs:∀ z∈es,z.length=sz):∃ h',Frz h x h' (.lst sz es)∧∀ c o,af h c=some o→(∀ y,x≠.os c 0 e sz y)→af h' c=some o:=by
 rcases ho with ⟨rfl,rfl⟩|⟨b,rfl,hb,_⟩
 ·exact ⟨h,Frz.nilS h sz,fun c o hc _=>hc⟩
 ·refine ⟨dZ h b,Frz.os hb hs rfl,fun c o hc hne=>?_⟩
  rw [bY,if_neg]
  ·exact hc
  ·intro e;subst e;exact hne _ rfl
theorem aF.idx {e sz:Nat} {h:Heap} {nx:Nat} {x:AV} {es:List (List AV)} (ho:aF e sz h nx x es) (hs:∀ z∈es,z.length=sz) {i:Nat} {r:List AV} (hr:es[i]?=some r) :
  ∃ b off,idxA sz x (i:Int)=some (.op b off)∧∃ cs,bG h (.op b off)=some cs∧cs.take sz=r∧∀ (j:Nat),j<sz→cs[j]?=r[j]?:=by
 have hi:=(G9.1 hr).1
 rcases ho with ⟨rfl,rfl⟩|⟨b,rfl,hb,_⟩
 ·simp at hi
 ·have hp:bG h (.op b (0+i*sz))=some (es.flatten.drop (0+i*sz)):=by simp only [bG,hb]
  refine ⟨b,0+i*sz,?_,es.flatten.drop (0+i*sz),hp,?_,fun j hj=>?_⟩
  ·have:(i:Int)<(es.length:Int):=by omega
   simp [idxA,this]
  ·have hrl:=hs r (G8 hr)
   apply List.ext_getElem?
   intro j
   rw [List.getElem?_take,List.getElem?_drop]
   split
   ·rename_i hj
    have:r[j]?=some (r[j]'(by omega)):=G7 (by omega)
    rw [this,H8]
    exact jk hs i r hr j _ this
   ·rw [List.getElem?_eq_none (by omega)]
  ·have hrl:=hs r (G8 hr)
   have:r[j]?=some (r[j]'(by omega)):=G7 (by omega)
   rw [List.getElem?_drop,this,H8]
   exact jk hs i r hr j _ this
theorem aF.app {e sz bytes:Nat} {h:Heap} {nx:Nat} {x:AV} {es ns:List (List AV)} (ho:aF e sz h nx x es) (hs:∀ z∈es,z.length=sz) (hn:∀ z∈ns,z.length=sz)
  (h1:(es.length+ns.length)*bytes≤140737488355328) (h2:es.length+ns.length≤maxLen) :
  ∃ x' h' n',eC e sz bytes h nx x (.lst sz ns)=some (x',h',n')∧aF e sz h' n' x' (es++ns)∧nx≤n'∧(∀ c o,c<nx→af h c=some o→(∀ y,x≠.os c 0 e sz y)→af h' c=some o)∧∀ c y,x'=.os c 0 e sz y→nx≤c∨∃ y',x=.os c 0 e sz y':=by
 have hsc:db h (.lst sz ns)=some (ns.length,ns.flatten):=rfl
 have hsz:kC (.lst sz ns) sz=true:=by simp [kC]
 have hf:(es++ns).flatten=es.flatten++ns.flatten:=by simp
 rcases ho with ⟨rfl,rfl⟩|⟨b,rfl,hb,hlt⟩
 ·simp only [Hd,H8] at h1 h2
  simp only [eC,hsc,hsz,if_true]
  by_cases h0:ns.length=0
  ·rw [if_pos h0]
   exact ⟨_,_,_,rfl,.inl ⟨rfl,by simpa using h0⟩,H4 _,fun c o _ hc _=>hc,fun c y h=>by cases h⟩
  ·rw [if_neg h0,if_pos ⟨h1,h2⟩]
   refine ⟨_,_,_,rfl,.inr ⟨nx,by simp,by simp [ai],by omega⟩,by omega,fun c o hlt hc _=>?_,fun c y h=>by cases h;exact .inl (H4 _)⟩
   rw [ai,if_neg (by omega)];exact hc
 ·simp only [eC,hsc,hsz,if_true,hb]
  rw [if_pos ⟨trivial,trivial,trivial,gS hs,h1,h2⟩]
  by_cases h0:ns.length=0
  ·rw [if_pos h0]
   have:ns=[]:=by simpa using h0
   subst this
   exact ⟨_,_,_,rfl,.inr ⟨b,by simp,by simpa using hb,hlt⟩,H4 _,fun c o _ hc _=>hc,fun c y h=>.inr ⟨y,h⟩⟩
  ·rw [if_neg h0]
   refine ⟨_,_,_,rfl,.inr ⟨nx,by simp,by simp [ai],by omega⟩,by omega,fun c o hlt hc hne=>?_,fun c y h=>by cases h;exact .inl (H4 _)⟩
   rw [ai,if_neg (by omega),bY,if_neg]
   ·exact hc
   ·intro e;subst e;exact hne _ rfl
theorem AC.own {P:Program} {f:FuncId} {xs:List AV} {e sz:Nat} {es:List (List AV)} (hc:∀ nx,AC P f xs [] nx fun y h' n'=>∃ v,y=.ret v∧aF e sz h' n' v es) (h:Heap) (nx:Nat) :
  AC P f xs h nx fun y h'' n'=>∃ v h',y=.ret v∧h''=h'++h∧nx≤n'∧(∀ c o,af h c=some o→af h' c=none)∧aF e sz h' n' v es :=
 ((hc nx).frame h).mono fun y h'' n' ⟨h',e1,e2,e3,v,e4,e5⟩=>⟨v,h',e4,e1,e2,e3,e5⟩
theorem Pure.own {P:Program} {f:FuncId} {xs:List AV} {e sz:Nat} {es:List (List AV)} (hs:∀ x∈es,x.length=sz) (hc:∀ nx,AC P f xs [] nx fun y h' n'=>∃ v,y=.ret v∧aF e sz h' n' v es):Pure P f xs (.lst sz es) :=
 Pure.of fun nx=>AC.frz ((hc nx).mono fun y h' n' ⟨v,e1,ho⟩=>by
  subst e1
  obtain ⟨h2,hf⟩:=ho.frz hs
  exact ⟨h2,_,hf,rfl⟩)
theorem Frz.trans {h h1 h2:Heap} {x x1 x2:AV} (f1:Frz h x h1 x1) (f2:Frz h1 x1 h2 x2):Frz h x h2 x2:=fun w0 K nx v g hv=>by
 obtain ⟨K1,a1,a2,a3,a4⟩:=f1 w0 K nx v g hv
 obtain ⟨K2,b1,b2,b3,b4⟩:=f2 w0 K1 nx v a3 a4
 exact ⟨K2,b1.trans a1,a2.trans b2,b3,b4⟩
section
variable {P:Program} {f:FuncId} {h h':Heap} {nx:Nat} {Q:AE→Heap→Nat→Prop} {x x':AV}
theorem AC.ice (pre post:List AV) (hf:Frz h x h' x') (hc:AC P f (pre++x'::post) h' nx Q):AC P f (pre++x::post) h nx Q:=by
 refine ⟨hc.1,fun w0 K args hg ha=>?_⟩
 have hlen:=ha.1
 have hi:pre.length<args.size:=by rw [hlen];simp
 have hx:(pre++x::post)[pre.length]?=some x:=by simp
 obtain ⟨K',e1,e2,e3,e4⟩:=hf w0 K nx args[pre.length] hg (ha.2 _ x _ hx (Array.getElem?_eq_getElem hi))
 have ha':iG K' nx (pre++x'::post) args:=by
  refine ⟨by rw [hlen];simp,fun i y v hy hv=>?_⟩
  by_cases h:i=pre.length
  ·subst h
   simp at hy;subst hy
   rw [Array.getElem?_eq_getElem hi] at hv;injection hv with hv;subst hv
   exact e4
  ·refine (ha.2 i y v ?_ hv).mono e2
   rw [← hy]
   rw [Hi,Hi]
   split
   ·rfl
   ·rename_i h2
    obtain ⟨j,hj⟩:∃ j,i-pre.length=j+1:=⟨i-pre.length-1,by omega⟩
    rw [hj];rfl
 have:=hc.2 w0 K' args e3 ha'
 rw [e1] at this
 exact this.mono fun e w' ⟨K2,h2,n2,y,a1,a2,a3,a4,a5⟩=>⟨K2,h2,n2,y,a1,e2.trans a2,a3,a4,a5⟩
theorem AC.ice1 {y:AV} {r:List AV} (hf:Frz h x h' x') (hc:AC P f (y::x'::r) h' nx Q):AC P f (y::x::r) h nx Q:=AC.ice [y] r hf hc
end
theorem aF.set {e sz:Nat} {h:Heap} {nx:Nat} {x:AV} {es:List (List AV)} (ho:aF e sz h nx x es) (hs:∀ z∈es,z.length=sz) {i:Nat} {z:List AV} (hz:z.length=sz) (hi:i<es.length) :
  ∃ p h',idxA sz x (i:Int)=some p∧p.isFp=false∧eP h p z=some h'∧aF e sz h' nx x (es.set i z)∧∀ c o,af h c=some o→(∀ y,x≠.os c 0 e sz y)→af h' c=some o:=by
 rcases ho with ⟨rfl,rfl⟩|⟨b,rfl,hb,hlt⟩
 ·simp at hi
 ·have hfl:es.flatten.length=es.length*sz:=gS hs
  have hle:i*sz+sz≤es.length*sz:=by
   have:=Nat.mul_le_mul_right sz (show i+1≤es.length by omega)
   rw [Nat.add_mul,Nat.one_mul] at this;exact this
  refine ⟨.op b (0+i*sz),bO h b (.cells (br es.flatten (0+i*sz) z)),?_,rfl,?_,.inr ⟨b,by simp,?_,hlt⟩,fun c o hc hne=>?_⟩
  ·have:(i:Int)<(es.length:Int):=by omega
   simp [idxA,this]
  ·simp only [eP,hb]
   rw [if_pos (by omega)]
  ·rw [cl,if_pos rfl,iV es i z hs hz hi,H8]
  ·rw [cl,if_neg]
   ·exact hc
   ·intro e;subst e;exact hne _ rfl
theorem Pure.frz {P:Program} {f:FuncId} {xs:List AV} {r:AV} (hc:∀ nx,AC P f xs [] nx fun y h' n'=>∃ v h2,y=.ret v∧Frz h' v h2 r):Pure P f xs r :=
 Pure.of fun nx=>AC.frz ((hc nx).mono fun y h' n' ⟨v,h2,e1,hf⟩=>by subst e1;exact ⟨h2,_,hf,rfl⟩)
def lq (i:Nat) (J:ASt→Prop) (Q:AX→ASt→Prop):AX→ASt→Prop
 | .exit k,s=>if k=i then J s else Q (.exit k) s
 | x,s=>Q x s
theorem cr (i k:Nat) (J:ASt→Prop) (Q:AX→ASt→Prop) (s:ASt):lq i J Q (.exit k) s=if k=i then J s else Q (.exit k) s:=rfl
theorem cL (i:Nat) (J:ASt→Prop) (Q:AX→ASt→Prop) (s:ASt):lq i J Q .ret s=Q .ret s:=rfl
theorem cM (i:Nat) (J:ASt→Prop) (Q:AX→ASt→Prop) (x:AV) (s:ASt):lq i J Q (.panic x) s=Q (.panic x) s:=rfl
theorem cN (i:Nat) (J:ASt→Prop) (Q:AX→ASt→Prop) (s:ASt):lq i J Q .normal s=Q .normal s:=rfl
theorem rJ {P:Program} {own:Nat→Nat→Bool} {ro:Option Nat} {N:Nat} {F:List Fr} {Q:AX→ASt→Prop} {b:ak} {st:ASt} (I:Nat→ASt→Prop) (i:Nat) (J:ASt→Prop) {n:Nat} (hm:P.follows .mixedOrders=true) (h0:I n st)
  (round:∀ n s,I n s→go P own ro N [] (AX.then (fun s'=>∃ m,m<n∧I m s') (lq i J (post P own ro N Q F))) b s) (rest:∀ s,J s→post P own ro N Q F (.exit i) s):AW P own ro N (.loop b) (post P own ro N Q F) st :=
 (pg (Q:=lq i J (post P own ro N Q F)) I h0 fun n s hi=>tS hm (round n s hi)).mono fun x s hx=>by
  cases x with
  | exit k =>
   rw [cr] at hx
   split at hx
   ·rename_i e;subst e;exact rest s hx
   ·exact hx
  | normal=>exact hx
  | ret=>exact hx
  | panic x=>exact hx
def aw:AV→Option Nat
 | .os b _ _ _ _=>some b
 | _=>none
def apart (x y:AV):Prop:=∀ b,aw x=some b→aw y=some b→False
theorem apart.symm {x y:AV} (h:apart x y):apart y x:=fun b h1 h2=>h b h2 h1
theorem aF.blk {e sz:Nat} {h:Heap} {nx:Nat} {x:AV} {es:List (List AV)} (ho:aF e sz h nx x es) {b:Nat} (hb:aw x=some b):x=.os b 0 e sz es.length∧af h b=some (.cells es.flatten)∧b<nx:=by
 rcases ho with ⟨rfl,rfl⟩|⟨b',rfl,h1,h2⟩
 ·simp [aw] at hb
 ·simp [aw] at hb;subst hb;exact ⟨rfl,h1,h2⟩
theorem aF.keep {e sz:Nat} {h h':Heap} {nx nx':Nat} {x:AV} {es:List (List AV)} (ho:aF e sz h nx x es) (hle:nx≤nx') (hk:∀ b o,aw x=some b→af h b=some o→af h' b=some o):aF e sz h' nx' x es:=by
 rcases ho with ho|⟨b,rfl,h1,h2⟩
 ·exact .inl ho
 ·exact .inr ⟨b,rfl,hk b _ rfl h1,by omega⟩
theorem gR {sz:Nat}:∀ (es:List (List AV)) (i off:Nat) (v:AV) (r:List AV),(∀ z∈es,z.length=sz)→es[i]?=some r→off<sz→(es.set i (r.set off v)).flatten=es.flatten.set (i*sz+off) v
 | [],i,off,v,r,_,hi,_=>by simp at hi
 | z::es,0,off,v,r,hs,hr,ho=>by
  have hz:=hs z (by simp)
  simp at hr;subst hr
  simp only [HH,HA,Nat.zero_mul,H8]
  rw [List.set_append_left _ _ (by omega)]
 | z::es,i+1,off,v,r,hs,hr,ho=>by
  have hz:=hs z (by simp)
  have ih:=gR es i off v r (fun y hy=>hs y (by simp [hy])) (by simpa using hr) ho
  simp only [HG,HA,ih]
  rw [List.set_append_right _ _ (by rw [hz,Nat.succ_mul];omega)]
  congr 2
  rw [hz,Nat.succ_mul];omega
theorem jE (cs:List AV) (k:Nat) (v:AV) (hk:k<cs.length):br cs k [v]=cs.set k v:=by
 simp only [br,Hc,Hd,H8]
 rw [List.set_eq_take_append_cons_drop,if_pos hk];rfl
theorem aF.put {e sz:Nat} {h:Heap} {nx:Nat} {x:AV} {es:List (List AV)} (ho:aF e sz h nx x es) (hs:∀ z∈es,z.length=sz) {i off:Nat} {r:List AV} (hr:es[i]?=some r) (hoff:off<sz) (v:AV) :
  ∃ b o h',idxA sz x (i:Int)=some (.op b o)∧eP h (.op b (o+off)) [v]=some h'∧aF e sz h' nx x (es.set i (r.set off v))∧∀ c a,af h c=some a→(∀ b',aw x=some b'→b'≠c)→af h' c=some a:=by
 have hi:=(G9.1 hr).1
 rcases ho with ⟨rfl,rfl⟩|⟨b,rfl,hb,hlt⟩
 ·simp at hi
 ·have hfl:es.flatten.length=es.length*sz:=gS hs
  have hle:i*sz+sz≤es.length*sz:=by
   have:=Nat.mul_le_mul_right sz (show i+1≤es.length by omega)
   rw [Nat.add_mul,Nat.one_mul] at this;exact this
  refine ⟨b,0+i*sz,bO h b (.cells (br es.flatten (0+i*sz+off) [v])),?_,?_,.inr ⟨b,by simp,?_,hlt⟩,fun c a hc hne=>?_⟩
  ·have:(i:Int)<(es.length:Int):=by omega
   simp [idxA,this]
  ·simp only [eP,hb]
   rw [if_pos (by show 0+i*sz+off+1≤_;omega)]
  ·rw [cl,if_pos rfl,gR es i off v r hs hr hoff,H8,jE _ _ _ (by omega)]
  ·rw [cl,if_neg]
   ·exact hc
   ·intro e;exact hne b rfl e
theorem oi {sz:Nat} {es:List (List AV)} (hs:∀ z∈es,z.length=sz) {i off:Nat} {r:List AV} (hr:es[i]?=some r) (v:AV):∀ y∈es.set i (r.set off v),y.length=sz:=fun y hy=>by
 rcases List.mem_or_eq_of_mem_set hy with h|h
 ·exact hs y h
 ·subst h;rw [List.length_set];exact hs r (G8 hr)
theorem aF.cell {e sz:Nat} {h:Heap} {nx:Nat} {x:AV} {es:List (List AV)} (ho:aF e sz h nx x es) (hs:∀ z∈es,z.length=sz) {i off:Nat} {r:List AV} {c:AV} (hr:es[i]?=some r) (hc:r[off]?=some c) :
  ∃ b o rest,idxA sz x (i:Int)=some (.op b o)∧bG h (.op b (o+off))=some (c::rest):=by
 have hi:=(G9.1 hr).1
 rcases ho with ⟨rfl,rfl⟩|⟨b,rfl,hb,hlt⟩
 ·simp at hi
 ·refine ⟨b,0+i*sz,es.flatten.drop (0+i*sz+off+1),?_,?_⟩
  ·have:(i:Int)<(es.length:Int):=by omega
   simp [idxA,this]
  ·have hat:=jk hs i r hr off c hc
   simp only [bG,hb]
   congr 1
   rw [H8]
   have hlt:=(G9.1 hat).1
   rw [List.drop_eq_getElem_cons hlt]
   congr 1
   exact (G9.1 hat).2
theorem aF.row {e sz:Nat} {h:Heap} {nx:Nat} {x:AV} {es:List (List AV)} (ho:aF e sz h nx x es) (hs:∀ z∈es,z.length=sz) {i:Nat} {r:List AV} (hr:es[i]?=some r) :
  ∃ b o cs,idxA sz x (i:Int)=some (.op b o)∧bG h (.op b o)=some cs∧cs.take sz=r:=by
 obtain ⟨b,o,h1,cs,h2,h3,_⟩:=ho.idx hs hr
 exact ⟨b,o,cs,h1,h2,h3⟩
def AX.isPanic:AX→Bool
 | .panic _=>true
 | _=>false
theorem AW.exitIce {P:Program} {own:Nat→Nat→Bool} {ro:Option Nat} {N:Nat} {Q0 Q:AX→ASt→Prop} {st:ASt} {ac:ak} (h:AW P own ro N ac Q0 st)
  (hq:∀ x s,Q0 x s→Q x s∨(x.isPanic=false∧∃ t y y' h',ab s.env t=some y∧Frz s.heap y h' y'∧Q x { s with env:=(t,y')::s.env,heap:=h' })):AW P own ro N ac Q st:=by
 intro c hc w0 K a hs
 refine wpIn_mono (h c hc w0 K a hs) ?_
 rintro e a' w' ⟨K',st',x,h1,h2,h3,h4,h5⟩
 rcases hq x st' h5 with h6|⟨hx,t,y,y',h',g1,g2,g3⟩
 ·exact ⟨K',st',x,h1,h2,h3,h4,h6⟩
 ·obtain ⟨v,k1,k2⟩:=h3.env t y g1
  obtain ⟨K2,e1,e2,e3,e4⟩:=g2 w0 K' st'.nx v h3.good k2
  refine ⟨K2,{ st' with env:=(t,y')::st'.env,heap:=h' },x,by rw [e1];exact h1,h2.trans e2,⟨e3,fun u z hz=>?_,h3.size,by rw [h3.defers];exact (fm e2 h3.dm).symm,h3.dm⟩,?_,g3⟩
  ·rw [eJ] at hz
   split at hz
   ·rename_i e;subst e
    injection hz with hz;subst hz
    exact ⟨v,k1,e4⟩
   ·obtain ⟨u',k3,k4⟩:=h3.env u z hz
    exact ⟨u',k3,k4.mono e2⟩
  ·cases x <;> cases e <;> simp only [AXR] at h4 ⊢ <;> first|exact h4|(simp [AX.isPanic] at hx;done)
theorem fq {P:Program} {own:Nat→Nat→Bool} {ro:Option Nat} {N:Nat} {F:List Fr} {Q:AX→ASt→Prop} {b:ak} {st:ASt} (I:Nat→ASt→Prop) (i:Nat) (J:ASt→Prop) {n:Nat} (hm:P.follows .mixedOrders=true) (h0:I n st)
  (round:∀ n s,I n s→go P own ro N [] (AX.then (fun s'=>∃ m,m<n∧I m s') (lq i J (post P own ro N Q F))) b s)
  (rest:∀ s,J s→∃ t y y' h',ab s.env t=some y∧Frz s.heap y h' y'∧post P own ro N Q F (.exit i) { s with env:=(t,y')::s.env,heap:=h' }):AW P own ro N (.loop b) (post P own ro N Q F) st :=
 (pg (Q:=lq i J (post P own ro N Q F)) I h0 fun n s hi=>tS hm (round n s hi)).exitIce fun x s hx=>by
  cases x with
  | exit k =>
   rw [cr] at hx
   split at hx
   ·rename_i e;subst e;exact .inr ⟨rfl,rest s hx⟩
   ·exact .inl hx
  | normal=>exact .inl hx
  | ret=>exact .inl hx
  | panic x=>exact .inl hx
def Grw (e sz:Nat) (h:Heap) (nx:Nat) (v:AV) (h':Heap) (n':Nat) (v':AV) (es':List (List AV)):Prop :=
 aF e sz h' n' v' es'∧nx≤n'∧(∀ c o,c<nx→af h c=some o→aw v≠some c→af h' c=some o)∧∀ c,aw v'=some c→nx≤c∨aw v=some c
theorem Grw.refl {e sz:Nat} {h:Heap} {nx:Nat} {v:AV} {es:List (List AV)} (ho:aF e sz h nx v es) {n':Nat} (hle:nx≤n'):Grw e sz h nx v h n' v es :=
 ⟨ho.mono hle,hle,fun c o _ hc _=>hc,fun c hc=>.inr hc⟩
theorem Grw.trans {e sz:Nat} {h h1 h2:Heap} {nx n1 n2:Nat} {v v1 v2:AV} {es1 es2:List (List AV)} (a:Grw e sz h nx v h1 n1 v1 es1) (b:Grw e sz h1 n1 v1 h2 n2 v2 es2):Grw e sz h nx v h2 n2 v2 es2:=by
 obtain ⟨a1,a2,a3,a4⟩:=a
 obtain ⟨b1,b2,b3,b4⟩:=b
 refine ⟨b1,by omega,fun c o hc hg hv=>b3 c o (by omega) (a3 c o hc hg hv) (fun h=>?_),fun c hc=>?_⟩
 ·rcases a4 c h with h|h
  ·omega
  ·exact hv h
 ·rcases b4 c hc with h|h
  ·exact .inl (by omega)
  ·exact a4 c h
theorem aF.grw {e sz bytes:Nat} {h:Heap} {nx:Nat} {x:AV} {es ns:List (List AV)} (ho:aF e sz h nx x es) (hs:∀ z∈es,z.length=sz) (hn:∀ z∈ns,z.length=sz)
  (h1:(es.length+ns.length)*bytes≤140737488355328) (h2:es.length+ns.length≤maxLen) :
  ∃ x' h' n',eC e sz bytes h nx x (.lst sz ns)=some (x',h',n')∧Grw e sz h nx x h' n' x' (es++ns):=by
 obtain ⟨x',h',n',ea,ow,hle,fr,id⟩:=ho.app (bytes:=bytes) hs hn h1 h2
 refine ⟨x',h',n',ea,ow,hle,fun c o hc hg hb=>fr c o hc hg (fun y hy=>hb (by rw [hy];rfl)),fun c hc=>?_⟩
 obtain ⟨e1,_,_⟩:=ow.blk hc
 rcases id c _ e1 with h|⟨y,h⟩
 ·exact .inl h
 ·exact .inr (by rw [h];rfl)
theorem AC.arg {P:Program} {f:FuncId} {h h':Heap} {nx:Nat} {Q:AE→Heap→Nat→Prop} {x x':AV} (pre post:List AV) (hf:Frz h x h' x') (hc:AC P f (pre++x'::post) h' nx Q):AC P f (pre++x::post) h nx Q:=by
 refine ⟨hc.1,fun w0 K args hg ha=>?_⟩
 have hlen:=ha.1
 have hi:pre.length<args.size:=by rw [hlen];simp
 have hv:=ha.2 pre.length x args[pre.length] (by simp) (Array.getElem?_eq_getElem hi)
 obtain ⟨K',e1,e2,e3,e4⟩:=hf w0 K nx _ hg hv
 have ha':iG K' nx (pre++x'::post) args:=by
  refine ⟨by rw [hlen];simp,fun i y v hy hv'=>?_⟩
  by_cases h:i=pre.length
  ·subst h
   simp at hy;subst hy
   rw [Array.getElem?_eq_getElem hi] at hv';injection hv' with hv';subst hv'
   exact e4
  ·refine (ha.2 i y v ?_ hv').mono e2
   rw [← hy,Hi,Hi]
   split
   ·rfl
   ·obtain ⟨j,hj⟩:∃ j,i-pre.length=j+1:=⟨i-pre.length-1,by omega⟩
    rw [hj];rfl
 have:=hc.2 w0 K' args e3 ha'
 rw [e1] at this
 exact this.mono fun e w' ⟨K2,h2,n2,y,a1,a2,a3,a4,a5⟩=>⟨K2,h2,n2,y,a1,e2.trans a2,a3,a4,a5⟩
theorem AC.oc {P:Program} {f:FuncId} {h:Heap} {nx:Nat} {Q:AE→Heap→Nat→Prop} {b off sz n:Nat} {e:TypeId} (pre post:List AV) (hn:n≤maxLen)
  (hc:∀ c,n≤c→c≤maxLen→AC P f (pre++.oc b off e sz n c::post) h nx Q):AC P f (pre++.os b off e sz n::post) h nx Q:=by
 refine ⟨(hc n (H4 _) hn).1,fun w0 K args hg ha=>?_⟩
 have hlen:=ha.1
 have hi:pre.length<args.size:=by rw [hlen];simp
 have hv:=ha.2 pre.length (.os b off e sz n) args[pre.length] (by simp) (Array.getElem?_eq_getElem hi)
 have key:∀ x,VR K nx x args[pre.length]→iG K nx (pre++x::post) args:=by
  intro x hx
  refine ⟨by rw [hlen];simp,fun i y v hy hv=>?_⟩
  by_cases h:i=pre.length
  ·subst h
   simp at hy;subst hy
   rw [Array.getElem?_eq_getElem hi] at hv;injection hv with hv;subst hv
   exact hx
  ·refine ha.2 i y v ?_ hv
   rw [← hy,Hi,Hi]
   split
   ·rfl
   ·obtain ⟨j,hj⟩:∃ j,i-pre.length=j+1:=⟨i-pre.length-1,by omega⟩
    rw [hj];rfl
 generalize args[pre.length]=u at hv key
 cases hv with
 | os _ _ _ _ _ a n' cap hn' hb hnc hcap hA hroom =>
  subst hn'
  exact (hc cap hnc hcap).2 w0 K args hg (key _ (.oc b off e sz n' cap a hb hnc hcap hA hroom))
theorem Frz.oc {h:Heap} {b off sz n c:Nat} {e:TypeId}:Frz h (.oc b off e sz n c) h (.os b off e sz n):=fun w0 K nx v g hv=>by
 cases hv with
 | oc _ _ _ _ _ _ a hb hc hcap hA hroom=>exact ⟨K,rfl,Ext.refl _ _,g,.os b off e sz n a n c rfl hb hc hcap hA hroom⟩
set_option linter.defProp false
def RR:=And.intro @Et (And.intro @Cq (And.intro @vm (And.intro @Cm (And.intro @zN (And.intro @zC (And.intro @wZ (And.intro @zE (And.intro @Ch (And.intro @Cg (And.intro @xb (And.intro @zF (And.intro @uW (And.intro @zD (And.intro @rL (And.intro @zI (And.intro @u4 (And.intro @u5 (And.intro @uZ (And.intro @u0 (And.intro @u9 (And.intro @vb (And.intro @u6 (And.intro @u7 (And.intro @B0 (And.intro @zj (And.intro @gK_t (And.intro @gK_f (And.intro @EQ (And.intro @zU (And.intro @Ca (And.intro @zv (And.intro @Es (And.intro @B3 (And.intro @cK_t (And.intro @cK_f (And.intro @Ck (And.intro @zM (And.intro @Ew (And.intro @Ey (And.intro @Cr (And.intro @dS_q (And.intro @dS_l (And.intro @dS_w (And.intro @xo (And.intro @Cn (And.intro @zS (And.intro @zR (And.intro @zP (And.intro @zQ (And.intro @xm (And.intro @Co (And.intro @zO (And.intro @BT (And.intro @BU (And.intro @BR (And.intro @BS (And.intro @zn (And.intro @wD (And.intro @eR (And.intro @wq (And.intro @wr (And.intro @wu (And.intro @ww (And.intro @wv (And.intro @bt1 (And.intro @bt2 (And.intro @bt3 (And.intro @bt4 (And.intro @EJ (And.intro @EA (And.intro @ED (And.intro @EI (And.intro @EC (And.intro @EE (And.intro @EF (And.intro @EG (And.intro @EH (And.intro @B4 (And.intro @B1 (And.intro @Du (And.intro @Bool.not_true (And.intro @Bool.not_false (And.intro @decide_true (And.intro @decide_false (And.intro @true_and (And.intro @and_true (And.intro @zZ (And.intro @r3 (And.intro @wj (And.intro @and_self (And.intro @H8 (And.intro @Nat.add_zero (And.intro @H4 (And.intro @Nat.zero_lt_one (And.intro @Bool.or_false (And.intro @Bool.or_self (And.intro @Bool.false_or (And.intro @Bool.true_or (And.intro @Bool.or_true (And.intro @Er (@DC)))))))))))))))))))))))))))))))))))))))))))))))))))))))))))))))))))))))))))))))))))))))))))))))))))))
def RE:=And.intro @bt.eq_1 (And.intro @bt.eq_2 (And.intro @aM.eq_1 (And.intro @aM.eq_2 (And.intro @aM.eq_3 (And.intro @aM.eq_4 (And.intro @aM.eq_5 (And.intro @aM.eq_6 (And.intro @aM.eq_7 (And.intro @aM.eq_8 (And.intro @aM.eq_9 (And.intro @aM.eq_10 (And.intro @aM.eq_11 (And.intro @aM.eq_12 (And.intro @aM.eq_13 (And.intro @aM.eq_14 (And.intro @aM.eq_15 (And.intro @aM.eq_16 (And.intro @aM.eq_17 (And.intro @aM.eq_18 (And.intro @aM.eq_19 (And.intro @aM.eq_20 (And.intro @aM.eq_21 (And.intro @aM.eq_22 (And.intro @aM.eq_23 (And.intro @aM.eq_24 (And.intro @aM.eq_25 (And.intro @aM.eq_26 (And.intro @aM.eq_27 (And.intro @aM.eq_28 (And.intro @aM.eq_29 (And.intro @aM.eq_30 (And.intro @aM.eq_31 (And.intro @aM.eq_32 (And.intro @aM.eq_33 (And.intro @aM.eq_34 (And.intro @aM.eq_35 (And.intro @aM.eq_36 (And.intro @aM.eq_37 (And.intro @aM.eq_38 (And.intro @aM.eq_39 (And.intro @aM.eq_40 (And.intro @aM.eq_41 (And.intro @aM.eq_42 (And.intro @aM.eq_43 (And.intro @oev.eq_1 (And.intro @oev.eq_2 (And.intro @oev.eq_3 (And.intro @oev.eq_4 (And.intro @dJ.eq_1 (And.intro @dJ.eq_2 (And.intro @ab.eq_1 (And.intro @ab.eq_2 (And.intro @bP.eq_1 (And.intro @bP.eq_2 (And.intro @dL.eq_1 (And.intro @zL.eq_1 (And.intro @zL.eq_2 (And.intro @m8.eq_1 (And.intro @m8.eq_2 (And.intro @AOp.quiet.eq_1 (And.intro @AOp.quiet.eq_2 (And.intro @AOp.quiet.eq_3 (And.intro @AOp.quiet.eq_4 (And.intro @AOp.quiet.eq_5 (And.intro @AOp.quiet.eq_6 (And.intro @AOp.quiet.eq_7 (And.intro @AOp.quiet.eq_8 (And.intro @AOp.quiet.eq_9 (And.intro @AOp.quiet.eq_10 (And.intro @AOp.quiet.eq_11 (And.intro @AOp.quiet.eq_12 (And.intro @AOp.quiet.eq_13 (And.intro @AOp.quiet.eq_14 (And.intro @AOp.quiet.eq_15 (And.intro @AOp.quiet.eq_16 (And.intro @AOp.quiet.eq_17 (And.intro @AOp.quiet.eq_18 (And.intro @AOp.quiet.eq_19 (And.intro @AOp.quiet.eq_20 (And.intro @AOp.quiet.eq_21 (And.intro @AOp.quiet.eq_22 (And.intro @AOp.quiet.eq_23 (And.intro @AOp.quiet.eq_24 (And.intro @AOp.quiet.eq_25 (And.intro @AOp.quiet.eq_26 (And.intro @AOp.quiet.eq_27 (And.intro @AOp.quiet.eq_28 (And.intro @AOp.quiet.eq_29 (And.intro @AOp.quiet.eq_30 (And.intro @AOp.quiet.eq_31 (And.intro @AOp.isLoad.eq_1 (And.intro @AOp.isLoad.eq_2 (And.intro @bX.eq_1 (And.intro @bX.eq_2 (And.intro @aC.eq_1 (And.intro @aC.eq_2 (And.intro @o8.eq_1 (And.intro @o8.eq_2 (And.intro @o8.eq_3 (And.intro @fO.eq_1 (And.intro @fO.eq_2 (And.intro @wh.eq_1 (And.intro @wh.eq_2 (And.intro @jT.eq_1 (And.intro @jT.eq_2 (And.intro @cellsOf.eq_1 (And.intro @cellsOf.eq_2 (And.intro @AV.plain.eq_1 (And.intro @AV.plain.eq_2 (And.intro @fQ.eq_1 (And.intro @fQ.eq_2 (And.intro @fx.eq_1 (And.intro @fx.eq_2 (And.intro @j8.eq_1 (And.intro @j8.eq_2 (And.intro @iX.eq_1 (And.intro @iX.eq_2 (And.intro @cS.eq_1 (And.intro @cS.eq_2 (And.intro @cS.eq_3 (And.intro @cS.eq_4 (And.intro @cS.eq_5 (And.intro @cS.eq_6 (And.intro @cS.eq_7 (And.intro @cS.eq_8 (And.intro @cS.eq_9 (And.intro @cS.eq_10 (And.intro @MOp.quiet.eq_1 (And.intro @MOp.quiet.eq_2 (And.intro @MOp.quiet.eq_3 (And.intro @MOp.quiet.eq_4 (And.intro @List.toList_toArray.{0} (And.intro @List.drop_zero.{0} (And.intro @List.drop_succ_cons.{0} (And.intro @List.cons_append.{0} (And.intro @List.nil_append.{0} (And.intro @List.append_nil.{0} (And.intro @List.take_succ_cons.{0} (And.intro @List.take_zero.{0} (And.intro @Hc.{0} (And.intro @Hd.{0} (And.intro @List.getElem?_cons_zero.{0} (And.intro @List.getElem?_cons_succ.{0} (And.intro @List.replicate_succ.{0} (And.intro @List.replicate_zero.{0} (And.intro @HH.{0} (And.intro @HG.{0} (And.intro @List.contains_cons.{0} (And.intro @List.contains_nil.{0} (And.intro @zJ (@eq_self.{1})))))))))))))))))))))))))))))))))))))))))))))))))))))))))))))))))))))))))))))))))))))))))))))))))))))))))))))))))))))))))))))))))))))))))))))))))))))))
def RP:=And.intro @bG.eq_1 (And.intro @bG.eq_2 (And.intro @bG.eq_3 (@cI.eq_1)))
def RG:=And.intro @af.eq_1 (And.intro @af.eq_2 (And.intro @bO.eq_1 (And.intro @dZ.eq_1 (And.intro @dZ.eq_2 (And.intro @eP.eq_1 (And.intro @eP.eq_2 (@br.eq_1)))))))
def RA:=And.intro RR (And.intro RE (And.intro RP RG))
end Go.Ab
namespace Go.Sa
open List renaming getElem?_eq_getElem → G7, mem_of_getElem? → G8, getElem?_eq_some_iff → G9, length_cons → Hc, length_nil → Hd, getElem?_append → Hi, flatten_cons → HA, set_cons_succ → HG, set_cons_zero → HH
open Bool renaming false_eq_true → HQ
open Nat renaming le_refl → H4, zero_add → H8
set_option maxHeartbeats 64000000
open Go Go.Ab
abbrev t (n:Nat):Operand:=.tmp n
abbrev i (n:Int):Operand:=.const (.int .i64 n)
abbrev b1:Operand:=.const (.bool true)
abbrev b0:Operand:=.const (.bool false)
abbrev ns:Operand:=.const (.slice none 0 0)
abbrev r (l:List bj):ak:=.region l
abbrev s (d:Nat) (o:AOp):bj:=⟨some d,none,.op o⟩
abbrev sn (o:AOp):bj:=⟨none,none,.op o⟩
abbrev m (d x:Nat):bj:=⟨some d,none,.op (.move (.tmp x))⟩
abbrev l (d x:Nat):bj:=⟨some d,none,.op (.load 1 false (.tmp x))⟩
abbrev fa (d o x:Nat):bj:=⟨some d,none,.op (.fieldA o (.tmp x))⟩
abbrev e (d x k:Nat):bj:=⟨some d,none,.op (.ext (.tmp x) k)⟩
abbrev c (d f:Nat) (xs:List Operand):bj:=⟨some d,none,.call (.func f) xs⟩
abbrev gt (d g:Nat) (o:AOp):bj:=⟨some d,some (g,true),.op o⟩
abbrev gf (d g:Nat) (o:AOp):bj:=⟨some d,some (g,false),.op o⟩
abbrev tl (d g x:Nat):bj:=⟨some d,some (g,true),.op (.load 1 false (.tmp x))⟩
abbrev fl (d g x:Nat):bj:=⟨some d,some (g,false),.op (.load 1 false (.tmp x))⟩
abbrev ta (d g o x:Nat):bj:=⟨some d,some (g,true),.op (.fieldA o (.tmp x))⟩
abbrev fb (d g o x:Nat):bj:=⟨some d,some (g,false),.op (.fieldA o (.tmp x))⟩
abbrev tc (d g f:Nat) (xs:List Operand):bj:=⟨some d,some (g,true),.call (.func f) xs⟩
abbrev fc (d g f:Nat) (xs:List Operand):bj:=⟨some d,some (g,false),.call (.func f) xs⟩
abbrev CX (c:ak):={x:ak // x=c}
set_option linter.defProp false
def QQ:=And.intro @t.eq_1 (And.intro @i.eq_1 (And.intro @b1.eq_1 (And.intro @b0.eq_1 (And.intro @ns.eq_1 (And.intro @r.eq_1 (And.intro @s.eq_1 (And.intro @sn.eq_1 (And.intro @m.eq_1 (And.intro @l.eq_1 (And.intro @fa.eq_1 (And.intro @e.eq_1 (And.intro @c.eq_1 (And.intro @gt.eq_1 (And.intro @gf.eq_1 (And.intro @tl.eq_1 (And.intro @fl.eq_1 (And.intro @ta.eq_1 (And.intro @fb.eq_1 (And.intro @tc.eq_1 (@fc.eq_1))))))))))))))))))))
end Go.Sa
namespace Go.Ab
open List renaming getElem?_eq_getElem → G7, mem_of_getElem? → G8, getElem?_eq_some_iff → G9, length_cons → Hc, length_nil → Hd, getElem?_append → Hi, flatten_cons → HA, set_cons_succ → HG, set_cons_zero → HH
open Bool renaming false_eq_true → HQ
open Nat renaming le_refl → H4, zero_add → H8
set_option maxHeartbeats 64000000
open Go.RowKit
set_option linter.unusedVariables false
set_option linter.unusedSimpArgs false
def jM (h:Heap) (cs:List AV) (h':Heap) (cs':List AV):Prop:=cs.length=cs'.length∧(∀ x∈cs',x.one=true) ∧
 ∀ (w0:World) (K:Wd) (nx:Nat) (c:Nat→Value),Good w0 K h nx→(∀ (i:Nat) x,cs[i]?=some x→VR K nx x (c i))→∃ K',K'.w=K.w∧Ext K nx K' nx∧Good w0 K' h' nx∧∀ (i:Nat) y,cs'[i]?=some y→VR K' nx y (c i)
theorem jM.nil (h:Heap):jM h [] h []:=⟨rfl,fun x hx=>by simp at hx,fun w0 K nx c g hc=>⟨K,rfl,Ext.refl _ _,g,fun i y hy=>by simp at hy⟩⟩
theorem jM.cons {h h1 h2:Heap} {x x':AV} {r r':List AV} (hf:Frz h x h1 x') (o:x'.one=true) (hr:jM h1 r h2 r'):jM h (x::r) h2 (x'::r'):=by
 obtain ⟨hl,ho,hr⟩:=hr
 refine ⟨by simp [hl],fun y hy=>?_,fun w0 K nx c g hc=>?_⟩
 ·rcases List.mem_cons.1 hy with rfl|hy
  ·exact o
  ·exact ho y hy
 ·obtain ⟨K1,a1,a2,a3,a4⟩:=hf w0 K nx (c 0) g (hc 0 x rfl)
  obtain ⟨K2,b1,b2,b3,b4⟩:=hr w0 K1 nx (fun i=>c (i+1)) a3 fun i y hy=>(hc (i+1) y (by simpa using hy)).mono a2
  refine ⟨K2,b1.trans a1,a2.trans b2,b3,fun i y hy=>?_⟩
  cases i with
  | zero=>simp at hy;subst hy;exact a4.mono b2
  | succ i=>exact b4 i y (by simpa using hy)
theorem jM.keep {h h2:Heap} {x:AV} {r r':List AV} (o:x.one=true) (hr:jM h r h2 r'):jM h (x::r) h2 (x::r'):=.cons (.refl _ _) o hr
theorem Frz.agg {h h':Heap} {cs cs':List AV} (hf:jM h cs h' cs'):Frz h (.agg cs) h' (.agg cs'):=fun w0 K nx v g hv=>by
 obtain ⟨hl,ho,hf⟩:=hf
 cases hv with
 | agg _ c hs h1 hc =>
  obtain ⟨K',a1,a2,a3,a4⟩:=hf w0 K nx (fun i=>c.getD i undef) g fun i x hx=>by
   have hi:=(G9.1 hx).1
   have hi':i<c.size:=by omega
   refine hc i x _ hx ?_
   simp [Array.getD,hi']
  refine ⟨K',a1,a2,a3,.agg _ c (by omega) (fun i x hx=>ho x (G8 hx)) fun i y u hy hu=>?_⟩
  have:=a4 i y hy
  have hi:=(Array.getElem?_eq_some_iff.1 hu).1
  have e:c.getD i undef=u:=by
   have:=(Array.getElem?_eq_some_iff.1 hu).2
   simp [Array.getD,hi,this]
  rw [e] at this;exact this
theorem Frz.fpc {h h':Heap} {cs cs':List AV} (hf:jM h cs h' cs'):Frz h (.fp cs) h' (.fp cs'):=fun w0 K nx v g hv=>by
 obtain ⟨hl,ho,hf⟩:=hf
 cases hv with
 | fp _ a c h1 hr hc =>
  obtain ⟨K',a1,a2,a3,a4⟩:=hf w0 K nx c g hc
  exact ⟨K',a1,a2,a3,.fp _ a c (fun i x hx=>ho x (G8 hx)) (fun k hk=>a2.iced (hr k (by omega))) a4⟩
theorem Frz.pt0 {h:Heap} {b:Nat} {cs:List AV} (hb:af h b=some (.cells cs)):Frz h (.op b 0) (dZ h b) (.fp cs):=fun w0 K nx v g hv=>by
 have he:=Ext.ice1 g hb
 refine ⟨K.ice1 b,rfl,he,g.ice1 hb,?_⟩
 obtain ⟨h1,h2,h3,ob,h4,h5⟩:=g.live b _ hb
 cases hv with
 | op _ _ hlt a ha =>
  subst ha
  cases h5 with
  | cells _ c e hsz hone hcs =>
   refine .fp cs _ (fun k=>c.getD k undef) (fun j x hx=>hone j x hx) (fun k hk=>⟨?_,?_⟩) fun j x hx=>?_
   ·rw [dW]
    show K.w.cell? _=_
    rw [eU h4]
    have:0+k<c.size:=by omega
    simp [this,Array.getD_eq_getD_getElem?]
    rw [H8] at this
    simp [this]
   ·rw [dW];exact .inr rfl
   ·have hj:=(G9.1 hx).1
    have hjc:j<c.size:=by omega
    refine (hcs j x _ hx ?_).mono he
    simp [Array.getD,hjc]
theorem Frz.pt {h h':Heap} {b:Nat} {cs cs':List AV} (hb:af h b=some (.cells cs)) (hf:jM (dZ h b) cs h' cs'):Frz h (.op b 0) h' (.fp cs'):=(Frz.pt0 hb).trans (Frz.fpc hf)
end Go.Ab
