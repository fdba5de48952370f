/- Programs of the intermediate language: trees, and what their cells hold. -/
import Derived.Test.YtkhjclmfbmfahaaGreatDoorGD
import Derived.Test.YtkhjclmfbmfahaaGreatDoorRows
import Derived.KernelRfl
namespace Go.Proofs.YtkhjclmfbmfahaaGreatDoor
open List renaming getElem?_eq_getElem → Fo, getElem?_eq_some_iff → Fq, take_of_length_le → Fs, length_cons → Fu, length_nil → Fv, length_take → Fx, mem_map → Fy, mem_append → FE, take_length → FO, length_drop → FP
open Bool renaming and_eq_true → Gd, true_and → Ge, false_and → Gf, not_eq_true → Gh, true_or → Gl, false_or → Gm
open Nat renaming le_refl → Gp, zero_le → Gx
open Int renaming toNat_natCast → Gz, natCast_nonneg → GB
set_option maxHeartbeats 64000000
open Go Go.Ab Go.Proofs
open Nat renaming reduceEqDiff → zp, reduceAdd → zq, reduceLeDiff → zr, reduceLT → zs, reduceBEq → zt
set_option linter.unusedVariables false
set_option linter.unusedSimpArgs false
set_option maxRecDepth 20000
abbrev Nm:=List UInt8
abbrev Pm:=Nm × Int
inductive Tm where
 | mk (kind width bits:Int) (name:Nm) (low:Int) (sub:List Tm)
def Tm.kind:Tm→Int|.mk k _ _ _ _ _=>k
def Tm.width:Tm→Int|.mk _ w _ _ _ _=>w
def Tm.bits:Tm→Int|.mk _ _ b _ _ _=>b
def Tm.name:Tm→Nm|.mk _ _ _ n _ _=>n
def Tm.low:Tm→Int|.mk _ _ _ _ l _=>l
def Tm.sub:Tm→List Tm|.mk _ _ _ _ _ s=>s
structure St where
 kind:Int
 var:Nm
 func:Nm
 terms:List Tm
structure Bk where
 steps:List St
 kind:Int
 func:Nm
 terms:List Tm
 to:List Int
structure Fn where
 name:Nm
 params:List Pm
 result:Int
 locals:List Pm
 blocks:List Bk
abbrev Pi:=List Fn
mutual
def tmE:Tm→List AV
 | .mk k w b n l s=>[.int .u8 k,.int .i64 w,.int .u64 b,.str n,.int .i64 l,.lst 6 (pr s)]
def pr:List Tm→List (List AV)
 | []=>[]
 | x::r=>tmE x::pr r
end
theorem kv:∀ l:List Tm,pr l=l.map tmE
 | []=>by simp [pr]
 | x::r=>by simp [pr,kv r]
def bg (l:List Tm):AV:=.lst 6 (l.map tmE)
def inE (w:Int):List AV:=[.int .i64 w]
def cD (l:List Int):AV:=.lst 1 (l.map inE)
def pmE (p:Pm):List AV:=[.str p.1,.int .i64 p.2]
def bp (l:List Pm):AV:=.lst 2 (l.map pmE)
def stE (s:St):List AV:=[.int .u8 s.kind,.str s.var,.str s.func,bg s.terms]
def eH (l:List St):AV:=.lst 4 (l.map stE)
def bkE (b:Bk):List AV:=[eH b.steps,.int .u8 b.kind,.str b.func,bg b.terms,cD b.to]
def cp (l:List Bk):AV:=.lst 5 (l.map bkE)
def fnE (f:Fn):List AV:=[.str f.name,bp f.params,.int .i64 f.result,bp f.locals,cp f.blocks]
def bM (l:List Fn):AV:=.lst 5 (l.map fnE)
def piE (p:Pi):List AV:=[bM p]
theorem aZ (x:Tm):tmE x=[.int .u8 x.kind,.int .i64 x.width,.int .u64 x.bits,.str x.name,.int .i64 x.low,bg x.sub]:=by
 cases x;simp [tmE,Tm.kind,Tm.width,Tm.bits,Tm.name,Tm.low,Tm.sub,bg,kv]
theorem gI (k w b:Int) (n:Nm) (l:Int) (s:List Tm):tmE (.mk k w b n l s)=[.int .u8 k,.int .i64 w,.int .u64 b,.str n,.int .i64 l,bg s]:=aZ _
theorem bw (l:List Tm):eN (bg l)=some l.length:=by simp [bg,eM]
theorem bh {l:List Tm} {n:Nat} {r:Tm} (h:l[n]?=some r):idxA 6 (bg l) (n:Int)=some (.fp (tmE r)):=dB h
theorem aY (x:Tm):(tmE x).length=6:=by rw [aZ];rfl
theorem aU (x:Tm):(tmE x).take 6=tmE x:=Fs (by rw [aY];omega)
theorem ke (l:List Tm):∀ z∈l.map tmE,z.length=6:=fun z hz=>by
 obtain ⟨r,_,rfl⟩:=Fy.1 hz;exact aY r
theorem ak (l:List Tm):cellsOf (bg l)=[bg l]:=rfl
theorem aj (l:List Tm):(bg l).plain=true:=rfl
theorem eO (l:List Int):eN (cD l)=some l.length:=by simp [cD,eM]
theorem eu {l:List Int} {n:Nat} {r:Int} (h:l[n]?=some r):idxA 1 (cD l) (n:Int)=some (.fp (inE r)):=dB h
theorem aC (l:List Int):cellsOf (cD l)=[cD l]:=rfl
theorem aB (l:List Int):(cD l).plain=true:=rfl
theorem bW (l:List Pm):eN (bp l)=some l.length:=by simp [bp,eM]
theorem dG {l:List Pm} {n:Nat} {r:Pm} (h:l[n]?=some r):idxA 2 (bp l) (n:Int)=some (.fp (pmE r)):=dB h
theorem pD (x:Pm):(pmE x).length=2:=rfl
theorem mJ (x:Pm):(pmE x).take 2=pmE x:=rfl
theorem jA (v:Pm):pmE v=[.str v.1,.int .i64 v.2]:=rfl
theorem dR (l:List Pm):∀ z∈l.map pmE,z.length=2:=fun z hz=>by
 obtain ⟨r,_,rfl⟩:=Fy.1 hz;rfl
theorem au (l:List Pm):cellsOf (bp l)=[bp l]:=rfl
theorem ar (l:List Pm):(bp l).plain=true:=rfl
theorem eh (l:List St):eN (eH l)=some l.length:=by simp [eH,eM]
theorem fv {l:List St} {n:Nat} {r:St} (h:l[n]?=some r):idxA 4 (eH l) (n:Int)=some (.fp (stE r)):=dB h
theorem aE (l:List St):cellsOf (eH l)=[eH l]:=rfl
theorem aD (l:List St):(eH l).plain=true:=rfl
theorem gq (t:St):stE t=[.int .u8 t.kind,.str t.var,.str t.func,bg t.terms]:=rfl
theorem pv (b:St):(stE b).length=4:=rfl
theorem rq (b:St):(stE b).take 4=stE b:=rfl
theorem dv (l:List Bk):eN (cp l)=some l.length:=by simp [cp,eM]
theorem dH {l:List Bk} {n:Nat} {r:Bk} (h:l[n]?=some r):idxA 5 (cp l) (n:Int)=some (.fp (bkE r)):=dB h
theorem ay (l:List Bk):cellsOf (cp l)=[cp l]:=rfl
theorem aw (l:List Bk):(cp l).plain=true:=rfl
theorem eD (b:Bk):bkE b=[eH b.steps,.int .u8 b.kind,.str b.func,bg b.terms,cD b.to]:=rfl
theorem iL (b:Bk):(bkE b).length=5:=rfl
theorem jp (b:Bk):(bkE b).take 5=bkE b:=rfl
theorem cX (l:List Fn):eN (bM l)=some l.length:=by simp [bM,eM]
theorem cL {l:List Fn} {n:Nat} {r:Fn} (h:l[n]?=some r):idxA 5 (bM l) (n:Int)=some (.fp (fnE r)):=dB h
theorem aA (l:List Fn):cellsOf (bM l)=[bM l]:=rfl
theorem az (l:List Fn):(bM l).plain=true:=rfl
theorem bN (x:Fn):fnE x=[.str x.name,bp x.params,.int .i64 x.result,bp x.locals,cp x.blocks]:=rfl
theorem mY (x:Fn):(fnE x).length=5:=rfl
theorem mX (x:Fn):(fnE x).take 5=fnE x:=rfl
theorem rS (l:List Fn):∀ z∈l.map fnE,z.length=5:=fun z hz=>by
 obtain ⟨r,_,rfl⟩:=Fy.1 hz;rfl
theorem aQ {α:Type} {l:List α} {i:Nat} {r:α} (h:l[i]?=some r):l.take (i+1)=l.take i++[r]:=by
 rw [List.take_add_one,h];rfl
theorem bA {α:Type} {l:List α} {i:Nat} {r:α} (h:l[i]?=some r):l.drop i=r::l.drop (i+1):=by
 have hl:=(Fq.1 h).1
 rw [List.drop_eq_getElem_cons hl];congr 1
 rw [Fo hl] at h;injection h
theorem ai (p:Prop) [Decidable p]:(p∧p=True)∨(¬ p∧p=False):=by
 by_cases h:p
 ·exact .inl ⟨h,eq_true h⟩
 ·exact .inr ⟨h,eq_false h⟩
theorem tK (p:Prop) [Decidable p]:(¬ p∧p=False)∨(p∧p=True):=by
 by_cases h:p
 ·exact .inr ⟨h,eq_true h⟩
 ·exact .inl ⟨h,eq_false h⟩
inductive Wy (g:Nat→List Nat) (av:Nat→Prop) (a:Nat):Nat→Prop
 | nil (h:¬ av a):Wy g av a a
 | snoc {u c:Nat} (h:Wy g av a u) (hc:c∈g u) (hv:¬ av c):Wy g av a c
section
variable {g:Nat→List Nat}
theorem Wy.end_ok {av:Nat→Prop} {a b:Nat} (h:Wy g av a b):¬ av b:=by cases h <;> assumption
theorem Wy.start_ok {av:Nat→Prop} {a b:Nat} (h:Wy g av a b):¬ av a:=by induction h <;> assumption
theorem Wy.weak {av av':Nat→Prop} (hw:∀ x,av' x→av x) {a b:Nat} (h:Wy g av a b):Wy g av' a b:=by
 induction h with
 | nil h=>exact .nil fun hh=>h (hw _ hh)
 | snoc h hc hv ih=>exact .snoc ih hc fun hh=>hv (hw _ hh)
theorem Wy.trans {av:Nat→Prop} {a b c:Nat} (h:Wy g av a b) (h':Wy g av b c):Wy g av a c:=by
 induction h' with
 | nil _=>exact h
 | snoc _ hc hv ih=>exact .snoc ih hc hv
theorem Wy.one {av:Nat→Prop} {a c:Nat} (h:¬ av a) (hc:c∈g a) (hv:¬ av c):Wy g av a c:=.snoc (.nil h) hc hv
theorem Wy.head {av:Nat→Prop} {a b:Nat} (h:Wy g av a b):a=b∨∃ c,c∈g a∧Wy g av c b:=by
 induction h with
 | nil h=>exact .inl rfl
 | snoc h hc hv ih =>
  rcases ih with rfl|⟨c,h1,h2⟩
  ·exact .inr ⟨_,hc,.nil hv⟩
  ·exact .inr ⟨c,h1,.snoc h2 hc hv⟩
theorem Wy.back {av:Nat→Prop} {p:Nat→Prop} {a b:Nat} (h:Wy g av a b) (hb:p b) (hs:∀ u c,Wy g av a u→c∈g u→¬ av c→p c→p u):p a:=by
 induction h with
 | nil h=>exact hb
 | snoc h hc hv ih=>exact ih (hs _ _ h hc hv hb)
def Rch (g:Nat→List Nat) (b:Nat):Prop:=Wy g (fun _=>False) 0 b
theorem Rch.zero:Rch g 0:=.nil fun h=>h
theorem Rch.step {u c:Nat} (h:Rch g u) (hc:c∈g u):Rch g c:=.snoc h hc fun h=>h
theorem Wy.rch {av:Nat→Prop} {b:Nat} (h:Wy g av 0 b):Rch g b:=h.weak fun _ hh=>hh.elim
theorem Wy.rchFrom {av:Nat→Prop} {a b:Nat} (ha:Rch g a) (h:Wy g av a b):Rch g b:=ha.trans (h.weak fun _ hh=>hh.elim)
def Dm (g:Nat→List Nat) (a b:Nat):Prop:=Rch g a∧Rch g b∧¬ Wy g (fun x=>x=a) 0 b
theorem Dm.refl {b:Nat} (h:Rch g b):Dm g b b:=⟨h,h,fun w=>w.end_ok rfl⟩
theorem Dm.zero {b:Nat} (h:Rch g b):Dm g 0 b:=⟨.zero,h,fun w=>w.start_ok rfl⟩
theorem Dm.of_zero {a:Nat} (h:Dm g a 0):a=0:=by
 by_cases e:a=0
 ·exact e
 ·exact absurd (.nil fun h=>e h.symm) h.2.2
theorem Dm.pred {a b u:Nat} (h:Dm g a b) (hne:a≠b) (hu:Rch g u) (hb:b∈g u):Dm g a u:=⟨h.1,hu,fun w=>h.2.2 (.snoc w hb fun e=>hne e.symm)⟩
theorem Wy.split {a b c:Nat} (h:Wy g (fun x=>x=a) 0 c):Wy g (fun x=>x=b) 0 c∨Wy g (fun x=>x=a) 0 b:=by
 induction h with
 | nil h =>
  by_cases e:0=b
  ·exact .inr (e ▸ .nil h)
  ·exact .inl (.nil e)
 | @snoc u c w hc hv ih =>
  rcases ih with i|i
  ·by_cases e:c=b
   ·exact .inr (e ▸ .snoc w hc hv)
   ·exact .inl (.snoc i hc e)
  ·exact .inr i
theorem Dm.trans {a b c:Nat} (h:Dm g a b) (h':Dm g b c):Dm g a c:=⟨h.1,h'.2.1,fun w=>by
 rcases w.split (b:=b) with i|i
 ·exact h'.2.2 i
 ·exact h.2.2 i⟩
theorem Wy.closed {av:Nat→Prop} {S:Nat→Prop} {a b:Nat} (h:Wy g av a b) (ha:S a) (hs:∀ u c,S u→c∈g u→¬ av c→S c):S b:=by
 induction h with
 | nil _=>exact ha
 | snoc _ hc hv ih=>exact hs _ _ ih hc hv
end
def msk:List Nat→Nat
 | []=>0
 | x::r=>msk r ||| 2 ^ x
theorem ua (x:Nat):∀ s:List Nat,(msk s).testBit x=decide (x∈s)
 | []=>by simp [msk]
 | y::r=>by
  simp only [msk,Nat.testBit_or,ua x r,Nat.testBit_two_pow,List.mem_cons]
  by_cases h1:x∈r <;> by_cases h2:y=x <;> simp [h1,h2]
  exact fun h=>h2 h.symm
theorem uY:∀ {s:List Nat},(∀ x∈s,x<64)→msk s<18446744073709551616
 | [],_=>by simp [msk]
 | y::r,h=>by
  have h1:=uY (s:=r) fun x hx=>h x (List.mem_cons_of_mem _ hx)
  have h2:2 ^ y<2 ^ 64:=Nat.pow_lt_pow_right (by omega) (h y (by simp))
  exact Nat.or_lt_two_pow (n:=64) h1 h2
theorem lR:∀ (n:Nat) {l:List Nat},l.Nodup→(∀ x∈l,x<n)→l.length≤n
 | 0,l,_,h=>by
  cases l with
  | nil=>exact Gp _
  | cons a r=>exact absurd (h a (by simp)) (by omega)
 | n+1,l,hn,h=>by
  have:=lR n (l:=l.erase n) (hn.erase n) fun x hx=>by
   have h1:=h x (List.mem_of_mem_erase hx)
   have h2:x≠n:=fun e=>by subst e;exact hn.not_mem_erase hx
   omega
  have h3:=List.length_erase (a:=n) (l:=l)
  split at h3 <;> omega
section
variable (G:Nat→List Nat)
structure DR (n:Nat) (rt:Nat→Prop) (st r:List Nat × List Nat):Prop where
 nd:r.1.Nodup
 lt:∀ x∈r.1,x<n
 len:st.1.length≤r.1.length
 out:∃ t,r.2=st.2++t∧(∀ x,x∈r.1↔x∈st.1∨x∈t)∧t.Nodup∧(∀ x∈t,x∉st.1)∧(∀ x∈t,∀ c∈G x,c∈r.1)∧∀ x∈t,∃ y,rt y∧Wy G (fun _=>False) y x
variable {G}
theorem DR.refl {n:Nat} {rt:Nat→Prop} {st:List Nat × List Nat} (h1:st.1.Nodup) (h2:∀ x∈st.1,x<n):DR G n rt st st :=
 ⟨h1,h2,Gp _,[],by simp,fun x=>by simp,.nil,by simp,by simp,by simp⟩
theorem DR.trans {n:Nat} {rt:Nat→Prop} {a b c:List Nat × List Nat} (h:DR G n rt a b) (h':DR G n rt b c):DR G n rt a c:=by
 obtain ⟨a1,a2,a3,t,a4,a5,a6,a7,a8,a9⟩:=h
 obtain ⟨b1,b2,b3,u,b4,b5,b6,b7,b8,b9⟩:=h'
 refine ⟨b1,b2,by omega,t++u,by rw [b4,a4,List.append_assoc],fun x=>?_,?_,fun x hx=>?_,fun x hx=>?_,fun x hx=>?_⟩
 ·rw [b5,a5,FE]
  exact ⟨fun h=>by rcases h with (h|h)|h <;> simp [h],fun h=>by rcases h with h|h|h <;> simp [h]⟩
 ·exact List.nodup_append.2 ⟨a6,b6,fun x hx y hy e=>by subst e;exact b7 x hy ((a5 x).2 (.inr hx))⟩
 ·rcases FE.1 hx with h|h
  ·exact a7 x h
  ·exact fun hh=>b7 x h ((a5 x).2 (.inl hh))
 ·rcases FE.1 hx with h|h
  ·exact fun c hc=>(b5 c).2 (.inl (a8 x h c hc))
  ·exact b8 x h
 ·rcases FE.1 hx with h|h
  ·exact a9 x h
  ·exact b9 x h
structure OkS (n:Nat) (st:List Nat × List Nat):Prop where
 nd:st.1.Nodup
 lt:∀ x∈st.1,x<n
 nd2:st.2.Nodup
 sub:∀ x∈st.2,x∈st.1
theorem OkS.of {n:Nat} {rt:Nat→Prop} {st r:List Nat × List Nat} (o:OkS n st) (d:DR G n rt st r):OkS n r:=by
 obtain ⟨a1,a2,a3,t,a4,a5,a6,a7,a8,a9⟩:=d
 refine ⟨a1,a2,?_,fun x hx=>?_⟩
 ·rw [a4]
  exact List.nodup_append.2 ⟨o.nd2,a6,fun x hx y hy e=>by subst e;exact a7 x hy (o.sub x hx)⟩
 ·rw [a4] at hx
  rcases FE.1 hx with h|h
  ·exact (a5 x).2 (.inl (o.sub x h))
  ·exact (a5 x).2 (.inr h)
theorem OkS.len {n:Nat} {st:List Nat × List Nat} (o:OkS n st):st.2.length≤n:=lR n o.nd2 fun x hx=>o.lt x (o.sub x hx)
theorem OkS.enter {n b:Nat} {st:List Nat × List Nat} (o:OkS n st) (hb:b<n) (h:b∉st.1):OkS n (b::st.1,st.2) :=
 ⟨List.nodup_cons.2 ⟨h,o.nd⟩,fun x hx=>by
  rcases List.mem_cons.1 hx with e|e
  ·omega
  ·exact o.lt x e,o.nd2,fun x hx=>List.mem_cons_of_mem _ (o.sub x hx)⟩
end
open Go Go.Ab Go.Sa Go.Proofs
set_option maxRecDepth 100000
def sr:CX (.seq (.seq (r [m 48 6,m 49 5,s 50 (.len (t 49)),s 51 (.bin .lss (t 48) (t 50))]) (.cond (t 51) .skip (.exit 2))) (.seq (.block 3 (.seq (r [m 54 5,m 55 6,s 56 (.idxA 2 (t 54) (t 55)),fa 57 0 56,l 58 57,s 59 (.lens (t 58)),s 60 (.bin .gtr (t 59) (i 200))]) (.cond (t 60) (.seq (r [s 2 (.move b1)]) .ret) .skip))) (r [m 52 6,s 53 (.bin .add (t 52) (i 1)),m 6 53]))):=⟨_,by simp only [QQ];rfl⟩
def zO:aF:=sr.1
def xa:CX (.seq (.seq (r [m 61 7,fa 62 4 4,l 63 62,s 64 (.len (t 63)),s 65 (.bin .lss (t 61) (t 64))]) (.cond (t 65) .skip (.exit 4))) (.seq (.block 5 (.seq (r [fa 68 4 4,l 69 68,m 70 7,s 71 (.idxA 5 (t 69) (t 70)),s 72 (.load 5 true (t 71)),c 73 20 [(t 72)]]) (.cond (t 73) (.seq (r [s 2 (.move b1)]) .ret) .skip))) (r [m 66 7,s 67 (.bin .add (t 66) (i 1)),m 7 67]))):=⟨_,by simp only [QQ];rfl⟩
def Ct:aF:=xa.1
def lh:CX (.seq (.seq (r [m 12 3,fa 13 0 1,l 14 13,s 15 (.len (t 14)),s 16 (.bin .lss (t 12) (t 15))]) (.cond (t 16) .skip (.exit 0))) (.seq (.block 1 (.seq (r [fa 19 0 1,l 20 19,m 21 3,s 22 (.idxA 5 (t 20) (t 21)),s 23 (.load 5 true (t 22)),s 4 (.alloc [(.str []),.nilS,(.int .i64 0),.nilS,.nilS]),sn (.store 5 (t 4) (t 23))]) (.seq (.seq (r [fa 24 1 4,l 25 24,s 26 (.len (t 25)),s 27 (.bin .gtr (t 26) (i 50)),m 28 27,fb 29 28 3 4,fl 30 28 29,gf 31 28 (.len (t 30)),gf 32 28 (.bin .gtr (t 31) (i 50)),s 33 (.pick (t 28) b1 (t 32)),m 34 33,fb 35 34 4 4,fl 36 34 35,gf 37 34 (.len (t 36)),gf 38 34 (.bin .gtr (t 37) (i 70)),s 39 (.pick (t 34) b1 (t 38)),m 40 39,fb 41 40 0 4,fl 42 40 41,gf 43 40 (.lens (t 42)),gf 44 40 (.bin .gtr (t 43) (i 200)),s 45 (.pick (t 40) b1 (t 44))]) (.cond (t 45) (.seq (r [s 2 (.move b1)]) .ret) .skip)) (.seq (r [s 46 (.load 5 true (t 4)),c 47 19 [(t 46)],m 5 47]) (.seq (.seq (r [s 6 (.move (i 0))]) (.block 2 (.loop zO))) (.seq (r [s 7 (.move (i 0))]) (.block 4 (.loop Ct)))))))) (r [m 17 3,s 18 (.bin .add (t 17) (i 1)),m 3 18]))):=⟨_,by simp only [QQ];rfl⟩
def qB:aF:=lh.1
def A5p:CX (.seq (r [s 1 (.box (t 0)),s 2 (.move b0)]) (.seq (.seq (r [fa 8 0 1,l 9 8,s 10 (.len (t 9)),s 11 (.bin .gtr (t 10) (i 18))]) (.cond (t 11) (.seq (r [s 2 (.move b1)]) .ret) .skip)) (.seq (.seq (r [s 3 (.move (i 0))]) (.block 0 (.loop qB))) (.seq (r [s 74 (.load 1 true (t 1)),c 75 21 [(t 74)],s 76 (.bin .gtr (t 75) (i 4000)),m 2 76]) .ret)))):=⟨_,by simp only [QQ];rfl⟩
def A5:aF:=A5p.1
def R5:List RV:=[.tmp 2]
theorem is5:Is Tryz.prog (fun _ _=>false) 5 77 A5 R5:=⟨Tryz.f5,Tryz.func5,rfl,by kernel_rfl,by kernel_rfl,Tryz.call5⟩
def wQ:CX (.seq (.seq (r [m 37 7,fa 38 4 5,l 39 38,s 40 (.len (t 39)),s 41 (.bin .lss (t 37) (t 40))]) (.cond (t 41) .skip (.exit 2))) (.seq (.block 3 (.dregion [⟨0,fa 44 4 6,[]⟩,⟨1,l 45 44,[]⟩,⟨2,fa 46 4 5,[]⟩,⟨3,l 47 46,[]⟩,⟨4,m 48 7,[]⟩,⟨5,s 49 (.idxA 5 (t 47) (t 48)),[]⟩,⟨6,s 50 (.load 5 true (t 49)),[]⟩,⟨7,c 51 22 [(t 50)],[0,1]⟩,⟨8,s 52 (.buildF [.nilS,(.int .u8 0),(.str []),.nilS,.nilS] 1 [(0,(t 51))]),[]⟩,⟨9,s 53 (.app 64 5 96 (t 45) (t 52)),[]⟩,⟨10,fa 54 4 6,[]⟩,⟨11,sn (.store 1 (t 54) (t 53)),[]⟩])) (r [m 42 7,s 43 (.bin .add (t 42) (i 1)),m 7 43]))):=⟨_,by simp only [QQ];rfl⟩
def Cq:aF:=wQ.1
def wP:CX (.seq (.seq (r [m 8 4,fa 9 0 1,l 10 9,s 11 (.len (t 10)),s 12 (.bin .lss (t 8) (t 11))]) (.cond (t 12) .skip (.exit 0))) (.seq (.block 1 (.seq (r [fa 15 0 1,l 16 15,m 17 4,s 18 (.idxA 5 (t 16) (t 17)),s 19 (.load 5 true (t 18)),s 5 (.alloc [(.str []),.nilS,(.int .i64 0),.nilS,.nilS]),sn (.store 5 (t 5) (t 19))]) (.seq (r [fa 20 0 5,l 21 20,fa 22 2 5,l 23 22,s 24 (.build [(.str []),.nilS,(.int .i64 0),.nilS,.nilS] [(0,1,(t 21)),(2,1,(t 23))]),s 6 (.alloc [(.str []),.nilS,(.int .i64 0),.nilS,.nilS]),sn (.store 5 (t 6) (t 24))]) (.seq (r [fa 25 1 6,l 26 25,fa 27 1 5,l 28 27,s 29 (.app 57 2 24 (t 26) (t 28)),fa 30 1 6,sn (.store 1 (t 30) (t 29))]) (.seq (r [fa 31 3 6,l 32 31,fa 33 3 5,l 34 33,s 35 (.app 57 2 24 (t 32) (t 34)),fa 36 3 6,sn (.store 1 (t 36) (t 35))]) (.seq (.seq (r [s 7 (.move (i 0))]) (.block 2 (.loop Cq))) (r [fa 55 0 3,l 56 55,s 57 (.load 5 true (t 6)),s 58 (.buildF [(.str []),.nilS,(.int .i64 0),.nilS,.nilS] 1 [(0,(t 57))]),s 59 (.app 54 5 96 (t 56) (t 58)),fa 60 0 3,sn (.store 1 (t 60) (t 59))]))))))) (r [m 13 4,s 14 (.bin .add (t 13) (i 1)),m 4 14]))):=⟨_,by simp only [QQ];rfl⟩
def Cp:aF:=wP.1
def A6p:CX (.seq (r [s 1 (.box (t 0)),s 2 (.alloc [.nilS])]) (.seq (r [s 3 (.alloc [.nilS])]) (.seq (.seq (r [s 4 (.move (i 0))]) (.block 0 (.loop Cp))) (.seq (r [s 61 (.load 1 true (t 3)),sn (.store 1 (t 2) (t 61))]) .ret)))):=⟨_,by simp only [QQ];rfl⟩
def A6:aF:=A6p.1
def R6:List RV:=[.cell 2 1 true]
theorem is6:Is Tryz.prog (fun _ _=>false) 6 62 A6 R6:=⟨Tryz.f6,Tryz.func6,rfl,by kernel_rfl,by kernel_rfl,Tryz.call6⟩
def q9:CX (.seq (.seq (r [m 79 10,m 80 8,s 81 (.len (t 80)),s 82 (.bin .lss (t 79) (t 81))]) (.cond (t 82) .skip (.exit 2))) (.seq (.block 3 (.seq (.dregion [⟨0,m 85 8,[]⟩,⟨1,m 86 10,[]⟩,⟨2,s 87 (.idxA 2 (t 85) (t 86)),[]⟩,⟨3,s 88 (.load 2 true (t 87)),[]⟩,⟨4,m 89 9,[]⟩,⟨5,m 90 10,[]⟩,⟨6,s 91 (.idxA 2 (t 89) (t 90)),[]⟩,⟨7,s 92 (.load 2 true (t 91)),[]⟩,⟨8,s 93 (.eqS true [.str,.int] (t 88) (t 92)),[]⟩]) (.cond (t 93) (.seq (r [s 4 (.move b0)]) .ret) .skip))) (r [m 83 10,s 84 (.bin .add (t 83) (i 1)),m 10 84]))):=⟨_,by simp only [QQ];rfl⟩
def xL:aF:=q9.1
def q8:CX (.seq (.seq (r [m 94 11,fa 95 4 6,l 96 95,s 97 (.len (t 96)),s 98 (.bin .lss (t 94) (t 97))]) (.cond (t 98) .skip (.exit 4))) (.seq (.block 5 (.seq (.dregion [⟨0,fa 101 4 6,[]⟩,⟨1,l 102 101,[]⟩,⟨2,m 103 11,[]⟩,⟨3,s 104 (.idxA 5 (t 102) (t 103)),[]⟩,⟨4,s 105 (.load 5 true (t 104)),[]⟩,⟨5,fa 106 4 7,[]⟩,⟨6,l 107 106,[]⟩,⟨7,m 108 11,[]⟩,⟨8,s 109 (.idxA 5 (t 107) (t 108)),[]⟩,⟨9,s 110 (.load 5 true (t 109)),[]⟩,⟨10,c 111 35 [(t 105),(t 110)],[]⟩,⟨11,s 112 (.un .not (t 111)),[]⟩]) (.cond (t 112) (.seq (r [s 4 (.move b0)]) .ret) .skip))) (r [m 99 11,s 100 (.bin .add (t 99) (i 1)),m 11 100]))):=⟨_,by simp only [QQ];rfl⟩
def xK:aF:=q8.1
def q7:CX (.seq (.seq (r [m 19 5,fa 20 0 2,l 21 20,s 22 (.len (t 21)),s 23 (.bin .lss (t 19) (t 22))]) (.cond (t 23) .skip (.exit 0))) (.seq (.block 1 (.seq (.dregion [⟨0,fa 26 0 2,[]⟩,⟨1,l 27 26,[]⟩,⟨2,m 28 5,[]⟩,⟨3,s 29 (.idxA 5 (t 27) (t 28)),[]⟩,⟨4,s 30 (.load 5 true (t 29)),[]⟩,⟨5,fa 31 0 3,[]⟩,⟨6,l 32 31,[]⟩,⟨7,m 33 5,[]⟩,⟨8,s 34 (.idxA 5 (t 32) (t 33)),[]⟩,⟨9,s 35 (.load 5 true (t 34)),[]⟩,⟨10,s 6 (.alloc [(.str []),.nilS,(.int .i64 0),.nilS,.nilS]),[0,1,2,3,4,5,6,7,8,9]⟩,⟨11,s 7 (.alloc [(.str []),.nilS,(.int .i64 0),.nilS,.nilS]),[0,1,2,3,4,5,6,7,8,9]⟩,⟨12,sn (.store 5 (t 6) (t 30)),[5,6,7,8,9]⟩,⟨13,sn (.store 5 (t 7) (t 35)),[]⟩]) (.seq (.seq (r [fa 36 0 6,l 37 36,fa 38 0 7,l 39 38,s 40 (.bin .neq (t 37) (t 39)),m 41 40,fb 42 41 2 6,fl 43 41 42,fb 44 41 2 7,fl 45 41 44,gf 46 41 (.bin .neq (t 43) (t 45)),s 47 (.pick (t 41) b1 (t 46)),m 48 47,fb 49 48 1 6,fl 50 48 49,gf 51 48 (.len (t 50)),fb 52 48 1 7,fl 53 48 52,gf 54 48 (.len (t 53)),gf 55 48 (.bin .neq (t 51) (t 54)),s 56 (.pick (t 48) b1 (t 55)),m 57 56,fb 58 57 3 6,fl 59 57 58,gf 60 57 (.len (t 59)),fb 61 57 3 7,fl 62 57 61,gf 63 57 (.len (t 62)),gf 64 57 (.bin .neq (t 60) (t 63)),s 65 (.pick (t 57) b1 (t 64)),m 66 65,fb 67 66 4 6,fl 68 66 67,gf 69 66 (.len (t 68)),fb 70 66 4 7,fl 71 66 70,gf 72 66 (.len (t 71)),gf 73 66 (.bin .neq (t 69) (t 72)),s 74 (.pick (t 66) b1 (t 73))]) (.cond (t 74) (.seq (r [s 4 (.move b0)]) .ret) .skip)) (.seq (.dregion [⟨0,s 75 (.load 5 true (t 6)),[]⟩,⟨2,s 77 (.load 5 true (t 7)),[]⟩,⟨1,c 76 19 [(t 75)],[2]⟩,⟨3,c 78 19 [(t 77)],[]⟩,⟨4,m 8 76,[]⟩,⟨5,m 9 78,[]⟩]) (.seq (.seq (r [s 10 (.move (i 0))]) (.block 2 (.loop xL))) (.seq (r [s 11 (.move (i 0))]) (.block 4 (.loop xK)))))))) (r [m 24 5,s 25 (.bin .add (t 24) (i 1)),m 5 25]))):=⟨_,by simp only [QQ];rfl⟩
def xJ:aF:=q7.1
def Fe:CX (.seq (r [s 2 (.box (t 0)),s 3 (.box (t 1)),s 4 (.move b0)]) (.seq (.seq (r [fa 12 0 2,l 13 12,s 14 (.len (t 13)),fa 15 0 3,l 16 15,s 17 (.len (t 16)),s 18 (.bin .neq (t 14) (t 17))]) (.cond (t 18) (.seq (r [s 4 (.move b0)]) .ret) .skip)) (.seq (.seq (r [s 5 (.move (i 0))]) (.block 0 (.loop xJ))) (.seq (r [s 4 (.move b1)]) .ret)))):=⟨_,by simp only [QQ];rfl⟩
def A10:aF:=Fe.1
def R10:List RV:=[.tmp 4]
theorem is10:Is Tryz.prog (fun _ _=>false) 10 113 A10 R10:=⟨Tryz.f10,Tryz.func10,rfl,by kernel_rfl,by kernel_rfl,Tryz.call10⟩
def qZ:CX (.seq (.seq (r [m 6 4,fa 7 1 1,l 8 7,s 9 (.len (t 8)),s 10 (.bin .lss (t 6) (t 9))]) (.cond (t 10) .skip (.exit 0))) (.seq (.block 1 (r [m 13 3,fa 14 1 1,l 15 14,m 16 4,s 17 (.idxA 2 (t 15) (t 16)),s 18 (.load 2 true (t 17)),s 19 (.buildF [(.str []),(.int .i64 0)] 1 [(0,(t 18))]),s 20 (.app 57 2 24 (t 13) (t 19)),m 3 20])) (r [m 11 4,s 12 (.bin .add (t 11) (i 1)),m 4 12]))):=⟨_,by simp only [QQ];rfl⟩
def xE:aF:=qZ.1
def qY:CX (.seq (.seq (r [m 21 5,fa 22 3 1,l 23 22,s 24 (.len (t 23)),s 25 (.bin .lss (t 21) (t 24))]) (.cond (t 25) .skip (.exit 2))) (.seq (.block 3 (r [m 28 3,fa 29 3 1,l 30 29,m 31 5,s 32 (.idxA 2 (t 30) (t 31)),s 33 (.load 2 true (t 32)),s 34 (.buildF [(.str []),(.int .i64 0)] 1 [(0,(t 33))]),s 35 (.app 57 2 24 (t 28) (t 34)),m 3 35])) (r [m 26 5,s 27 (.bin .add (t 26) (i 1)),m 5 27]))):=⟨_,by simp only [QQ];rfl⟩
def xD:aF:=qY.1
def E4:CX (.seq (r [s 1 (.box (t 0)),s 2 (.move ns)]) (.seq (r [s 3 (.move ns)]) (.seq (.seq (r [s 4 (.move (i 0))]) (.block 0 (.loop xE))) (.seq (.seq (r [s 5 (.move (i 0))]) (.block 2 (.loop xD))) (.seq (r [m 36 3,m 2 36]) .ret))))):=⟨_,by simp only [QQ];rfl⟩
def A19:aF:=E4.1
def R19:List RV:=[.tmp 2]
theorem is19:Is Tryz.prog (fun _ _=>false) 19 37 A19 R19:=⟨Tryz.f19,Tryz.func19,rfl,by kernel_rfl,by kernel_rfl,Tryz.call19⟩
def qX:CX (.seq (.seq (r [m 29 3,fa 30 0 1,l 31 30,s 32 (.len (t 31)),s 33 (.bin .lss (t 29) (t 32))]) (.cond (t 33) .skip (.exit 0))) (.seq (.block 1 (.seq (r [fa 36 0 1,l 37 36,m 38 3,s 39 (.idxA 4 (t 37) (t 38)),s 40 (.load 4 true (t 39)),s 4 (.alloc [(.int .u8 0),(.str []),(.str []),.nilS]),sn (.store 4 (t 4) (t 40))]) (.seq (r [fa 41 3 4,l 42 41,c 43 42 [(t 42)],m 44 43,fb 45 44 1 4,fl 46 44 45,gf 47 44 (.lens (t 46)),gf 48 44 (.bin .gtr (t 47) (i 200)),s 49 (.pick (t 44) b1 (t 48)),m 50 49,fb 51 50 2 4,fl 52 50 51,gf 53 50 (.lens (t 52)),gf 54 50 (.bin .gtr (t 53) (i 200)),s 55 (.pick (t 50) b1 (t 54))]) (.cond (t 55) (.seq (r [s 2 (.move b1)]) .ret) .skip)))) (r [m 34 3,s 35 (.bin .add (t 34) (i 1)),m 3 35]))):=⟨_,by simp only [QQ];rfl⟩
def xC:aF:=qX.1
def zP:CX (.seq (r [s 1 (.box (t 0)),s 2 (.move b0)]) (.seq (.seq (r [fa 5 0 1,l 6 5,s 7 (.len (t 6)),s 8 (.bin .gtr (t 7) (i 70)),m 9 8,fb 10 9 1 1,fb 11 9 3 10,fl 12 9 11,gf 13 9 (.len (t 12)),gf 14 9 (.bin .gtr (t 13) (i 70)),s 15 (.pick (t 9) b1 (t 14)),m 16 15,fb 17 16 1 1,fb 18 16 2 17,fl 19 16 18,fc 20 16 42 [(t 19)],s 21 (.pick (t 16) b1 (t 20)),m 22 21,fb 23 22 1 1,fb 24 22 1 23,fl 25 22 24,gf 26 22 (.lens (t 25)),gf 27 22 (.bin .gtr (t 26) (i 200)),s 28 (.pick (t 22) b1 (t 27))]) (.cond (t 28) (.seq (r [s 2 (.move b1)]) .ret) .skip)) (.seq (.seq (r [s 3 (.move (i 0))]) (.block 0 (.loop xC))) (.seq (r [s 2 (.move b0)]) .ret)))):=⟨_,by simp only [QQ];rfl⟩
def A20:aF:=zP.1
def R20:List RV:=[.tmp 2]
theorem is20:Is Tryz.prog (fun _ _=>false) 20 56 A20 R20:=⟨Tryz.f20,Tryz.func20,rfl,by kernel_rfl,by kernel_rfl,Tryz.call20⟩
def qW:CX (.seq (.seq (r [m 42 7,fa 43 0 6,l 44 43,s 45 (.len (t 44)),s 46 (.bin .lss (t 42) (t 45))]) (.cond (t 46) .skip (.exit 4))) (.seq (.block 5 (r [m 49 3,s 50 (.bin .add (t 49) (i 1)),fa 51 0 6,l 52 51,m 53 7,s 54 (.idxA 4 (t 52) (t 53)),fa 55 3 54,l 56 55,c 57 43 [(t 56)],s 58 (.bin .add (t 50) (t 57)),m 3 58])) (r [m 47 7,s 48 (.bin .add (t 47) (i 1)),m 7 48]))):=⟨_,by simp only [QQ];rfl⟩
def xB:aF:=qW.1
def qV:CX (.seq (.seq (r [m 15 5,fa 16 0 1,l 17 16,m 18 4,s 19 (.idxA 5 (t 17) (t 18)),fa 20 4 19,l 21 20,s 22 (.len (t 21)),s 23 (.bin .lss (t 15) (t 22))]) (.cond (t 23) .skip (.exit 2))) (.seq (.block 3 (.seq (r [fa 26 0 1,l 27 26,m 28 4,s 29 (.idxA 5 (t 27) (t 28)),fa 30 4 29,l 31 30,m 32 5,s 33 (.idxA 5 (t 31) (t 32)),s 34 (.load 5 true (t 33)),s 6 (.alloc [.nilS,(.int .u8 0),(.str []),.nilS,.nilS]),sn (.store 5 (t 6) (t 34))]) (.seq (r [m 35 3,s 36 (.bin .add (t 35) (i 1)),fa 37 1 6,fa 38 2 37,l 39 38,c 40 43 [(t 39)],s 41 (.bin .add (t 36) (t 40)),m 3 41]) (.seq (r [s 7 (.move (i 0))]) (.block 4 (.loop xB)))))) (r [m 24 5,s 25 (.bin .add (t 24) (i 1)),m 5 25]))):=⟨_,by simp only [QQ];rfl⟩
def xA:aF:=qV.1
def qU:CX (.seq (.seq (r [m 8 4,fa 9 0 1,l 10 9,s 11 (.len (t 10)),s 12 (.bin .lss (t 8) (t 11))]) (.cond (t 12) .skip (.exit 0))) (.seq (.block 1 (.seq (r [s 5 (.move (i 0))]) (.block 2 (.loop xA)))) (r [m 13 4,s 14 (.bin .add (t 13) (i 1)),m 4 14]))):=⟨_,by simp only [QQ];rfl⟩
def xz:aF:=qU.1
def E3:CX (.seq (r [s 1 (.box (t 0)),s 2 (.move (i 0))]) (.seq (r [s 3 (.move (i 0))]) (.seq (.seq (r [s 4 (.move (i 0))]) (.block 0 (.loop xz))) (.seq (r [m 59 3,m 2 59]) .ret)))):=⟨_,by simp only [QQ];rfl⟩
def A21:aF:=E3.1
def R21:List RV:=[.tmp 2]
theorem is21:Is Tryz.prog (fun _ _=>false) 21 60 A21 R21:=⟨Tryz.f21,Tryz.func21,rfl,by kernel_rfl,by kernel_rfl,Tryz.call21⟩
def qT:CX (.seq (.seq (r [m 27 4,fa 28 0 1,l 29 28,s 30 (.len (t 29)),s 31 (.bin .lss (t 27) (t 30))]) (.cond (t 31) .skip (.exit 0))) (.seq (.block 1 (.seq (r [fa 34 0 1,l 35 34,m 36 4,s 37 (.idxA 4 (t 35) (t 36)),s 38 (.load 4 true (t 37)),s 5 (.alloc [(.int .u8 0),(.str []),(.str []),.nilS]),sn (.store 4 (t 5) (t 38))]) (.dregion [⟨0,fa 39 0 3,[]⟩,⟨1,l 40 39,[]⟩,⟨2,fa 41 0 5,[]⟩,⟨3,l 42 41,[]⟩,⟨4,fa 43 1 5,[]⟩,⟨5,l 44 43,[]⟩,⟨6,fa 45 2 5,[]⟩,⟨7,l 46 45,[]⟩,⟨8,fa 47 3 5,[]⟩,⟨9,l 48 47,[]⟩,⟨10,c 49 44 [(t 48)],[0,1,2,3,4,5,6,7]⟩,⟨11,s 50 (.build [(.int .u8 0),(.str []),(.str []),.nilS] [(0,1,(t 42)),(1,1,(t 44)),(2,1,(t 46)),(3,1,(t 49))]),[]⟩,⟨12,s 51 (.buildF [(.int .u8 0),(.str []),(.str []),.nilS] 1 [(0,(t 50))]),[]⟩,⟨13,s 52 (.app 102 4 64 (t 40) (t 51)),[]⟩,⟨14,fa 53 0 3,[]⟩,⟨15,sn (.store 1 (t 53) (t 52)),[]⟩]))) (r [m 32 4,s 33 (.bin .add (t 32) (i 1)),m 4 33]))):=⟨_,by simp only [QQ];rfl⟩
def xy:aF:=qT.1
def E2:CX (.seq (r [s 1 (.box (t 0)),s 2 (.alloc [.nilS,(.int .u8 0),(.str []),.nilS,.nilS])]) (.seq (.dregion [⟨0,fa 6 1 1,[]⟩,⟨1,fa 7 0 6,[]⟩,⟨2,l 8 7,[]⟩,⟨3,fa 9 1 1,[]⟩,⟨4,fa 10 1 9,[]⟩,⟨5,l 11 10,[]⟩,⟨6,fa 12 1 1,[]⟩,⟨7,fa 13 2 12,[]⟩,⟨8,l 14 13,[]⟩,⟨9,⟨(some 15),none,.callZ (.func 44) [(t 14)]⟩,[0,1,2,3,4,5]⟩,⟨10,s 16 (.build [(.int .u8 0),(.str []),.nilS,.nilS] [(0,1,(t 8)),(1,1,(t 11)),(2,1,(t 15))]),[]⟩,⟨11,s 17 (.build [.nilS,(.int .u8 0),(.str []),.nilS,.nilS] [(1,4,(t 16))]),[]⟩,⟨12,s 3 (.alloc [.nilS,(.int .u8 0),(.str []),.nilS,.nilS]),[0,1,2,3,4,5,6,7,8,10,11]⟩,⟨13,sn (.store 5 (t 3) (t 17)),[]⟩]) (.seq (r [fa 18 1 3,fa 19 3 18,l 20 19,fa 21 1 1,fa 22 3 21,l 23 22,s 24 (.app 3 1 8 (t 20) (t 23)),fa 25 1 3,fa 26 3 25,sn (.store 1 (t 26) (t 24))]) (.seq (.seq (r [s 4 (.move (i 0))]) (.block 0 (.loop xy))) (.seq (r [s 54 (.load 5 true (t 3)),sn (.store 5 (t 2) (t 54))]) .ret))))):=⟨_,by simp only [QQ];rfl⟩
def A22:aF:=E2.1
def R22:List RV:=[.cell 2 5 true]
theorem is22:Is Tryz.prog (fun _ _=>false) 22 55 A22 R22:=⟨Tryz.f22,Tryz.func22,rfl,by kernel_rfl,by kernel_rfl,Tryz.call22⟩
def E1:CX (.seq (r [s 2 (.box (t 0)),s 4 (.alloc [(.str []),.nilS,(.int .i64 0),.nilS,.nilS]),s 5 (.move (i 0))]) (.seq (r [s 7 (.load 1 true (t 2)),c 8 45 [(t 7)],m 6 8]) (.seq (.seq (r [m 9 6,s 10 (.bin .eql (t 9) (i 0)),m 11 10,gt 12 11 (.move (t 1)),gt 13 11 (.bin .lss (t 12) (i 0)),gt 14 11 (.move (t 13)),gf 15 14 (.move (t 1)),fb 16 14 0 2,fl 17 14 16,gf 18 14 (.len (t 17)),gf 19 14 (.bin .geq (t 15) (t 18)),gt 20 11 (.pick (t 14) b1 (t 19)),s 21 (.pick (t 11) (t 20) b0)]) (.cond (t 21) (r [s 6 (.move (i 2))]) .skip)) (.seq (.seq (r [m 22 6,s 23 (.bin .neq (t 22) (i 0))]) (.cond (t 23) (.seq (r [s 24 (.build [(.str []),.nilS,(.int .i64 0),.nilS,.nilS] []),m 25 6,sn (.store 5 (t 4) (t 24)),m 5 25]) .ret) .skip)) (.seq (r [fa 26 0 2,l 27 26,m 28 1,s 29 (.idxA 5 (t 27) (t 28)),s 30 (.load 5 true (t 29)),s 31 (.build [(.str []),.nilS,(.int .i64 0),.nilS,.nilS] [(0,5,(t 30))]),sn (.store 5 (t 4) (t 31)),s 5 (.move (i 0))]) .ret))))):=⟨_,by simp only [QQ];rfl⟩
def A23:aF:=E1.1
def R23:List RV:=[.cell 4 5 true,.tmp 5]
theorem is23:Is Tryz.prog (fun _ _=>false) 23 32 A23 R23:=⟨Tryz.f23,Tryz.func23,rfl,by kernel_rfl,by kernel_rfl,Tryz.call23⟩
def EZ:CX (.seq (r [s 2 (.box (t 0)),s 3 (.box (t 1)),s 4 (.move (.const .nilFunc))]) (.seq (r [s 5 (.mkfn (.func 46) [(t 2),(t 3)]),m 4 5]) .ret)):=⟨_,by simp only [QQ];rfl⟩
def A25:aF:=EZ.1
def R25:List RV:=[.tmp 4]
theorem is25:Is Tryz.prog (fun _ _=>false) 25 6 A25 R25:=⟨Tryz.f25,Tryz.func25,rfl,by kernel_rfl,by kernel_rfl,Tryz.call25⟩
def EY:CX (.seq (r [s 2 (.box (t 0)),s 3 (.box (t 1)),s 4 (.alloc [(.int .u64 0)])]) (.seq (r [s 5 (.idxR 1 1 (t 2) (i 0)),l 6 5,s 7 (.idxR 1 1 (t 3) (i 0)),l 8 7,s 9 (.bin .or (t 6) (t 8)),s 10 (.build [(.int .u64 0)] [(0,1,(t 9))]),sn (.store 1 (t 4) (t 10))]) .ret)):=⟨_,by simp only [QQ];rfl⟩
def A26:aF:=EY.1
def R26:List RV:=[.cell 4 1 true]
theorem is26:Is Tryz.prog (fun _ _=>false) 26 11 A26 R26:=⟨Tryz.f26,Tryz.func26,rfl,by kernel_rfl,by kernel_rfl,Tryz.call26⟩
def EW:CX (.seq (r [s 2 (.box (t 0)),s 3 (.box (t 1)),s 4 (.alloc [(.int .u64 0)])]) (.seq (r [s 5 (.idxR 1 1 (t 2) (i 0)),l 6 5,s 7 (.idxR 1 1 (t 3) (i 0)),l 8 7,s 9 (.bin .andNot (t 6) (t 8)),s 10 (.build [(.int .u64 0)] [(0,1,(t 9))]),sn (.store 1 (t 4) (t 10))]) .ret)):=⟨_,by simp only [QQ];rfl⟩
def A28:aF:=EW.1
def R28:List RV:=[.cell 4 1 true]
theorem is28:Is Tryz.prog (fun _ _=>false) 28 11 A28 R28:=⟨Tryz.f28,Tryz.func28,rfl,by kernel_rfl,by kernel_rfl,Tryz.call28⟩
def EU:CX (.seq (r [s 2 (.box (t 0)),s 4 (.move b0)]) (.seq (r [s 5 (.idxR 1 1 (t 2) (i 0)),l 6 5,m 7 1,s 8 (.conv .u64 (t 7)),s 9 (.bin .shr (t 6) (t 8)),s 10 (.bin .and (t 9) (.const (.int .u64 1))),s 11 (.bin .eql (t 10) (.const (.int .u64 1))),m 4 11]) .ret)):=⟨_,by simp only [QQ];rfl⟩
def A30:aF:=EU.1
def R30:List RV:=[.tmp 4]
theorem is30:Is Tryz.prog (fun _ _=>false) 30 12 A30 R30:=⟨Tryz.f30,Tryz.func30,rfl,by kernel_rfl,by kernel_rfl,Tryz.call30⟩
def ET:CX (.seq (r [s 2 (.box (t 0)),s 4 (.move (i 0))]) (.seq (r [s 6 (.load 1 true (t 2)),c 7 50 [(t 6)],m 5 7]) (.seq (.seq (r [m 8 5,s 9 (.bin .eql (t 8) (i 0)),m 10 9,gt 11 10 (.move (t 1)),gt 12 10 (.bin .lss (t 11) (i 0)),gt 13 10 (.move (t 12)),gf 14 13 (.move (t 1)),fb 15 13 0 2,fl 16 13 15,gf 17 13 (.len (t 16)),gf 18 13 (.bin .geq (t 14) (t 17)),gt 19 10 (.pick (t 13) b1 (t 18)),s 20 (.pick (t 10) (t 19) b0)]) (.cond (t 20) (r [s 5 (.move (i 2))]) .skip)) (.seq (r [m 21 5,m 4 21]) .ret)))):=⟨_,by simp only [QQ];rfl⟩
def A31:aF:=ET.1
def R31:List RV:=[.tmp 4]
theorem is31:Is Tryz.prog (fun _ _=>false) 31 22 A31 R31:=⟨Tryz.f31,Tryz.func31,rfl,by kernel_rfl,by kernel_rfl,Tryz.call31⟩
def lm:CX (.seq (.seq (r [m 5 4,fa 6 1 1,fa 7 3 6,l 8 7,s 9 (.len (t 8)),s 10 (.bin .lss (t 5) (t 9))]) (.cond (t 10) .skip (.exit 0))) (.seq (.block 1 (.seq (.dregion [⟨0,m 13 4,[]⟩,⟨1,s 14 (.bin .eql (t 13) (i 0)),[]⟩,⟨2,m 15 14,[]⟩,⟨3,fb 16 15 1 1,[]⟩,⟨4,fb 17 15 3 16,[]⟩,⟨5,fl 18 15 17,[]⟩,⟨6,gf 19 15 (.move (t 4)),[]⟩,⟨7,gf 20 15 (.idxA 1 (t 18) (t 19)),[]⟩,⟨8,fl 21 15 20,[]⟩,⟨9,fb 22 15 1 1,[]⟩,⟨10,fb 23 15 3 22,[]⟩,⟨11,fl 24 15 23,[]⟩,⟨12,gf 25 15 (.idxA 1 (t 24) (i 0)),[]⟩,⟨13,fl 26 15 25,[]⟩,⟨14,gf 27 15 (.bin .neq (t 21) (t 26)),[]⟩,⟨15,s 28 (.pick (t 15) b1 (t 27)),[]⟩]) (.cond (t 28) (r [m 29 3,fa 30 1 1,fa 31 3 30,l 32 31,m 33 4,s 34 (.idxA 1 (t 32) (t 33)),l 35 34,s 36 (.buildF [(.int .i64 0)] 1 [(0,(t 35))]),s 37 (.app 3 1 8 (t 29) (t 36)),m 3 37]) .skip))) (r [m 11 4,s 12 (.bin .add (t 11) (i 1)),m 4 12]))):=⟨_,by simp only [QQ];rfl⟩
def pj:aF:=lm.1
def ER:CX (.seq (r [s 1 (.box (t 0)),s 2 (.move ns)]) (.seq (r [s 3 (.move ns)]) (.seq (.seq (r [s 4 (.move (i 0))]) (.block 0 (.loop pj))) (.seq (r [m 38 3,m 2 38]) .ret)))):=⟨_,by simp only [QQ];rfl⟩
def A33:aF:=ER.1
def R33:List RV:=[.tmp 2]
theorem is33:Is Tryz.prog (fun _ _=>false) 33 39 A33 R33:=⟨Tryz.f33,Tryz.func33,rfl,by kernel_rfl,by kernel_rfl,Tryz.call33⟩
def qL:CX (.seq (.seq (r [m 55 5,fa 56 1 2,fa 57 3 56,l 58 57,s 59 (.len (t 58)),s 60 (.bin .lss (t 55) (t 59))]) (.cond (t 60) .skip (.exit 0))) (.seq (.block 1 (.seq (.dregion [⟨0,fa 63 1 2,[]⟩,⟨1,fa 64 3 63,[]⟩,⟨2,l 65 64,[]⟩,⟨3,m 66 5,[]⟩,⟨4,s 67 (.idxA 1 (t 65) (t 66)),[]⟩,⟨5,l 68 67,[]⟩,⟨6,fa 69 1 3,[]⟩,⟨7,fa 70 3 69,[]⟩,⟨8,l 71 70,[]⟩,⟨9,m 72 5,[]⟩,⟨10,s 73 (.idxA 1 (t 71) (t 72)),[]⟩,⟨11,l 74 73,[]⟩,⟨12,s 75 (.bin .neq (t 68) (t 74)),[]⟩]) (.cond (t 75) (.seq (r [s 4 (.move b0)]) .ret) .skip))) (r [m 61 5,s 62 (.bin .add (t 61) (i 1)),m 5 62]))):=⟨_,by simp only [QQ];rfl⟩
def xm:aF:=qL.1
def qK:CX (.seq (.seq (r [m 76 6,fa 77 0 2,l 78 77,s 79 (.len (t 78)),s 80 (.bin .lss (t 76) (t 79))]) (.cond (t 80) .skip (.exit 2))) (.seq (.block 3 (.seq (.dregion [⟨0,fa 83 0 2,[]⟩,⟨1,l 84 83,[]⟩,⟨2,m 85 6,[]⟩,⟨3,s 86 (.idxA 4 (t 84) (t 85)),[]⟩,⟨4,s 87 (.load 4 true (t 86)),[]⟩,⟨5,fa 88 0 3,[]⟩,⟨6,l 89 88,[]⟩,⟨7,m 90 6,[]⟩,⟨8,s 91 (.idxA 4 (t 89) (t 90)),[]⟩,⟨9,s 92 (.load 4 true (t 91)),[]⟩,⟨10,s 7 (.alloc [(.int .u8 0),(.str []),(.str []),.nilS]),[0,1,2,3,4,5,6,7,8,9]⟩,⟨11,s 8 (.alloc [(.int .u8 0),(.str []),(.str []),.nilS]),[0,1,2,3,4,5,6,7,8,9]⟩,⟨12,sn (.store 4 (t 7) (t 87)),[5,6,7,8,9]⟩,⟨13,sn (.store 4 (t 8) (t 92)),[]⟩]) (.seq (r [fa 93 0 7,l 94 93,fa 95 0 8,l 96 95,s 97 (.bin .neq (t 94) (t 96)),m 98 97,fb 99 98 1 7,fl 100 98 99,fb 101 98 1 8,fl 102 98 101,gf 103 98 (.bin .neq (t 100) (t 102)),s 104 (.pick (t 98) b1 (t 103)),m 105 104,fb 106 105 2 7,fl 107 105 106,fb 108 105 2 8,fl 109 105 108,gf 110 105 (.bin .neq (t 107) (t 109)),s 111 (.pick (t 105) b1 (t 110)),m 112 111,fb 113 112 3 7,fl 114 112 113,fb 115 112 3 8,fl 116 112 115,fc 117 112 52 [(t 114),(t 116)],gf 118 112 (.un .not (t 117)),s 119 (.pick (t 112) b1 (t 118))]) (.cond (t 119) (.seq (r [s 4 (.move b0)]) .ret) .skip)))) (r [m 81 6,s 82 (.bin .add (t 81) (i 1)),m 6 82]))):=⟨_,by simp only [QQ];rfl⟩
def xk:aF:=qK.1
def EP:CX (.seq (r [s 2 (.box (t 0)),s 3 (.box (t 1)),s 4 (.move b0)]) (.seq (.seq (r [fa 9 0 2,l 10 9,s 11 (.len (t 10)),fa 12 0 3,l 13 12,s 14 (.len (t 13)),s 15 (.bin .neq (t 11) (t 14)),m 16 15,fb 17 16 1 2,fb 18 16 3 17,fl 19 16 18,gf 20 16 (.len (t 19)),fb 21 16 1 3,fb 22 16 3 21,fl 23 16 22,gf 24 16 (.len (t 23)),gf 25 16 (.bin .neq (t 20) (t 24)),s 26 (.pick (t 16) b1 (t 25)),m 27 26,fb 28 27 1 2,fb 29 27 0 28,fl 30 27 29,fb 31 27 1 3,fb 32 27 0 31,fl 33 27 32,gf 34 27 (.bin .neq (t 30) (t 33)),s 35 (.pick (t 27) b1 (t 34)),m 36 35,fb 37 36 1 2,fb 38 36 1 37,fl 39 36 38,fb 40 36 1 3,fb 41 36 1 40,fl 42 36 41,gf 43 36 (.bin .neq (t 39) (t 42)),s 44 (.pick (t 36) b1 (t 43)),m 45 44,fb 46 45 1 2,fb 47 45 2 46,fl 48 45 47,fb 49 45 1 3,fb 50 45 2 49,fl 51 45 50,fc 52 45 52 [(t 48),(t 51)],gf 53 45 (.un .not (t 52)),s 54 (.pick (t 45) b1 (t 53))]) (.cond (t 54) (.seq (r [s 4 (.move b0)]) .ret) .skip)) (.seq (.seq (r [s 5 (.move (i 0))]) (.block 0 (.loop xm))) (.seq (.seq (r [s 6 (.move (i 0))]) (.block 2 (.loop xk))) (.seq (r [s 4 (.move b1)]) .ret))))):=⟨_,by simp only [QQ];rfl⟩
def A35:aF:=EP.1
def R35:List RV:=[.tmp 4]
theorem is35:Is Tryz.prog (fun _ _=>false) 35 120 A35 R35:=⟨Tryz.f35,Tryz.func35,rfl,by kernel_rfl,by kernel_rfl,Tryz.call35⟩
def EO:CX (.seq (r [s 2 (.box (t 0)),s 4 (.alloc [(.int .u64 0)])]) (.seq (r [s 5 (.idxR 1 1 (t 2) (i 0)),l 6 5,m 7 1,s 8 (.conv .u64 (t 7)),s 9 (.bin .shl (.const (.int .u64 1)) (t 8)),s 10 (.bin .or (t 6) (t 9)),s 11 (.build [(.int .u64 0)] [(0,1,(t 10))]),sn (.store 1 (t 4) (t 11))]) .ret)):=⟨_,by simp only [QQ];rfl⟩
def A40:aF:=EO.1
def R40:List RV:=[.cell 4 1 true]
theorem is40:Is Tryz.prog (fun _ _=>false) 40 12 A40 R40:=⟨Tryz.f40,Tryz.func40,rfl,by kernel_rfl,by kernel_rfl,Tryz.call40⟩
def qJ:CX (.seq (.seq (r [m 7 3,m 8 0,s 9 (.len (t 8)),s 10 (.bin .lss (t 7) (t 9))]) (.cond (t 10) .skip (.exit 0))) (.seq (.block 1 (.seq (r [m 13 0,m 14 3,s 15 (.idxA 6 (t 13) (t 14)),s 16 (.load 6 true (t 15)),c 17 60 [(t 16)]]) (.cond (t 17) (.seq (r [s 2 (.move b1)]) .ret) .skip))) (r [m 11 3,s 12 (.bin .add (t 11) (i 1)),m 3 12]))):=⟨_,by simp only [QQ];rfl⟩
def xh:aF:=qJ.1
def Cv:CX (.seq (r [s 2 (.move b0)]) (.seq (.seq (r [m 4 0,s 5 (.len (t 4)),s 6 (.bin .gtr (t 5) (i 20))]) (.cond (t 6) (.seq (r [s 2 (.move b1)]) .ret) .skip)) (.seq (.seq (r [s 3 (.move (i 0))]) (.block 0 (.loop xh))) (.seq (r [s 2 (.move b0)]) .ret)))):=⟨_,by simp only [QQ];rfl⟩
def A42:aF:=Cv.1
def R42:List RV:=[.tmp 2]
theorem is42:Is Tryz.prog (fun _ _=>false) 42 18 A42 R42:=⟨Tryz.f42,Tryz.func42,rfl,by kernel_rfl,by kernel_rfl,Tryz.call42⟩
def qI:CX (.seq (.seq (r [m 5 4,m 6 0,s 7 (.len (t 6)),s 8 (.bin .lss (t 5) (t 7))]) (.cond (t 8) .skip (.exit 0))) (.seq (.block 1 (r [m 11 3,m 12 0,m 13 4,s 14 (.idxA 6 (t 12) (t 13)),s 15 (.load 6 true (t 14)),c 16 61 [(t 15)],s 17 (.bin .add (t 11) (t 16)),m 3 17])) (r [m 9 4,s 10 (.bin .add (t 9) (i 1)),m 4 10]))):=⟨_,by simp only [QQ];rfl⟩
def xg:aF:=qI.1
def EN:CX (.seq (r [s 2 (.move (i 0))]) (.seq (r [s 3 (.move (i 0))]) (.seq (.seq (r [s 4 (.move (i 0))]) (.block 0 (.loop xg))) (.seq (r [m 18 3,m 2 18]) .ret)))):=⟨_,by simp only [QQ];rfl⟩
def A43:aF:=EN.1
def R43:List RV:=[.tmp 2]
theorem is43:Is Tryz.prog (fun _ _=>false) 43 19 A43 R43:=⟨Tryz.f43,Tryz.func43,rfl,by kernel_rfl,by kernel_rfl,Tryz.call43⟩
def qG:CX (.seq (.seq (r [m 5 4,m 6 0,s 7 (.len (t 6)),s 8 (.bin .lss (t 5) (t 7))]) (.cond (t 8) .skip (.exit 0))) (.seq (.block 1 (r [m 11 3,m 12 0,m 13 4,s 14 (.idxA 6 (t 12) (t 13)),s 15 (.load 6 true (t 14)),c 16 62 [(t 15)],s 17 (.buildF [(.int .u8 0),(.int .i64 0),(.int .u64 0),(.str []),(.int .i64 0),.nilS] 1 [(0,(t 16))]),s 18 (.app 119 6 72 (t 11) (t 17)),m 3 18])) (r [m 9 4,s 10 (.bin .add (t 9) (i 1)),m 4 10]))):=⟨_,by simp only [QQ];rfl⟩
def xf:aF:=qG.1
def EM:CX (.seq (r [s 2 (.move ns)]) (.seq (r [s 3 (.move ns)]) (.seq (.seq (r [s 4 (.move (i 0))]) (.block 0 (.loop xf))) (.seq (r [m 19 3,m 2 19]) .ret)))):=⟨_,by simp only [QQ];rfl⟩
def A44:aF:=EM.1
def R44:List RV:=[.tmp 2]
theorem is44:Is Tryz.prog (fun _ _=>false) 44 20 A44 R44:=⟨Tryz.f44,Tryz.func44,rfl,by kernel_rfl,by kernel_rfl,Tryz.call44⟩
def nD:CX (.seq (r [s 17 (.bin .lss (t 16) (t 15))]) (.seq (.cond (t 17) .skip (.exit 0)) (.seq (.block 1 (.seq (r [m 18 16,s 19 (.idxA 5 (t 14) (t 16)),s 20 (.load 5 true (t 19)),s 5 (.alloc [(.str []),.nilS,(.int .i64 0),.nilS,.nilS]),m 4 18,sn (.store 5 (t 5) (t 20))]) (.seq (.seq (r [m 21 3,fa 22 0 5,l 23 22,s 24 (.m (.look .str (.int .i64 0) false (t 21) (t 23))),s 25 (.bin .neq (t 24) (i 0))]) (.cond (t 25) (.seq (r [s 2 (.move (i 8))]) .ret) .skip)) (r [m 26 3,fa 27 0 5,l 28 27,m 29 4,s 30 (.bin .add (t 29) (i 1)),sn (.m (.set .str (t 26) (t 28) (t 30)))])))) (r [s 31 (.bin .add (t 16) (i 1)),m 16 31])))):=⟨_,by simp only [QQ];rfl⟩
def sw:aF:=nD.1
def nC:CX (.seq (r [s 36 (.bin .lss (t 35) (t 34))]) (.seq (.cond (t 36) .skip (.exit 2)) (.seq (.block 3 (.seq (r [s 37 (.idxA 5 (t 33) (t 35)),s 38 (.load 5 true (t 37)),s 7 (.alloc [(.str []),.nilS,(.int .i64 0),.nilS,.nilS]),sn (.store 5 (t 7) (t 38))]) (.seq (r [s 40 (.load 5 true (t 7)),c 41 64 [(t 40)],m 39 41,e 42 39 0,e 43 39 1,m 8 42,m 9 43]) (.seq (r [m 44 9,s 45 (.un .not (t 44)),m 46 45,gf 47 46 (.load 1 true (t 1)),gf 48 46 (.load 5 true (t 7)),gf 49 46 (.move (t 8)),gf 50 46 (.move (t 3)),gf 51 46 (.build [.nilS,(.str []),.nilS,(.int .i64 0),.nilS,.nilS,.nilM,.nilM] [(0,1,(t 47)),(1,5,(t 48)),(6,1,(t 49)),(7,1,(t 50))]),fc 52 46 65 [(t 51)],gf 53 46 (.un .not (t 52)),s 54 (.pick (t 46) b1 (t 53))]) (.cond (t 54) (.seq (r [s 2 (.move (i 8))]) .ret) .skip))))) (r [s 55 (.bin .add (t 35) (i 1)),m 35 55])))):=⟨_,by simp only [QQ];rfl⟩
def sv:aF:=nC.1
def EL:CX (.seq (r [s 1 (.box (t 0)),s 2 (.move (i 0))]) (.seq (.seq (r [s 10 (.load 1 true (t 1)),c 11 63 [(t 10)]]) (.cond (t 11) (.seq (r [s 2 (.move (i 4))]) .ret) .skip)) (.seq (r [s 12 (.m .mk),m 3 12]) (.seq (.seq (r [fa 13 0 1,l 14 13,s 15 (.len (t 14)),s 16 (.move (i 0))]) (.block 0 (.loop sw))) (.seq (.seq (r [fa 32 0 1,l 33 32,s 34 (.len (t 33)),s 35 (.move (i 0))]) (.block 2 (.loop sv))) (.seq (.seq (r [fa 56 0 1,l 57 56,s 58 (.len (t 57)),s 59 (.bin .eql (t 58) (i 0))]) (.cond (t 59) (.seq (r [s 2 (.move (i 8))]) .ret) .skip)) (.seq (r [s 2 (.move (i 0))]) .ret))))))):=⟨_,by simp only [QQ];rfl⟩
def A45:aF:=EL.1
def R45:List RV:=[.tmp 2]
theorem is45:Is Tryz.prog (fun _ _=>false) 45 60 A45 R45:=⟨Tryz.f45,Tryz.func45,rfl,by kernel_rfl,by kernel_rfl,Tryz.call45⟩
def qF:CX (.seq (r [s 18 (.bin .lss (t 17) (t 16))]) (.seq (.cond (t 18) .skip (.exit 0)) (.seq (.block 1 (.seq (r [m 19 17,s 20 (.idxA 1 (t 15) (t 17)),l 21 20,m 5 19,m 6 21]) (.seq (r [m 22 4,m 23 5,s 24 (.slc 1 (t 22) none (some (t 23)) none),m 25 6,c 26 47 [(t 24),(t 25)],s 27 (.un .not (t 26)),m 28 27,gt 29 28 (.move (t 0)),gt 30 28 (.move (t 6)),⟨(some 31),(some (28,true)),.call (t 29) [(t 30)]⟩,gt 32 28 (.un .not (t 31)),s 33 (.pick (t 28) (t 32) b0)]) (.cond (t 33) .ret .skip)))) (r [s 34 (.bin .add (t 17) (i 1)),m 17 34])))):=⟨_,by simp only [QQ];rfl⟩
def xe:aF:=qF.1
def EK:CX (.seq (r [fa 7 0 1,fa 8 4 7,l 9 8,l 10 2,s 11 (.idxA 5 (t 9) (t 10)),fa 12 1 11,fa 13 3 12,l 14 13,m 4 14]) (.seq (r [m 15 4,s 16 (.len (t 15)),s 17 (.move (i 0))]) (.block 0 (.loop xe)))):=⟨_,by simp only [QQ];rfl⟩
def A46:aF:=EK.1
def R46:List RV:=[]
theorem is46:Is Tryz.prog (fun _ _=>false) 46 35 A46 R46:=⟨Tryz.f46,Tryz.func46,rfl,by kernel_rfl,by kernel_rfl,Tryz.call46⟩
def EJ:CX (.seq (r [s 4 (.move b0)]) (.seq (r [m 5 0,m 6 1,c 7 66 [(t 5),(t 6)],s 8 (.bin .geq (t 7) (i 0)),m 4 8]) .ret)):=⟨_,by simp only [QQ];rfl⟩
def A47:aF:=EJ.1
def R47:List RV:=[.tmp 4]
theorem is47:Is Tryz.prog (fun _ _=>false) 47 9 A47 R47:=⟨Tryz.f47,Tryz.func47,rfl,by kernel_rfl,by kernel_rfl,Tryz.call47⟩
def qE:CX (.seq (.seq (r [m 12 3,fa 13 0 1,l 14 13,s 15 (.len (t 14)),s 16 (.bin .lss (t 12) (t 15))]) (.cond (t 16) .skip (.exit 0))) (.seq (.block 1 (.seq (.dregion [⟨0,s 20 (.load 1 true (t 1)),[]⟩,⟨1,fa 21 0 1,[]⟩,⟨2,l 22 21,[]⟩,⟨3,m 23 3,[]⟩,⟨4,s 24 (.idxA 5 (t 22) (t 23)),[]⟩,⟨5,fa 25 0 24,[]⟩,⟨6,l 26 25,[]⟩,⟨7,c 27 68 [(t 20),(t 26)],[]⟩,⟨8,m 19 27,[]⟩,⟨9,e 28 19 0,[]⟩,⟨10,e 29 19 1,[]⟩,⟨11,m 4 28,[]⟩,⟨12,m 5 29,[]⟩]) (.seq (.dregion [⟨0,m 30 4,[]⟩,⟨1,m 31 3,[]⟩,⟨2,s 32 (.bin .neq (t 30) (t 31)),[]⟩,⟨3,m 33 32,[]⟩,⟨4,gf 34 33 (.load 1 true (t 1)),[]⟩,⟨5,fb 35 33 0 1,[]⟩,⟨6,fl 36 33 35,[]⟩,⟨7,gf 37 33 (.move (t 3)),[]⟩,⟨8,gf 38 33 (.idxA 5 (t 36) (t 37)),[]⟩,⟨9,gf 39 33 (.load 5 true (t 38)),[]⟩,⟨10,fc 40 33 69 [(t 34),(t 39)],[]⟩,⟨11,gf 41 33 (.un .not (t 40)),[]⟩,⟨12,s 42 (.pick (t 33) b1 (t 41)),[]⟩]) (.cond (t 42) (.seq (r [s 2 (.move (i 8))]) .ret) .skip)))) (r [m 17 3,s 18 (.bin .add (t 17) (i 1)),m 3 18]))):=⟨_,by simp only [QQ];rfl⟩
def xd:aF:=qE.1
def EH:CX (.seq (r [s 1 (.box (t 0)),s 2 (.move (i 0))]) (.seq (.seq (r [s 6 (.load 1 true (t 1)),c 7 67 [(t 6)]]) (.cond (t 7) (.seq (r [s 2 (.move (i 4))]) .ret) .skip)) (.seq (.seq (r [fa 8 0 1,l 9 8,s 10 (.len (t 9)),s 11 (.bin .eql (t 10) (i 0))]) (.cond (t 11) (.seq (r [s 2 (.move (i 8))]) .ret) .skip)) (.seq (.seq (r [s 3 (.move (i 0))]) (.block 0 (.loop xd))) (.seq (r [s 2 (.move (i 0))]) .ret))))):=⟨_,by simp only [QQ];rfl⟩
def A50:aF:=EH.1
def R50:List RV:=[.tmp 2]
theorem is50:Is Tryz.prog (fun _ _=>false) 50 43 A50 R50:=⟨Tryz.f50,Tryz.func50,rfl,by kernel_rfl,by kernel_rfl,Tryz.call50⟩
def qC:CX (.seq (.seq (r [m 11 5,m 12 0,s 13 (.len (t 12)),s 14 (.bin .lss (t 11) (t 13))]) (.cond (t 14) .skip (.exit 0))) (.seq (.block 1 (.seq (.dregion [⟨0,m 17 0,[]⟩,⟨1,m 18 5,[]⟩,⟨2,s 19 (.idxA 6 (t 17) (t 18)),[]⟩,⟨3,s 20 (.load 6 true (t 19)),[]⟩,⟨4,m 21 1,[]⟩,⟨5,m 22 5,[]⟩,⟨6,s 23 (.idxA 6 (t 21) (t 22)),[]⟩,⟨7,s 24 (.load 6 true (t 23)),[]⟩,⟨8,c 25 71 [(t 20),(t 24)],[]⟩,⟨9,s 26 (.un .not (t 25)),[]⟩]) (.cond (t 26) (.seq (r [s 4 (.move b0)]) .ret) .skip))) (r [m 15 5,s 16 (.bin .add (t 15) (i 1)),m 5 16]))):=⟨_,by simp only [QQ];rfl⟩
def xb:aF:=qC.1
def EF:CX (.seq (r [s 4 (.move b0)]) (.seq (.seq (r [m 6 0,s 7 (.len (t 6)),m 8 1,s 9 (.len (t 8)),s 10 (.bin .neq (t 7) (t 9))]) (.cond (t 10) (.seq (r [s 4 (.move b0)]) .ret) .skip)) (.seq (.seq (r [s 5 (.move (i 0))]) (.block 0 (.loop xb))) (.seq (r [s 4 (.move b1)]) .ret)))):=⟨_,by simp only [QQ];rfl⟩
def A52:aF:=EF.1
def R52:List RV:=[.tmp 4]
theorem is52:Is Tryz.prog (fun _ _=>false) 52 27 A52 R52:=⟨Tryz.f52,Tryz.func52,rfl,by kernel_rfl,by kernel_rfl,Tryz.call52⟩
def EE:CX (.seq (r [s 1 (.box (t 0)),s 2 (.move b0)]) (.seq (r [s 6 (.load 6 true (t 1)),c 7 72 [(t 6),(i 500),(i 80)],m 5 7,e 8 5 0,e 9 5 1,m 3 8,m 4 9]) (.seq (r [m 10 4,s 11 (.un .not (t 10)),m 12 11,gf 13 12 (.move (t 3)),gf 14 12 (.bin .gtr (t 13) (i 500)),s 15 (.pick (t 12) b1 (t 14)),m 16 15,gf 17 16 (.load 6 true (t 1)),fc 18 16 73 [(t 17)],s 19 (.pick (t 16) b1 (t 18)),m 2 19]) .ret))):=⟨_,by simp only [QQ];rfl⟩
def A60:aF:=EE.1
def R60:List RV:=[.tmp 2]
theorem is60:Is Tryz.prog (fun _ _=>false) 60 20 A60 R60:=⟨Tryz.f60,Tryz.func60,rfl,by kernel_rfl,by kernel_rfl,Tryz.call60⟩
def qA:CX (.seq (.seq (r [m 5 4,fa 6 5 1,l 7 6,s 8 (.len (t 7)),s 9 (.bin .lss (t 5) (t 8))]) (.cond (t 9) .skip (.exit 0))) (.seq (.block 1 (r [m 12 3,fa 13 5 1,l 14 13,m 15 4,s 16 (.idxA 6 (t 14) (t 15)),s 17 (.load 6 true (t 16)),c 18 61 [(t 17)],s 19 (.bin .add (t 12) (t 18)),m 3 19])) (r [m 10 4,s 11 (.bin .add (t 10) (i 1)),m 4 11]))):=⟨_,by simp only [QQ];rfl⟩
def wZ:aF:=qA.1
def ED:CX (.seq (r [s 1 (.box (t 0)),s 2 (.move (i 0))]) (.seq (r [s 3 (.move (i 1))]) (.seq (.seq (r [s 4 (.move (i 0))]) (.block 0 (.loop wZ))) (.seq (r [m 20 3,m 2 20]) .ret)))):=⟨_,by simp only [QQ];rfl⟩
def A61:aF:=ED.1
def R61:List RV:=[.tmp 2]
theorem is61:Is Tryz.prog (fun _ _=>false) 61 21 A61 R61:=⟨Tryz.f61,Tryz.func61,rfl,by kernel_rfl,by kernel_rfl,Tryz.call61⟩
def qz:CX (.seq (.seq (r [m 16 4,fa 17 5 1,l 18 17,s 19 (.len (t 18)),s 20 (.bin .lss (t 16) (t 19))]) (.cond (t 20) .skip (.exit 0))) (.seq (.block 1 (.dregion [⟨0,fa 23 5 3,[]⟩,⟨1,l 24 23,[]⟩,⟨2,fa 25 5 1,[]⟩,⟨3,l 26 25,[]⟩,⟨4,m 27 4,[]⟩,⟨5,s 28 (.idxA 6 (t 26) (t 27)),[]⟩,⟨6,s 29 (.load 6 true (t 28)),[]⟩,⟨7,c 30 62 [(t 29)],[0,1]⟩,⟨8,s 31 (.buildF [(.int .u8 0),(.int .i64 0),(.int .u64 0),(.str []),(.int .i64 0),.nilS] 1 [(0,(t 30))]),[]⟩,⟨9,s 32 (.app 119 6 72 (t 24) (t 31)),[]⟩,⟨10,fa 33 5 3,[]⟩,⟨11,sn (.store 1 (t 33) (t 32)),[]⟩])) (r [m 21 4,s 22 (.bin .add (t 21) (i 1)),m 4 22]))):=⟨_,by simp only [QQ];rfl⟩
def wY:aF:=qz.1
def EC:CX (.seq (r [s 1 (.box (t 0)),s 2 (.alloc [(.int .u8 0),(.int .i64 0),(.int .u64 0),(.str []),(.int .i64 0),.nilS])]) (.seq (r [fa 5 0 1,l 6 5,fa 7 1 1,l 8 7,fa 9 2 1,l 10 9,fa 11 3 1,l 12 11,fa 13 4 1,l 14 13,s 15 (.build [(.int .u8 0),(.int .i64 0),(.int .u64 0),(.str []),(.int .i64 0),.nilS] [(0,1,(t 6)),(1,1,(t 8)),(2,1,(t 10)),(3,1,(t 12)),(4,1,(t 14))]),s 3 (.alloc [(.int .u8 0),(.int .i64 0),(.int .u64 0),(.str []),(.int .i64 0),.nilS]),sn (.store 6 (t 3) (t 15))]) (.seq (.seq (r [s 4 (.move (i 0))]) (.block 0 (.loop wY))) (.seq (r [s 34 (.load 6 true (t 3)),sn (.store 6 (t 2) (t 34))]) .ret)))):=⟨_,by simp only [QQ];rfl⟩
def A62:aF:=EC.1
def R62:List RV:=[.cell 2 6 true]
theorem is62:Is Tryz.prog (fun _ _=>false) 62 35 A62 R62:=⟨Tryz.f62,Tryz.func62,rfl,by kernel_rfl,by kernel_rfl,Tryz.call62⟩
def nA:CX (.seq (r [s 48 (.bin .lss (t 47) (t 46))]) (.seq (.cond (t 48) .skip (.exit 2)) (.seq (.block 3 (.seq (r [s 49 (.idxA 5 (t 45) (t 47)),s 50 (.load 5 true (t 49)),s 6 (.alloc [.nilS,(.int .u8 0),(.str []),.nilS,.nilS]),sn (.store 5 (t 6) (t 50))]) (.seq (r [fa 51 0 6,l 52 51,s 53 (.len (t 52)),s 54 (.bin .gtr (t 53) (i 60))]) (.cond (t 54) (.seq (r [s 2 (.move b1)]) .ret) .skip)))) (r [s 55 (.bin .add (t 47) (i 1)),m 47 55])))):=⟨_,by simp only [QQ];rfl⟩
def sq:aF:=nA.1
def iP:CX (.seq (r [s 15 (.bin .lss (t 14) (t 13))]) (.seq (.cond (t 15) .skip (.exit 0)) (.seq (.block 1 (.seq (r [s 16 (.idxA 5 (t 12) (t 14)),s 17 (.load 5 true (t 16)),s 4 (.alloc [(.str []),.nilS,(.int .i64 0),.nilS,.nilS]),sn (.store 5 (t 4) (t 17))]) (.seq (.seq (r [fa 18 1 4,l 19 18,s 20 (.len (t 19)),s 21 (.bin .gtr (t 20) (i 8)),m 22 21,fb 23 22 3 4,fl 24 22 23,gf 25 22 (.len (t 24)),gf 26 22 (.bin .gtr (t 25) (i 40)),s 27 (.pick (t 22) b1 (t 26)),m 28 27,fb 29 28 1 4,fl 30 28 29,gf 31 28 (.len (t 30)),fb 32 28 3 4,fl 33 28 32,gf 34 28 (.len (t 33)),gf 35 28 (.bin .add (t 31) (t 34)),gf 36 28 (.bin .gtr (t 35) (i 40)),s 37 (.pick (t 28) b1 (t 36)),m 38 37,fb 39 38 4 4,fl 40 38 39,gf 41 38 (.len (t 40)),gf 42 38 (.bin .gtr (t 41) (i 60)),s 43 (.pick (t 38) b1 (t 42))]) (.cond (t 43) (.seq (r [s 2 (.move b1)]) .ret) .skip)) (.seq (r [fa 44 4 4,l 45 44,s 46 (.len (t 45)),s 47 (.move (i 0))]) (.block 2 (.loop sq)))))) (r [s 56 (.bin .add (t 14) (i 1)),m 14 56])))):=⟨_,by simp only [QQ];rfl⟩
def lg:aF:=iP.1
def Cs:CX (.seq (r [s 1 (.box (t 0)),s 2 (.move b0)]) (.seq (.seq (r [fa 7 0 1,l 8 7,s 9 (.len (t 8)),s 10 (.bin .gtr (t 9) (i 16))]) (.cond (t 10) (.seq (r [s 2 (.move b1)]) .ret) .skip)) (.seq (.seq (r [fa 11 0 1,l 12 11,s 13 (.len (t 12)),s 14 (.move (i 0))]) (.block 0 (.loop lg))) (.seq (r [s 2 (.move b0)]) .ret)))):=⟨_,by simp only [QQ];rfl⟩
def A63:aF:=Cs.1
def R63:List RV:=[.tmp 2]
theorem is63:Is Tryz.prog (fun _ _=>false) 63 57 A63 R63:=⟨Tryz.f63,Tryz.func63,rfl,by kernel_rfl,by kernel_rfl,Tryz.call63⟩
def qy:CX (.seq (r [s 16 (.bin .lss (t 15) (t 14))]) (.seq (.cond (t 16) .skip (.exit 0)) (.seq (.block 1 (.seq (r [s 17 (.idxA 2 (t 13) (t 15)),s 18 (.load 2 true (t 17)),s 6 (.alloc [(.str []),(.int .i64 0)]),sn (.store 2 (t 6) (t 18))]) (.seq (.seq (r [fa 19 0 6,l 20 19,c 21 75 [(t 20)],s 22 (.un .not (t 21)),m 23 22,fb 24 23 1 6,fl 25 23 24,gf 26 23 (.bin .lss (t 25) (i 1)),s 27 (.pick (t 23) b1 (t 26)),m 28 27,fb 29 28 1 6,fl 30 28 29,gf 31 28 (.bin .gtr (t 30) (i 64)),s 32 (.pick (t 28) b1 (t 31)),m 33 32,gf 34 33 (.move (t 4)),fb 35 33 0 6,fl 36 33 35,gf 37 33 (.m (.look .str (.int .i64 0) false (t 34) (t 36))),gf 38 33 (.bin .neq (t 37) (i 0)),s 39 (.pick (t 33) b1 (t 38))]) (.cond (t 39) (.seq (r [s 2 (.move (.const (.map none))),s 3 (.move b0)]) .ret) .skip)) (r [m 40 4,fa 41 0 6,l 42 41,fa 43 1 6,l 44 43,sn (.m (.set .str (t 40) (t 42) (t 44)))])))) (r [s 45 (.bin .add (t 15) (i 1)),m 15 45])))):=⟨_,by simp only [QQ];rfl⟩
def wX:aF:=qy.1
def EB:CX (.seq (r [s 1 (.box (t 0)),s 2 (.move (.const (.map none))),s 3 (.move b0)]) (.seq (r [s 7 (.m .mk),m 4 7]) (.seq (.seq (.dregion [⟨0,fa 8 1 1,[]⟩,⟨1,l 9 8,[]⟩,⟨3,fa 11 3 1,[]⟩,⟨4,l 12 11,[]⟩,⟨7,s 15 (.move (i 0)),[]⟩,⟨2,c 10 74 [(t 9)],[3,4,7]⟩,⟨5,s 13 (.app 57 2 24 (t 10) (t 12)),[7]⟩,⟨6,s 14 (.len (t 13)),[]⟩]) (.block 0 (.loop wX))) (.seq (r [m 46 4,m 2 46,s 3 (.move b1)]) .ret)))):=⟨_,by simp only [QQ];rfl⟩
def A64:aF:=EB.1
def R64:List RV:=[.tmp 2,.tmp 3]
theorem is64:Is Tryz.prog (fun _ _=>false) 64 47 A64 R64:=⟨Tryz.f64,Tryz.func64,rfl,by kernel_rfl,by kernel_rfl,Tryz.call64⟩
def qx:CX (.seq (r [s 43 (.bin .lss (t 42) (t 41))]) (.seq (.cond (t 43) .skip (.exit 2)) (.seq (.block 3 (.seq (r [s 44 (.idxA 4 (t 40) (t 42)),s 45 (.load 4 true (t 44)),s 6 (.alloc [(.int .u8 0),(.str []),(.str []),.nilS]),sn (.store 4 (t 6) (t 45))]) (.seq (r [s 46 (.load 8 true (t 1)),s 47 (.load 4 true (t 6)),c 48 76 [(t 46),(t 47)],s 49 (.un .not (t 48))]) (.cond (t 49) (.seq (r [s 2 (.move b0)]) .ret) .skip)))) (r [s 50 (.bin .add (t 42) (i 1)),m 42 50])))):=⟨_,by simp only [QQ];rfl⟩
def wW:aF:=qx.1
def qw:CX (.seq (r [s 36 (.bin .lss (t 35) (t 34))]) (.seq (.cond (t 36) .skip (.exit 0)) (.seq (.block 1 (.seq (r [s 37 (.idxA 5 (t 33) (t 35)),s 38 (.load 5 true (t 37)),s 4 (.alloc [.nilS,(.int .u8 0),(.str []),.nilS,.nilS]),sn (.store 5 (t 4) (t 38))]) (.seq (.seq (r [fa 39 0 4,l 40 39,s 41 (.len (t 40)),s 42 (.move (i 0))]) (.block 2 (.loop wW))) (.seq (r [s 51 (.load 8 true (t 1)),fa 52 1 4,s 53 (.load 4 true (t 52)),c 54 77 [(t 51),(t 53)],s 55 (.un .not (t 54))]) (.cond (t 55) (.seq (r [s 2 (.move b0)]) .ret) .skip))))) (r [s 56 (.bin .add (t 35) (i 1)),m 35 56])))):=⟨_,by simp only [QQ];rfl⟩
def wV:aF:=qw.1
def EA:CX (.seq (r [s 1 (.box (t 0)),s 2 (.move b0)]) (.seq (.seq (r [fa 7 1 1,fa 8 0 7,l 9 8,c 10 75 [(t 9)],s 11 (.un .not (t 10)),m 12 11,fb 13 12 1 1,fb 14 12 2 13,fl 15 12 14,gf 16 12 (.bin .lss (t 15) (i 0)),s 17 (.pick (t 12) b1 (t 16)),m 18 17,fb 19 18 1 1,fb 20 18 2 19,fl 21 18 20,gf 22 18 (.bin .gtr (t 21) (i 64)),s 23 (.pick (t 18) b1 (t 22)),m 24 23,fb 25 24 1 1,fb 26 24 4 25,fl 27 24 26,gf 28 24 (.len (t 27)),gf 29 24 (.bin .eql (t 28) (i 0)),s 30 (.pick (t 24) b1 (t 29))]) (.cond (t 30) (.seq (r [s 2 (.move b0)]) .ret) .skip)) (.seq (.seq (r [fa 31 1 1,fa 32 4 31,l 33 32,s 34 (.len (t 33)),s 35 (.move (i 0))]) (.block 0 (.loop wV))) (.seq (r [s 2 (.move b1)]) .ret)))):=⟨_,by simp only [QQ];rfl⟩
def A65:aF:=EA.1
def R65:List RV:=[.tmp 2]
theorem is65:Is Tryz.prog (fun _ _=>false) 65 57 A65 R65:=⟨Tryz.f65,Tryz.func65,rfl,by kernel_rfl,by kernel_rfl,Tryz.call65⟩
def nz:CX (.seq (r [s 9 (.bin .lss (t 8) (t 7))]) (.seq (.cond (t 9) .skip (.exit 0)) (.seq (.block 1 (.seq (r [m 10 8,m 5 10]) (.seq (r [m 11 1,m 12 0,m 13 5,s 14 (.idxA 1 (t 12) (t 13)),l 15 14,s 16 (.bin .eql (t 11) (t 15))]) (.cond (t 16) (.seq (r [m 17 5,m 4 17]) .ret) .skip)))) (r [s 18 (.bin .add (t 8) (i 1)),m 8 18])))):=⟨_,by simp only [QQ];rfl⟩
def sp:aF:=nz.1
def Ez:CX (.seq (r [s 4 (.move (i 0))]) (.seq (.seq (r [m 6 0,s 7 (.len (t 6)),s 8 (.move (i 0))]) (.block 0 (.loop sp))) (.seq (r [s 4 (.move (.const (.int .i64 (-1))))]) .ret))):=⟨_,by simp only [QQ];rfl⟩
def A66:aF:=Ez.1
def R66:List RV:=[.tmp 4]
theorem is66:Is Tryz.prog (fun _ _=>false) 66 19 A66 R66:=⟨Tryz.f66,Tryz.func66,rfl,by kernel_rfl,by kernel_rfl,Tryz.call66⟩
def ny:CX (.seq (.seq (r [m 48 5,fa 49 4 4,l 50 49,s 51 (.len (t 50)),s 52 (.bin .lss (t 48) (t 51))]) (.cond (t 52) .skip (.exit 2))) (.seq (.block 3 (.seq (r [fa 55 4 4,l 56 55,m 57 5,s 58 (.idxA 5 (t 56) (t 57)),fa 59 0 58,l 60 59,s 61 (.len (t 60)),s 62 (.bin .gtr (t 61) (i 60))]) (.cond (t 62) (.seq (r [s 2 (.move b1)]) .ret) .skip))) (r [m 53 5,s 54 (.bin .add (t 53) (i 1)),m 5 54]))):=⟨_,by simp only [QQ];rfl⟩
def so:aF:=ny.1
def iO:CX (.seq (.seq (r [m 10 3,fa 11 0 1,l 12 11,s 13 (.len (t 12)),s 14 (.bin .lss (t 10) (t 13))]) (.cond (t 14) .skip (.exit 0))) (.seq (.block 1 (.seq (r [fa 17 0 1,l 18 17,m 19 3,s 20 (.idxA 5 (t 18) (t 19)),s 21 (.load 5 true (t 20)),s 4 (.alloc [(.str []),.nilS,(.int .i64 0),.nilS,.nilS]),sn (.store 5 (t 4) (t 21))]) (.seq (.seq (r [fa 22 1 4,l 23 22,s 24 (.len (t 23)),s 25 (.bin .gtr (t 24) (i 8)),m 26 25,fb 27 26 3 4,fl 28 26 27,gf 29 26 (.len (t 28)),gf 30 26 (.bin .gtr (t 29) (i 40)),s 31 (.pick (t 26) b1 (t 30)),m 32 31,fb 33 32 1 4,fl 34 32 33,gf 35 32 (.len (t 34)),fb 36 32 3 4,fl 37 32 36,gf 38 32 (.len (t 37)),gf 39 32 (.bin .add (t 35) (t 38)),gf 40 32 (.bin .gtr (t 39) (i 40)),s 41 (.pick (t 32) b1 (t 40)),m 42 41,fb 43 42 4 4,fl 44 42 43,gf 45 42 (.len (t 44)),gf 46 42 (.bin .gtr (t 45) (i 60)),s 47 (.pick (t 42) b1 (t 46))]) (.cond (t 47) (.seq (r [s 2 (.move b1)]) .ret) .skip)) (.seq (r [s 5 (.move (i 0))]) (.block 2 (.loop so)))))) (r [m 15 3,s 16 (.bin .add (t 15) (i 1)),m 3 16]))):=⟨_,by simp only [QQ];rfl⟩
def lf:aF:=iO.1
def Cr:CX (.seq (r [s 1 (.box (t 0)),s 2 (.move b0)]) (.seq (.seq (r [fa 6 0 1,l 7 6,s 8 (.len (t 7)),s 9 (.bin .gtr (t 8) (i 16))]) (.cond (t 9) (.seq (r [s 2 (.move b1)]) .ret) .skip)) (.seq (.seq (r [s 3 (.move (i 0))]) (.block 0 (.loop lf))) (.seq (r [s 2 (.move b0)]) .ret)))):=⟨_,by simp only [QQ];rfl⟩
def A67:aF:=Cr.1
def R67:List RV:=[.tmp 2]
theorem is67:Is Tryz.prog (fun _ _=>false) 67 63 A67 R67:=⟨Tryz.f67,Tryz.func67,rfl,by kernel_rfl,by kernel_rfl,Tryz.call67⟩
def nw:CX (.seq (.seq (r [m 7 6,fa 8 0 2,l 9 8,s 10 (.len (t 9)),s 11 (.bin .lss (t 7) (t 10))]) (.cond (t 11) .skip (.exit 0))) (.seq (.block 1 (.seq (r [fa 14 0 2,l 15 14,m 16 6,s 17 (.idxA 5 (t 15) (t 16)),fa 18 0 17,l 19 18,m 20 1,s 21 (.bin .eql (t 19) (t 20))]) (.cond (t 21) (.seq (r [m 22 6,m 4 22,s 5 (.move (i 0))]) .ret) .skip))) (r [m 12 6,s 13 (.bin .add (t 12) (i 1)),m 6 13]))):=⟨_,by simp only [QQ];rfl⟩
def sk:aF:=nw.1
def Ey:CX (.seq (r [s 2 (.box (t 0)),s 4 (.move (i 0)),s 5 (.move (i 0))]) (.seq (.seq (r [s 6 (.move (i 0))]) (.block 0 (.loop sk))) (.seq (r [s 4 (.move (i 0)),s 5 (.move (i 6))]) .ret))):=⟨_,by simp only [QQ];rfl⟩
def A68:aF:=Ey.1
def R68:List RV:=[.tmp 4,.tmp 5]
theorem is68:Is Tryz.prog (fun _ _=>false) 68 23 A68 R68:=⟨Tryz.f68,Tryz.func68,rfl,by kernel_rfl,by kernel_rfl,Tryz.call68⟩
def qv:CX (.seq (.seq (r [m 39 6,fa 40 4 3,l 41 40,m 42 5,s 43 (.idxA 5 (t 41) (t 42)),fa 44 0 43,l 45 44,s 46 (.len (t 45)),s 47 (.bin .lss (t 39) (t 46))]) (.cond (t 47) .skip (.exit 2))) (.seq (.block 3 (.seq (.dregion [⟨0,s 50 (.load 1 true (t 2)),[]⟩,⟨1,s 51 (.load 5 true (t 3)),[]⟩,⟨2,fa 52 4 3,[]⟩,⟨3,l 53 52,[]⟩,⟨4,m 54 5,[]⟩,⟨5,s 55 (.idxA 5 (t 53) (t 54)),[]⟩,⟨6,fa 56 0 55,[]⟩,⟨7,l 57 56,[]⟩,⟨8,m 58 6,[]⟩,⟨9,s 59 (.idxA 4 (t 57) (t 58)),[]⟩,⟨10,s 60 (.load 4 true (t 59)),[]⟩,⟨11,c 61 80 [(t 50),(t 51),(t 60)],[]⟩,⟨12,s 62 (.un .not (t 61)),[]⟩]) (.cond (t 62) (.seq (r [s 4 (.move b0)]) .ret) .skip))) (r [m 48 6,s 49 (.bin .add (t 48) (i 1)),m 6 49]))):=⟨_,by simp only [QQ];rfl⟩
def wT:aF:=qv.1
def qu:CX (.seq (.seq (r [m 32 5,fa 33 4 3,l 34 33,s 35 (.len (t 34)),s 36 (.bin .lss (t 32) (t 35))]) (.cond (t 36) .skip (.exit 0))) (.seq (.block 1 (.seq (.seq (r [s 6 (.move (i 0))]) (.block 2 (.loop wT))) (.seq (.dregion [⟨0,s 63 (.load 1 true (t 2)),[]⟩,⟨1,s 64 (.load 5 true (t 3)),[]⟩,⟨2,fa 65 4 3,[]⟩,⟨3,l 66 65,[]⟩,⟨4,m 67 5,[]⟩,⟨5,s 68 (.idxA 5 (t 66) (t 67)),[]⟩,⟨6,fa 69 1 68,[]⟩,⟨7,s 70 (.load 4 true (t 69)),[]⟩,⟨8,c 71 81 [(t 63),(t 64),(t 70)],[]⟩,⟨9,s 72 (.un .not (t 71)),[]⟩]) (.cond (t 72) (.seq (r [s 4 (.move b0)]) .ret) .skip)))) (r [m 37 5,s 38 (.bin .add (t 37) (i 1)),m 5 38]))):=⟨_,by simp only [QQ];rfl⟩
def wR:aF:=qu.1
def Ex:CX (.seq (r [s 2 (.box (t 0)),s 3 (.box (t 1)),s 4 (.move b0)]) (.seq (.seq (r [fa 7 0 3,l 8 7,c 9 78 [(t 8)],s 10 (.un .not (t 9)),m 11 10,gf 12 11 (.load 5 true (t 3)),fc 13 11 79 [(t 12)],gf 14 11 (.un .not (t 13)),s 15 (.pick (t 11) b1 (t 14)),m 16 15,fb 17 16 2 3,fl 18 16 17,gf 19 16 (.bin .lss (t 18) (i 0)),s 20 (.pick (t 16) b1 (t 19)),m 21 20,fb 22 21 2 3,fl 23 21 22,gf 24 21 (.bin .gtr (t 23) (i 64)),s 25 (.pick (t 21) b1 (t 24)),m 26 25,fb 27 26 4 3,fl 28 26 27,gf 29 26 (.len (t 28)),gf 30 26 (.bin .eql (t 29) (i 0)),s 31 (.pick (t 26) b1 (t 30))]) (.cond (t 31) (.seq (r [s 4 (.move b0)]) .ret) .skip)) (.seq (.seq (r [s 5 (.move (i 0))]) (.block 0 (.loop wR))) (.seq (r [s 4 (.move b1)]) .ret)))):=⟨_,by simp only [QQ];rfl⟩
def A69:aF:=Ex.1
def R69:List RV:=[.tmp 4]
theorem is69:Is Tryz.prog (fun _ _=>false) 69 73 A69 R69:=⟨Tryz.f69,Tryz.func69,rfl,by kernel_rfl,by kernel_rfl,Tryz.call69⟩
def qt:CX (.seq (.seq (r [m 48 5,fa 49 5 2,l 50 49,s 51 (.len (t 50)),s 52 (.bin .lss (t 48) (t 51))]) (.cond (t 52) .skip (.exit 0))) (.seq (.block 1 (.seq (.dregion [⟨0,fa 55 5 2,[]⟩,⟨1,l 56 55,[]⟩,⟨2,m 57 5,[]⟩,⟨3,s 58 (.idxA 6 (t 56) (t 57)),[]⟩,⟨4,s 59 (.load 6 true (t 58)),[]⟩,⟨5,fa 60 5 3,[]⟩,⟨6,l 61 60,[]⟩,⟨7,m 62 5,[]⟩,⟨8,s 63 (.idxA 6 (t 61) (t 62)),[]⟩,⟨9,s 64 (.load 6 true (t 63)),[]⟩,⟨10,c 65 71 [(t 59),(t 64)],[]⟩,⟨11,s 66 (.un .not (t 65)),[]⟩]) (.cond (t 66) (.seq (r [s 4 (.move b0)]) .ret) .skip))) (r [m 53 5,s 54 (.bin .add (t 53) (i 1)),m 5 54]))):=⟨_,by simp only [QQ];rfl⟩
def wO:aF:=qt.1
def Ew:CX (.seq (r [s 2 (.box (t 0)),s 3 (.box (t 1)),s 4 (.move b0)]) (.seq (.seq (r [fa 6 0 2,l 7 6,fa 8 0 3,l 9 8,s 10 (.bin .neq (t 7) (t 9)),m 11 10,fb 12 11 1 2,fl 13 11 12,fb 14 11 1 3,fl 15 11 14,gf 16 11 (.bin .neq (t 13) (t 15)),s 17 (.pick (t 11) b1 (t 16)),m 18 17,fb 19 18 2 2,fl 20 18 19,fb 21 18 2 3,fl 22 18 21,gf 23 18 (.bin .neq (t 20) (t 22)),s 24 (.pick (t 18) b1 (t 23)),m 25 24,fb 26 25 3 2,fl 27 25 26,fb 28 25 3 3,fl 29 25 28,gf 30 25 (.bin .neq (t 27) (t 29)),s 31 (.pick (t 25) b1 (t 30)),m 32 31,fb 33 32 4 2,fl 34 32 33,fb 35 32 4 3,fl 36 32 35,gf 37 32 (.bin .neq (t 34) (t 36)),s 38 (.pick (t 32) b1 (t 37)),m 39 38,fb 40 39 5 2,fl 41 39 40,gf 42 39 (.len (t 41)),fb 43 39 5 3,fl 44 39 43,gf 45 39 (.len (t 44)),gf 46 39 (.bin .neq (t 42) (t 45)),s 47 (.pick (t 39) b1 (t 46))]) (.cond (t 47) (.seq (r [s 4 (.move b0)]) .ret) .skip)) (.seq (.seq (r [s 5 (.move (i 0))]) (.block 0 (.loop wO))) (.seq (r [s 4 (.move b1)]) .ret)))):=⟨_,by simp only [QQ];rfl⟩
def A71:aF:=Ew.1
def R71:List RV:=[.tmp 4]
theorem is71:Is Tryz.prog (fun _ _=>false) 71 67 A71 R71:=⟨Tryz.f71,Tryz.func71,rfl,by kernel_rfl,by kernel_rfl,Tryz.call71⟩
def nu:CX (.seq (.seq (r [m 14 9,fa 15 5 3,l 16 15,s 17 (.len (t 16)),s 18 (.bin .lss (t 14) (t 17)),m 19 18,gt 20 19 (.move (t 8)),gt 21 19 (.move (t 1)),gt 22 19 (.bin .leq (t 20) (t 21)),s 23 (.pick (t 19) (t 22) b0)]) (.cond (t 23) .skip (.exit 0))) (.seq (.block 1 (.seq (r [fa 27 5 3,l 28 27,m 29 9,s 30 (.idxA 6 (t 28) (t 29)),s 31 (.load 6 true (t 30)),m 32 1,m 33 8,s 34 (.bin .sub (t 32) (t 33)),m 35 2,s 36 (.bin .sub (t 35) (i 1)),c 37 72 [(t 31),(t 34),(t 36)],m 26 37,e 38 26 0,e 39 26 1,m 10 38,m 11 39]) (.seq (.seq (r [m 40 11,s 41 (.un .not (t 40))]) (.cond (t 41) (.seq (r [m 42 8,m 6 42,s 7 (.move b0)]) .ret) .skip)) (r [m 43 8,m 44 10,s 45 (.bin .add (t 43) (t 44)),m 8 45])))) (r [m 24 9,s 25 (.bin .add (t 24) (i 1)),m 9 25]))):=⟨_,by simp only [QQ];rfl⟩
def sj:aF:=nu.1
def Cn:CX (.seq (r [s 3 (.box (t 0)),s 6 (.move (i 0)),s 7 (.move b0)]) (.seq (.seq (r [m 12 2,s 13 (.bin .eql (t 12) (i 0))]) (.cond (t 13) (.seq (r [s 6 (.move (i 1)),s 7 (.move b0)]) .ret) .skip)) (.seq (r [s 8 (.move (i 1))]) (.seq (.seq (r [s 9 (.move (i 0))]) (.block 0 (.loop sj))) (.seq (r [m 46 8,m 6 46,s 7 (.move b1)]) .ret))))):=⟨_,by simp only [QQ];rfl⟩
def A72:aF:=Cn.1
def R72:List RV:=[.tmp 6,.tmp 7]
theorem CZ:Is Tryz.prog (fun _ _=>false) 72 47 A72 R72:=⟨Tryz.f72,Tryz.func72,rfl,by kernel_rfl,by kernel_rfl,Tryz.call72⟩
def qq:CX (.seq (.seq (r [m 4 3,fa 5 5 1,l 6 5,s 7 (.len (t 6)),s 8 (.bin .lss (t 4) (t 7))]) (.cond (t 8) .skip (.exit 0))) (.seq (.block 1 (.seq (r [fa 11 5 1,l 12 11,m 13 3,s 14 (.idxA 6 (t 12) (t 13)),s 15 (.load 6 true (t 14)),c 16 73 [(t 15)]]) (.cond (t 16) (.seq (r [s 2 (.move b1)]) .ret) .skip))) (r [m 9 3,s 10 (.bin .add (t 9) (i 1)),m 3 10]))):=⟨_,by simp only [QQ];rfl⟩
def wN:aF:=qq.1
def Ev:CX (.seq (r [s 1 (.box (t 0)),s 2 (.move b0)]) (.seq (.seq (r [s 3 (.move (i 0))]) (.block 0 (.loop wN))) (.seq (r [fa 17 3 1,l 18 17,s 19 (.lens (t 18)),s 20 (.bin .gtr (t 19) (i 200)),m 2 20]) .ret))):=⟨_,by simp only [QQ];rfl⟩
def A73:aF:=Ev.1
def R73:List RV:=[.tmp 2]
theorem is73:Is Tryz.prog (fun _ _=>false) 73 21 A73 R73:=⟨Tryz.f73,Tryz.func73,rfl,by kernel_rfl,by kernel_rfl,Tryz.call73⟩
def A74p:CX (.seq (r [s 2 (.move ns)]) (.seq (.seq (r [m 3 0,s 4 (.eqN false .sl (t 3))]) (.cond (t 4) (.seq (r [s 2 (.move ns)]) .ret) .skip)) (.seq (r [s 5 (.buildO 57 [(.str []),(.int .i64 0)] 0 []),m 6 0,s 7 (.app 57 2 24 (t 5) (t 6)),m 2 7]) .ret))):=⟨_,by simp only [QQ];rfl⟩
def A74:aF:=A74p.1
def R74:List RV:=[.tmp 2]
theorem is74:Is Tryz.prog (fun r i=>[(3,0)].contains (r,i)) 74 8 A74 R74:=⟨Tryz.f74,Tryz.func74,rfl,by kernel_rfl,by kernel_rfl,Tryz.call74⟩
def nt:CX (.seq (r [s 17 (.bin .lss (t 16) (t 15))]) (.seq (.cond (t 17) .skip (.exit 0)) (.seq (.block 1 (.seq (r [m 18 16,m 3 18]) (.seq (r [m 19 0,m 20 3,s 21 (.idxs (t 19) (t 20)),m 4 21]) (.seq (r [m 22 4,s 23 (.bin .geq (t 22) (.const (.int .u8 97))),m 24 23,gt 25 24 (.move (t 4)),gt 26 24 (.bin .leq (t 25) (.const (.int .u8 122))),s 27 (.pick (t 24) (t 26) b0),m 28 27,gf 29 28 (.move (t 4)),gf 30 28 (.bin .geq (t 29) (.const (.int .u8 65))),gf 31 28 (.move (t 30)),gt 32 31 (.move (t 4)),gt 33 31 (.bin .leq (t 32) (.const (.int .u8 90))),gf 34 28 (.pick (t 31) (t 33) b0),s 35 (.pick (t 28) b1 (t 34)),m 5 35]) (.seq (r [m 36 5,s 37 (.un .not (t 36)),m 38 37,gt 39 38 (.move (t 3)),gt 40 38 (.bin .eql (t 39) (i 0)),gt 41 38 (.move (t 40)),gf 42 41 (.move (t 4)),gf 43 41 (.bin .neq (t 42) (.const (.int .u8 95))),gf 44 41 (.move (t 43)),gt 45 44 (.move (t 4)),gt 46 44 (.bin .lss (t 45) (.const (.int .u8 48))),gt 47 44 (.move (t 46)),gf 48 47 (.move (t 4)),gf 49 47 (.bin .gtr (t 48) (.const (.int .u8 57))),gt 50 44 (.pick (t 47) b1 (t 49)),gf 51 41 (.pick (t 44) (t 50) b0),gt 52 38 (.pick (t 41) b1 (t 51)),s 53 (.pick (t 38) (t 52) b0)]) (.cond (t 53) (.seq (r [s 2 (.move b0)]) .ret) .skip)))))) (r [s 54 (.bin .add (t 16) (i 1)),m 16 54])))):=⟨_,by simp only [QQ];rfl⟩
def si:aF:=nt.1
def zN:CX (.seq (r [s 2 (.move b0)]) (.seq (.seq (r [m 6 0,s 7 (.lens (t 6)),s 8 (.bin .lss (t 7) (i 1)),m 9 8,gf 10 9 (.move (t 0)),gf 11 9 (.lens (t 10)),gf 12 9 (.bin .gtr (t 11) (i 24)),s 13 (.pick (t 9) b1 (t 12))]) (.cond (t 13) (.seq (r [s 2 (.move b0)]) .ret) .skip)) (.seq (.seq (r [m 14 0,s 15 (.lens (t 14)),s 16 (.move (i 0))]) (.block 0 (.loop si))) (.seq (r [s 2 (.move b1)]) .ret)))):=⟨_,by simp only [QQ];rfl⟩
def A75:aF:=zN.1
def R75:List RV:=[.tmp 2]
theorem is75:Is Tryz.prog (fun _ _=>false) 75 55 A75 R75:=⟨Tryz.f75,Tryz.func75,rfl,by kernel_rfl,by kernel_rfl,Tryz.call75⟩
def iN:CX (.seq (r [s 2 (.box (t 0)),s 3 (.box (t 1)),s 4 (.move b0)]) (.seq (r [fa 8 3 3,l 9 8,s 10 (.len (t 9)),m 5 10]) (.seq (.seq (r [fa 11 0 3,l 12 11]) (.block 0 (.seq (r [s 14 (.bin .eql (t 12) (.const (.int .u8 1))),m 13 14]) (.cond (t 13) (.seq (.dregion [⟨0,fa 15 6 2,[]⟩,⟨1,l 16 15,[]⟩,⟨2,fa 17 1 3,[]⟩,⟨3,l 18 17,[]⟩,⟨4,s 19 (.m (.look .str (.int .i64 0) false (t 16) (t 18))),[]⟩,⟨5,s 20 (.bin .neq (t 19) (i 0)),[]⟩,⟨6,m 21 20,[]⟩,⟨7,ta 22 21 2 3,[]⟩,⟨8,tl 23 21 22,[]⟩,⟨9,gt 24 21 (.bin .eql (t 23) (.const (.string ⟨#[]⟩))),[]⟩,⟨10,s 25 (.pick (t 21) (t 24) b0),[]⟩,⟨11,m 26 25,[]⟩,⟨12,gt 27 26 (.move (t 5)),[]⟩,⟨13,gt 28 26 (.bin .eql (t 27) (i 1)),[]⟩,⟨14,s 29 (.pick (t 26) (t 28) b0),[]⟩,⟨15,m 30 29,[]⟩,⟨16,gt 31 30 (.load 8 true (t 2)),[]⟩,⟨17,ta 32 30 3 3,[]⟩,⟨18,tl 33 30 32,[]⟩,⟨19,gt 34 30 (.idxA 6 (t 33) (i 0)),[]⟩,⟨20,gt 35 30 (.load 6 true (t 34)),[]⟩,⟨21,ta 36 30 6 2,[]⟩,⟨22,tl 37 30 36,[]⟩,⟨23,ta 38 30 1 3,[]⟩,⟨24,tl 39 30 38,[]⟩,⟨25,gt 40 30 (.m (.look .str (.int .i64 0) false (t 37) (t 39))),[16,17,18,19,20]⟩,⟨26,tc 41 30 82 [(t 31),(t 35),(t 40)],[]⟩,⟨27,s 42 (.pick (t 30) (t 41) b0),[]⟩,⟨28,m 4 42,[]⟩]) .ret) (.seq (r [s 44 (.bin .eql (t 12) (.const (.int .u8 2))),m 43 44]) (.cond (t 43) (.seq (.dregion [⟨0,fa 45 1 3,[]⟩,⟨1,l 46 45,[]⟩,⟨2,s 47 (.bin .eql (t 46) (.const (.string ⟨#[]⟩))),[]⟩,⟨3,m 48 47,[]⟩,⟨4,ta 49 48 2 3,[]⟩,⟨5,tl 50 48 49,[]⟩,⟨6,gt 51 48 (.bin .eql (t 50) (.const (.string ⟨#[]⟩))),[]⟩,⟨7,s 52 (.pick (t 48) (t 51) b0),[]⟩,⟨8,m 53 52,[]⟩,⟨9,gt 54 53 (.move (t 5)),[]⟩,⟨10,gt 55 53 (.bin .eql (t 54) (i 2)),[]⟩,⟨11,s 56 (.pick (t 53) (t 55) b0),[]⟩,⟨12,m 57 56,[]⟩,⟨13,gt 58 57 (.buildF [(.int .i64 0)] 4 [(0,(i 8)),(1,(i 16)),(2,(i 32)),(3,(i 64))]),[]⟩,⟨14,ta 59 57 3 3,[]⟩,⟨15,tl 60 57 59,[]⟩,⟨16,gt 61 57 (.idxA 6 (t 60) (i 0)),[]⟩,⟨17,ta 62 57 1 61,[]⟩,⟨18,tl 63 57 62,[]⟩,⟨19,tc 64 57 47 [(t 58),(t 63)],[]⟩,⟨20,s 65 (.pick (t 57) (t 64) b0),[]⟩,⟨21,m 66 65,[]⟩,⟨22,gt 67 66 (.load 8 true (t 2)),[]⟩,⟨23,ta 68 66 3 3,[]⟩,⟨24,tl 69 66 68,[]⟩,⟨25,gt 70 66 (.idxA 6 (t 69) (i 0)),[]⟩,⟨26,gt 71 66 (.load 6 true (t 70)),[]⟩,⟨27,tc 72 66 82 [(t 67),(t 71),(i 0)],[]⟩,⟨28,s 73 (.pick (t 66) (t 72) b0),[]⟩,⟨29,m 74 73,[]⟩,⟨30,gt 75 74 (.load 8 true (t 2)),[]⟩,⟨31,ta 76 74 3 3,[]⟩,⟨32,tl 77 74 76,[]⟩,⟨33,gt 78 74 (.idxA 6 (t 77) (i 1)),[]⟩,⟨34,gt 79 74 (.load 6 true (t 78)),[]⟩,⟨35,tc 80 74 82 [(t 75),(t 79),(i 32)],[]⟩,⟨36,s 81 (.pick (t 74) (t 80) b0),[]⟩,⟨37,m 4 81,[]⟩]) .ret) (.seq (r [s 83 (.bin .eql (t 12) (.const (.int .u8 3))),m 82 83]) (.cond (t 82) (.seq (r [s 85 (.load 8 true (t 2)),fa 86 2 3,l 87 86,fa 88 3 3,l 89 88,c 90 83 [(t 85),(t 87),(t 89)],m 84 90,e 91 84 0,e 92 84 1,s 6 (.alloc [(.str []),.nilS,(.int .i64 0),.nilS,.nilS]),sn (.store 5 (t 6) (t 91)),m 7 92]) (.seq (r [m 93 7,m 94 93,ta 95 94 1 3,tl 96 94 95,gt 97 94 (.bin .eql (t 96) (.const (.string ⟨#[]⟩))),gt 98 94 (.move (t 97)),fb 99 98 2 6,fl 100 98 99,gf 101 98 (.bin .neq (t 100) (i 0)),gf 102 98 (.move (t 101)),ta 103 102 6 2,tl 104 102 103,ta 105 102 1 3,tl 106 102 105,gt 107 102 (.m (.look .str (.int .i64 0) false (t 104) (t 106))),ta 108 102 2 6,tl 109 102 108,gt 110 102 (.bin .eql (t 107) (t 109)),gf 111 98 (.pick (t 102) (t 110) b0),gt 112 94 (.pick (t 98) b1 (t 111)),s 113 (.pick (t 94) (t 112) b0),m 4 113]) .ret)) (.seq (r [s 115 (.bin .eql (t 12) (.const (.int .u8 4))),m 114 115]) (.cond (t 114) (.seq (.dregion [⟨0,fa 116 1 3,[]⟩,⟨1,l 117 116,[]⟩,⟨2,s 118 (.bin .eql (t 117) (.const (.string ⟨#[]⟩))),[]⟩,⟨3,m 119 118,[]⟩,⟨4,ta 120 119 2 3,[]⟩,⟨5,tl 121 119 120,[]⟩,⟨6,gt 122 119 (.bin .eql (t 121) (.const (.string ⟨#[]⟩))),[]⟩,⟨7,s 123 (.pick (t 119) (t 122) b0),[]⟩,⟨8,m 124 123,[]⟩,⟨9,gt 125 124 (.move (t 5)),[]⟩,⟨10,gt 126 124 (.bin .eql (t 125) (i 1)),[]⟩,⟨11,s 127 (.pick (t 124) (t 126) b0),[]⟩,⟨12,m 128 127,[]⟩,⟨13,gt 129 128 (.load 8 true (t 2)),[]⟩,⟨14,ta 130 128 3 3,[]⟩,⟨15,tl 131 128 130,[]⟩,⟨16,gt 132 128 (.idxA 6 (t 131) (i 0)),[]⟩,⟨17,gt 133 128 (.load 6 true (t 132)),[]⟩,⟨18,tc 134 128 82 [(t 129),(t 133),(i 0)],[]⟩,⟨19,s 135 (.pick (t 128) (t 134) b0),[]⟩,⟨20,m 4 135,[]⟩]) .ret) .skip)))))))))) (.seq (r [s 4 (.move b0)]) .ret)))):=⟨_,by simp only [QQ];rfl⟩
def A76:aF:=iN.1
def R76:List RV:=[.tmp 4]
theorem is76:Is Tryz.prog (fun _ _=>false) 76 136 A76 R76:=⟨Tryz.f76,Tryz.func76,rfl,by kernel_rfl,by kernel_rfl,Tryz.call76⟩
def cq:CX (.seq (r [s 15 (.bin .lss (t 14) (t 13))]) (.seq (.cond (t 15) .skip (.exit 0)) (.seq (.block 1 (.seq (r [s 16 (.idxA 1 (t 12) (t 14)),l 17 16,m 6 17]) (.seq (r [m 18 6,s 19 (.bin .lss (t 18) (i 0)),m 20 19,gf 21 20 (.move (t 6)),fb 22 20 1 2,fb 23 20 4 22,fl 24 20 23,gf 25 20 (.len (t 24)),gf 26 20 (.bin .geq (t 21) (t 25)),s 27 (.pick (t 20) b1 (t 26))]) (.cond (t 27) (.seq (r [s 4 (.move b0)]) .ret) .skip)))) (r [s 28 (.bin .add (t 14) (i 1)),m 14 28])))):=⟨_,by simp only [QQ];rfl⟩
def dy:aF:=cq.1
def Eu:CX (.seq (r [s 2 (.box (t 0)),s 3 (.box (t 1)),s 4 (.move b0)]) (.seq (.seq (r [fa 11 3 3,l 12 11,s 13 (.len (t 12)),s 14 (.move (i 0))]) (.block 0 (.loop dy))) (.seq (.dregion [⟨0,fa 29 2 3,[]⟩,⟨1,l 30 29,[]⟩,⟨2,s 31 (.len (t 30)),[]⟩,⟨3,fa 32 3 3,[]⟩,⟨4,l 33 32,[]⟩,⟨5,s 34 (.len (t 33)),[]⟩,⟨6,m 7 31,[]⟩,⟨7,m 8 34,[]⟩]) (.seq (.seq (r [fa 35 0 3,l 36 35]) (.block 2 (.seq (r [s 38 (.bin .eql (t 36) (.const (.int .u8 5))),m 37 38]) (.cond (t 37) (.seq (r [fa 39 1 3,l 40 39,s 41 (.bin .eql (t 40) (.const (.string ⟨#[]⟩))),m 42 41,gt 43 42 (.move (t 7)),gt 44 42 (.bin .eql (t 43) (i 0)),s 45 (.pick (t 42) (t 44) b0),m 46 45,gt 47 46 (.move (t 8)),gt 48 46 (.bin .eql (t 47) (i 1)),s 49 (.pick (t 46) (t 48) b0),m 4 49]) .ret) (.seq (r [s 51 (.bin .eql (t 36) (.const (.int .u8 6))),m 50 51]) (.cond (t 50) (.seq (.dregion [⟨0,fa 52 1 3,[]⟩,⟨1,l 53 52,[]⟩,⟨2,s 54 (.bin .eql (t 53) (.const (.string ⟨#[]⟩))),[]⟩,⟨3,m 55 54,[]⟩,⟨4,gt 56 55 (.move (t 7)),[]⟩,⟨5,gt 57 55 (.bin .eql (t 56) (i 1)),[]⟩,⟨6,s 58 (.pick (t 55) (t 57) b0),[]⟩,⟨7,m 59 58,[]⟩,⟨8,gt 60 59 (.move (t 8)),[]⟩,⟨9,gt 61 59 (.bin .eql (t 60) (i 2)),[]⟩,⟨10,s 62 (.pick (t 59) (t 61) b0),[]⟩,⟨11,m 63 62,[]⟩,⟨12,gt 64 63 (.load 8 true (t 2)),[]⟩,⟨13,ta 65 63 2 3,[]⟩,⟨14,tl 66 63 65,[]⟩,⟨15,gt 67 63 (.idxA 6 (t 66) (i 0)),[]⟩,⟨16,gt 68 63 (.load 6 true (t 67)),[]⟩,⟨17,tc 69 63 82 [(t 64),(t 68),(i 1)],[]⟩,⟨18,s 70 (.pick (t 63) (t 69) b0),[]⟩,⟨19,m 4 70,[]⟩]) .ret) (.seq (r [s 72 (.bin .eql (t 36) (.const (.int .u8 7))),m 71 72]) (.cond (t 71) (.seq (.dregion [⟨0,fa 73 1 3,[]⟩,⟨1,l 74 73,[]⟩,⟨2,s 75 (.bin .eql (t 74) (.const (.string ⟨#[]⟩))),[]⟩,⟨3,m 76 75,[]⟩,⟨4,gt 77 76 (.move (t 8)),[]⟩,⟨5,gt 78 76 (.bin .eql (t 77) (i 0)),[]⟩,⟨6,s 79 (.pick (t 76) (t 78) b0),[]⟩,⟨7,m 80 79,[]⟩,⟨8,gt 81 80 (.move (t 7)),[]⟩,⟨9,ta 82 80 1 2,[]⟩,⟨10,ta 83 80 2 82,[]⟩,⟨11,tl 84 80 83,[]⟩,⟨12,gt 85 80 (.mn (t 84) (i 1)),[]⟩,⟨13,gt 86 80 (.bin .eql (t 81) (t 85)),[]⟩,⟨14,s 87 (.pick (t 80) (t 86) b0),[]⟩,⟨15,m 88 87,[]⟩,⟨16,gt 89 88 (.move (t 7)),[]⟩,⟨17,gt 90 88 (.bin .eql (t 89) (i 0)),[]⟩,⟨18,gt 91 88 (.move (t 90)),[]⟩,⟨19,gf 92 91 (.load 8 true (t 2)),[]⟩,⟨20,fb 93 91 2 3,[]⟩,⟨21,fl 94 91 93,[]⟩,⟨22,gf 95 91 (.idxA 6 (t 94) (i 0)),[]⟩,⟨23,gf 96 91 (.load 6 true (t 95)),[]⟩,⟨24,fb 97 91 1 2,[]⟩,⟨25,fb 98 91 2 97,[]⟩,⟨26,fl 99 91 98,[]⟩,⟨27,fc 100 91 82 [(t 92),(t 96),(t 99)],[]⟩,⟨28,gt 101 88 (.pick (t 91) b1 (t 100)),[]⟩,⟨29,s 102 (.pick (t 88) (t 101) b0),[]⟩,⟨30,m 4 102,[]⟩]) .ret) (.seq (r [s 104 (.bin .eql (t 36) (.const (.int .u8 8))),m 103 104]) (.cond (t 103) (.seq (r [s 106 (.load 8 true (t 2)),fa 107 1 3,l 108 107,fa 109 2 3,l 110 109,c 111 83 [(t 106),(t 108),(t 110)],m 105 111,e 112 105 0,e 113 105 1,s 9 (.alloc [(.str []),.nilS,(.int .i64 0),.nilS,.nilS]),sn (.store 5 (t 9) (t 112)),m 10 113]) (.seq (r [m 114 10,m 115 114,gt 116 115 (.move (t 8)),gt 117 115 (.bin .eql (t 116) (i 0)),s 118 (.pick (t 115) (t 117) b0),m 119 118,ta 120 119 2 9,tl 121 119 120,ta 122 119 1 2,ta 123 119 2 122,tl 124 119 123,gt 125 119 (.bin .eql (t 121) (t 124)),s 126 (.pick (t 119) (t 125) b0),m 4 126]) .ret)) .skip)))))))))) (.seq (r [s 4 (.move b0)]) .ret))))):=⟨_,by simp only [QQ];rfl⟩
def A77:aF:=Eu.1
def R77:List RV:=[.tmp 4]
theorem is77:Is Tryz.prog (fun _ _=>false) 77 127 A77 R77:=⟨Tryz.f77,Tryz.func77,rfl,by kernel_rfl,by kernel_rfl,Tryz.call77⟩
def nr:CX (.seq (.seq (r [m 15 3,m 16 0,s 17 (.lens (t 16)),s 18 (.bin .lss (t 15) (t 17))]) (.cond (t 18) .skip (.exit 0))) (.seq (.block 1 (.seq (r [m 21 0,m 22 3,s 23 (.idxs (t 21) (t 22)),m 4 23]) (.seq (r [m 24 4,s 25 (.bin .geq (t 24) (.const (.int .u8 97))),m 26 25,gt 27 26 (.move (t 4)),gt 28 26 (.bin .leq (t 27) (.const (.int .u8 122))),s 29 (.pick (t 26) (t 28) b0),m 30 29,gf 31 30 (.move (t 4)),gf 32 30 (.bin .geq (t 31) (.const (.int .u8 65))),gf 33 30 (.move (t 32)),gt 34 33 (.move (t 4)),gt 35 33 (.bin .leq (t 34) (.const (.int .u8 90))),gf 36 30 (.pick (t 33) (t 35) b0),s 37 (.pick (t 30) b1 (t 36)),m 5 37]) (.seq (r [m 38 4,s 39 (.bin .geq (t 38) (.const (.int .u8 48))),m 40 39,gt 41 40 (.move (t 4)),gt 42 40 (.bin .leq (t 41) (.const (.int .u8 57))),s 43 (.pick (t 40) (t 42) b0),m 44 43,gf 45 44 (.move (t 4)),gf 46 44 (.bin .eql (t 45) (.const (.int .u8 95))),s 47 (.pick (t 44) b1 (t 46)),m 6 47]) (.seq (r [m 48 5,s 49 (.un .not (t 48)),m 50 49,gt 51 50 (.move (t 3)),gt 52 50 (.bin .eql (t 51) (i 0)),gt 53 50 (.move (t 52)),gf 54 53 (.move (t 6)),gf 55 53 (.un .not (t 54)),gt 56 50 (.pick (t 53) b1 (t 55)),s 57 (.pick (t 50) (t 56) b0)]) (.cond (t 57) (.seq (r [s 2 (.move b0)]) .ret) .skip)))))) (r [m 19 3,s 20 (.bin .add (t 19) (i 1)),m 3 20]))):=⟨_,by simp only [QQ];rfl⟩
def sh:aF:=nr.1
def zM:CX (.seq (r [s 2 (.move b0)]) (.seq (.seq (r [m 7 0,s 8 (.lens (t 7)),s 9 (.bin .eql (t 8) (i 0)),m 10 9,gf 11 10 (.move (t 0)),gf 12 10 (.lens (t 11)),gf 13 10 (.bin .gtr (t 12) (i 24)),s 14 (.pick (t 10) b1 (t 13))]) (.cond (t 14) (.seq (r [s 2 (.move b0)]) .ret) .skip)) (.seq (.seq (r [s 3 (.move (i 0))]) (.block 0 (.loop sh))) (.seq (r [s 2 (.move b1)]) .ret)))):=⟨_,by simp only [QQ];rfl⟩
def A78:aF:=zM.1
def R78:List RV:=[.tmp 2]
theorem is78:Is Tryz.prog (fun _ _=>false) 78 58 A78 R78:=⟨Tryz.f78,Tryz.func78,rfl,by kernel_rfl,by kernel_rfl,Tryz.call78⟩
def nq:CX (.seq (.seq (r [m 30 5,m 31 4,s 32 (.bin .lss (t 30) (t 31))]) (.cond (t 32) .skip (.exit 2))) (.seq (.block 3 (.seq (.dregion [⟨0,m 35 3,[]⟩,⟨1,m 36 5,[]⟩,⟨2,s 37 (.idxA 2 (t 35) (t 36)),[]⟩,⟨3,fa 38 0 37,[]⟩,⟨4,l 39 38,[]⟩,⟨5,m 40 3,[]⟩,⟨6,m 41 4,[]⟩,⟨7,s 42 (.idxA 2 (t 40) (t 41)),[]⟩,⟨8,fa 43 0 42,[]⟩,⟨9,l 44 43,[]⟩,⟨10,s 45 (.bin .eql (t 39) (t 44)),[]⟩]) (.cond (t 45) (.seq (r [s 2 (.move b0)]) .ret) .skip))) (r [m 33 5,s 34 (.bin .add (t 33) (i 1)),m 5 34]))):=⟨_,by simp only [QQ];rfl⟩
def sg:aF:=nq.1
def qp:CX (.seq (.seq (r [m 8 4,m 9 3,s 10 (.len (t 9)),s 11 (.bin .lss (t 8) (t 10))]) (.cond (t 11) .skip (.exit 0))) (.seq (.block 1 (.seq (.seq (r [m 14 3,m 15 4,s 16 (.idxA 2 (t 14) (t 15)),fa 17 0 16,l 18 17,c 19 78 [(t 18)],s 20 (.un .not (t 19)),m 21 20,gf 22 21 (.move (t 3)),gf 23 21 (.move (t 4)),gf 24 21 (.idxA 2 (t 22) (t 23)),fb 25 21 1 24,fl 26 21 25,fc 27 21 84 [(t 26)],gf 28 21 (.un .not (t 27)),s 29 (.pick (t 21) b1 (t 28))]) (.cond (t 29) (.seq (r [s 2 (.move b0)]) .ret) .skip)) (.seq (r [s 5 (.move (i 0))]) (.block 2 (.loop sg))))) (r [m 12 4,s 13 (.bin .add (t 12) (i 1)),m 4 13]))):=⟨_,by simp only [QQ];rfl⟩
def wM:aF:=qp.1
def Et:CX (.seq (r [s 1 (.box (t 0)),s 2 (.move b0)]) (.seq (r [s 6 (.load 5 true (t 1)),c 7 19 [(t 6)],m 3 7]) (.seq (.seq (r [s 4 (.move (i 0))]) (.block 0 (.loop wM))) (.seq (r [s 2 (.move b1)]) .ret)))):=⟨_,by simp only [QQ];rfl⟩
def A79:aF:=Et.1
def R79:List RV:=[.tmp 2]
theorem is79:Is Tryz.prog (fun _ _=>false) 79 46 A79 R79:=⟨Tryz.f79,Tryz.func79,rfl,by kernel_rfl,by kernel_rfl,Tryz.call79⟩
def Es:CX (.seq (r [s 3 (.box (t 0)),s 4 (.box (t 1)),s 5 (.box (t 2)),s 6 (.move b0)]) (.seq (r [fa 11 3 5,l 12 11,s 13 (.len (t 12)),m 7 13]) (.seq (r [s 15 (.load 5 true (t 4)),fa 16 1 5,l 17 16,c 18 85 [(t 15),(t 17)],m 14 18,e 19 14 0,e 20 14 1,m 8 19,m 9 20]) (.seq (.seq (r [fa 21 0 5,l 22 21]) (.block 0 (.seq (r [s 24 (.bin .eql (t 22) (.const (.int .u8 1))),m 23 24]) (.cond (t 23) (.seq (.dregion [⟨0,m 25 9,[]⟩,⟨1,m 26 25,[]⟩,⟨2,ta 27 26 2 5,[]⟩,⟨3,tl 28 26 27,[]⟩,⟨4,gt 29 26 (.bin .eql (t 28) (.const (.string ⟨#[]⟩))),[]⟩,⟨5,s 30 (.pick (t 26) (t 29) b0),[]⟩,⟨6,m 31 30,[]⟩,⟨7,gt 32 31 (.move (t 7)),[]⟩,⟨8,gt 33 31 (.bin .eql (t 32) (i 1)),[]⟩,⟨9,s 34 (.pick (t 31) (t 33) b0),[]⟩,⟨10,m 35 34,[]⟩,⟨11,gt 36 35 (.load 5 true (t 4)),[]⟩,⟨12,ta 37 35 3 5,[]⟩,⟨13,tl 38 35 37,[]⟩,⟨14,gt 39 35 (.idxA 6 (t 38) (i 0)),[]⟩,⟨15,gt 40 35 (.load 6 true (t 39)),[]⟩,⟨16,gt 41 35 (.move (t 8)),[]⟩,⟨17,tc 42 35 86 [(t 36),(t 40),(t 41)],[]⟩,⟨18,s 43 (.pick (t 35) (t 42) b0),[]⟩,⟨19,m 6 43,[]⟩]) .ret) (.seq (r [s 45 (.bin .eql (t 22) (.const (.int .u8 2))),m 44 45]) (.cond (t 44) (.seq (.seq (r [fa 46 1 5,l 47 46,s 48 (.bin .neq (t 47) (.const (.string ⟨#[]⟩))),m 49 48,fb 50 49 2 5,fl 51 49 50,gf 52 49 (.bin .neq (t 51) (.const (.string ⟨#[]⟩))),s 53 (.pick (t 49) b1 (t 52)),m 54 53,gf 55 54 (.move (t 7)),gf 56 54 (.bin .neq (t 55) (i 2)),s 57 (.pick (t 54) b1 (t 56))]) (.cond (t 57) (.seq (r [s 6 (.move b0)]) .ret) .skip)) (.seq (r [fa 58 3 5,l 59 58,s 60 (.idxA 6 (t 59) (i 0)),fa 61 1 60,l 62 61,m 10 62]) (.seq (.dregion [⟨0,m 63 10,[]⟩,⟨1,s 64 (.bin .eql (t 63) (i 8)),[]⟩,⟨2,m 65 64,[]⟩,⟨3,gf 66 65 (.move (t 10)),[]⟩,⟨4,gf 67 65 (.bin .eql (t 66) (i 16)),[]⟩,⟨5,s 68 (.pick (t 65) b1 (t 67)),[]⟩,⟨6,m 69 68,[]⟩,⟨7,gf 70 69 (.move (t 10)),[]⟩,⟨8,gf 71 69 (.bin .eql (t 70) (i 32)),[]⟩,⟨9,s 72 (.pick (t 69) b1 (t 71)),[]⟩,⟨10,m 73 72,[]⟩,⟨11,gf 74 73 (.move (t 10)),[]⟩,⟨12,gf 75 73 (.bin .eql (t 74) (i 64)),[]⟩,⟨13,s 76 (.pick (t 73) b1 (t 75)),[]⟩,⟨14,m 77 76,[]⟩,⟨15,gt 78 77 (.load 5 true (t 4)),[]⟩,⟨16,ta 79 77 3 5,[]⟩,⟨17,tl 80 77 79,[]⟩,⟨18,gt 81 77 (.idxA 6 (t 80) (i 0)),[]⟩,⟨19,gt 82 77 (.load 6 true (t 81)),[]⟩,⟨20,tc 83 77 87 [(t 78),(t 82)],[]⟩,⟨21,s 84 (.pick (t 77) (t 83) b0),[]⟩,⟨22,m 85 84,[]⟩,⟨23,gt 86 85 (.load 5 true (t 4)),[]⟩,⟨24,ta 87 85 3 5,[]⟩,⟨25,tl 88 85 87,[]⟩,⟨26,gt 89 85 (.idxA 6 (t 88) (i 1)),[]⟩,⟨27,gt 90 85 (.load 6 true (t 89)),[]⟩,⟨28,tc 91 85 86 [(t 86),(t 90),(i 32)],[]⟩,⟨29,s 92 (.pick (t 85) (t 91) b0),[]⟩,⟨30,m 6 92,[]⟩]) .ret))) (.seq (r [s 94 (.bin .eql (t 22) (.const (.int .u8 3))),m 93 94]) (.cond (t 93) (.seq (r [s 95 (.load 1 true (t 3)),s 96 (.load 5 true (t 4)),fa 97 2 5,l 98 97,fa 99 3 5,l 100 99,c 101 88 [(t 95),(t 96),(t 98),(t 100)],m 102 101,ta 103 102 1 5,tl 104 102 103,gt 105 102 (.bin .eql (t 104) (.const (.string ⟨#[]⟩))),gt 106 102 (.move (t 105)),gf 107 106 (.move (t 9)),gf 108 106 (.move (t 107)),gt 109 108 (.load 1 true (t 3)),ta 110 108 2 5,tl 111 108 110,tc 112 108 89 [(t 109),(t 111)],gt 113 108 (.move (t 8)),gt 114 108 (.bin .eql (t 112) (t 113)),gf 115 106 (.pick (t 108) (t 114) b0),gt 116 102 (.pick (t 106) b1 (t 115)),s 117 (.pick (t 102) (t 116) b0),m 6 117]) .ret) (.seq (r [s 119 (.bin .eql (t 22) (.const (.int .u8 4))),m 118 119]) (.cond (t 118) (.seq (.dregion [⟨0,fa 120 1 5,[]⟩,⟨1,l 121 120,[]⟩,⟨2,s 122 (.bin .eql (t 121) (.const (.string ⟨#[]⟩))),[]⟩,⟨3,m 123 122,[]⟩,⟨4,ta 124 123 2 5,[]⟩,⟨5,tl 125 123 124,[]⟩,⟨6,gt 126 123 (.bin .eql (t 125) (.const (.string ⟨#[]⟩))),[]⟩,⟨7,s 127 (.pick (t 123) (t 126) b0),[]⟩,⟨8,m 128 127,[]⟩,⟨9,gt 129 128 (.move (t 7)),[]⟩,⟨10,gt 130 128 (.bin .eql (t 129) (i 1)),[]⟩,⟨11,s 131 (.pick (t 128) (t 130) b0),[]⟩,⟨12,m 132 131,[]⟩,⟨13,gt 133 132 (.load 5 true (t 4)),[]⟩,⟨14,ta 134 132 3 5,[]⟩,⟨15,tl 135 132 134,[]⟩,⟨16,gt 136 132 (.idxA 6 (t 135) (i 0)),[]⟩,⟨17,gt 137 132 (.load 6 true (t 136)),[]⟩,⟨18,tc 138 132 87 [(t 133),(t 137)],[]⟩,⟨19,s 139 (.pick (t 132) (t 138) b0),[]⟩,⟨20,m 6 139,[]⟩]) .ret) .skip)))))))))) (.seq (r [s 6 (.move b0)]) .ret))))):=⟨_,by simp only [QQ];rfl⟩
def A80:aF:=Es.1
def R80:List RV:=[.tmp 6]
theorem is80:Is Tryz.prog (fun _ _=>false) 80 140 A80 R80:=⟨Tryz.f80,Tryz.func80,rfl,by kernel_rfl,by kernel_rfl,Tryz.call80⟩
def cm:CX (.seq (.seq (r [m 16 9,m 17 8,s 18 (.bin .lss (t 16) (t 17))]) (.cond (t 18) .skip (.exit 0))) (.seq (.block 1 (.seq (.dregion [⟨0,fa 21 3 5,[]⟩,⟨1,l 22 21,[]⟩,⟨2,m 23 9,[]⟩,⟨3,s 24 (.idxA 1 (t 22) (t 23)),[]⟩,⟨4,l 25 24,[]⟩,⟨5,s 26 (.bin .lss (t 25) (i 0)),[]⟩,⟨6,m 27 26,[]⟩,⟨7,fb 28 27 3 5,[]⟩,⟨8,fl 29 27 28,[]⟩,⟨9,gf 30 27 (.move (t 9)),[]⟩,⟨10,gf 31 27 (.idxA 1 (t 29) (t 30)),[]⟩,⟨11,fl 32 27 31,[]⟩,⟨12,fb 33 27 4 4,[]⟩,⟨13,fl 34 27 33,[]⟩,⟨14,gf 35 27 (.len (t 34)),[]⟩,⟨15,gf 36 27 (.bin .geq (t 32) (t 35)),[]⟩,⟨16,s 37 (.pick (t 27) b1 (t 36)),[]⟩]) (.cond (t 37) (.seq (r [s 6 (.move b0)]) .ret) .skip))) (r [m 19 9,s 20 (.bin .add (t 19) (i 1)),m 9 20]))):=⟨_,by simp only [QQ];rfl⟩
def dh:aF:=cm.1
def Er:CX (.seq (r [s 3 (.box (t 0)),s 4 (.box (t 1)),s 5 (.box (t 2)),s 6 (.move b0)]) (.seq (.dregion [⟨0,fa 10 2 5,[]⟩,⟨1,l 11 10,[]⟩,⟨2,s 12 (.len (t 11)),[]⟩,⟨3,fa 13 3 5,[]⟩,⟨4,l 14 13,[]⟩,⟨5,s 15 (.len (t 14)),[]⟩,⟨6,m 7 12,[]⟩,⟨7,m 8 15,[]⟩]) (.seq (.seq (r [s 9 (.move (i 0))]) (.block 0 (.loop dh))) (.seq (.seq (r [fa 38 0 5,l 39 38]) (.block 2 (.seq (r [s 41 (.bin .eql (t 39) (.const (.int .u8 5))),m 40 41]) (.cond (t 40) (.seq (r [fa 42 1 5,l 43 42,s 44 (.bin .eql (t 43) (.const (.string ⟨#[]⟩))),m 45 44,gt 46 45 (.move (t 7)),gt 47 45 (.bin .eql (t 46) (i 0)),s 48 (.pick (t 45) (t 47) b0),m 49 48,gt 50 49 (.move (t 8)),gt 51 49 (.bin .eql (t 50) (i 1)),s 52 (.pick (t 49) (t 51) b0),m 6 52]) .ret) (.seq (r [s 54 (.bin .eql (t 39) (.const (.int .u8 6))),m 53 54]) (.cond (t 53) (.seq (.dregion [⟨0,fa 55 1 5,[]⟩,⟨1,l 56 55,[]⟩,⟨2,s 57 (.bin .eql (t 56) (.const (.string ⟨#[]⟩))),[]⟩,⟨3,m 58 57,[]⟩,⟨4,gt 59 58 (.move (t 7)),[]⟩,⟨5,gt 60 58 (.bin .eql (t 59) (i 1)),[]⟩,⟨6,s 61 (.pick (t 58) (t 60) b0),[]⟩,⟨7,m 62 61,[]⟩,⟨8,gt 63 62 (.move (t 8)),[]⟩,⟨9,gt 64 62 (.bin .eql (t 63) (i 2)),[]⟩,⟨10,s 65 (.pick (t 62) (t 64) b0),[]⟩,⟨11,m 66 65,[]⟩,⟨12,gt 67 66 (.load 5 true (t 4)),[]⟩,⟨13,ta 68 66 2 5,[]⟩,⟨14,tl 69 66 68,[]⟩,⟨15,gt 70 66 (.idxA 6 (t 69) (i 0)),[]⟩,⟨16,gt 71 66 (.load 6 true (t 70)),[]⟩,⟨17,tc 72 66 86 [(t 67),(t 71),(i 1)],[]⟩,⟨18,s 73 (.pick (t 66) (t 72) b0),[]⟩,⟨19,m 6 73,[]⟩]) .ret) (.seq (r [s 75 (.bin .eql (t 39) (.const (.int .u8 7))),m 74 75]) (.cond (t 74) (.seq (.seq (r [fa 76 2 4,l 77 76,s 78 (.bin .eql (t 77) (i 0))]) (.cond (t 78) (.seq (r [fa 79 1 5,l 80 79,s 81 (.bin .eql (t 80) (.const (.string ⟨#[]⟩))),m 82 81,gt 83 82 (.move (t 7)),gt 84 82 (.bin .eql (t 83) (i 0)),s 85 (.pick (t 82) (t 84) b0),m 86 85,gt 87 86 (.move (t 8)),gt 88 86 (.bin .eql (t 87) (i 0)),s 89 (.pick (t 86) (t 88) b0),m 6 89]) .ret) .skip)) (.seq (.dregion [⟨0,fa 90 1 5,[]⟩,⟨1,l 91 90,[]⟩,⟨2,s 92 (.bin .eql (t 91) (.const (.string ⟨#[]⟩))),[]⟩,⟨3,m 93 92,[]⟩,⟨4,gt 94 93 (.move (t 7)),[]⟩,⟨5,gt 95 93 (.bin .eql (t 94) (i 1)),[]⟩,⟨6,s 96 (.pick (t 93) (t 95) b0),[]⟩,⟨7,m 97 96,[]⟩,⟨8,gt 98 97 (.move (t 8)),[]⟩,⟨9,gt 99 97 (.bin .eql (t 98) (i 0)),[]⟩,⟨10,s 100 (.pick (t 97) (t 99) b0),[]⟩,⟨11,m 101 100,[]⟩,⟨12,gt 102 101 (.load 5 true (t 4)),[]⟩,⟨13,ta 103 101 2 5,[]⟩,⟨14,tl 104 101 103,[]⟩,⟨15,gt 105 101 (.idxA 6 (t 104) (i 0)),[]⟩,⟨16,gt 106 101 (.load 6 true (t 105)),[]⟩,⟨17,ta 107 101 2 4,[]⟩,⟨18,tl 108 101 107,[]⟩,⟨19,tc 109 101 86 [(t 102),(t 106),(t 108)],[]⟩,⟨20,s 110 (.pick (t 101) (t 109) b0),[]⟩,⟨21,m 6 110,[]⟩]) .ret)) (.seq (r [s 112 (.bin .eql (t 39) (.const (.int .u8 8))),m 111 112]) (.cond (t 111) (.seq (.dregion [⟨0,m 113 8,[]⟩,⟨1,s 114 (.bin .eql (t 113) (i 0)),[]⟩,⟨2,m 115 114,[]⟩,⟨3,gt 116 115 (.load 1 true (t 3)),[]⟩,⟨4,gt 117 115 (.load 5 true (t 4)),[]⟩,⟨5,ta 118 115 1 5,[]⟩,⟨6,tl 119 115 118,[]⟩,⟨7,ta 120 115 2 5,[]⟩,⟨8,tl 121 115 120,[]⟩,⟨9,tc 122 115 88 [(t 116),(t 117),(t 119),(t 121)],[]⟩,⟨10,s 123 (.pick (t 115) (t 122) b0),[]⟩,⟨11,m 124 123,[]⟩,⟨12,gt 125 124 (.load 1 true (t 3)),[]⟩,⟨13,ta 126 124 1 5,[]⟩,⟨14,tl 127 124 126,[]⟩,⟨16,ta 129 124 2 4,[]⟩,⟨17,tl 130 124 129,[]⟩,⟨15,tc 128 124 89 [(t 125),(t 127)],[16,17]⟩,⟨18,gt 131 124 (.bin .eql (t 128) (t 130)),[]⟩,⟨19,s 132 (.pick (t 124) (t 131) b0),[]⟩,⟨20,m 6 132,[]⟩]) .ret) .skip)))))))))) (.seq (r [s 6 (.move b0)]) .ret))))):=⟨_,by simp only [QQ];rfl⟩
def A81:aF:=Er.1
def R81:List RV:=[.tmp 6]
theorem is81:Is Tryz.prog (fun _ _=>false) 81 133 A81 R81:=⟨Tryz.f81,Tryz.func81,rfl,by kernel_rfl,by kernel_rfl,Tryz.call81⟩
def qo:CX (r [s 7 (.alloc [(.int .u8 0),(.int .i64 0),(.int .u64 0),(.str []),(.int .i64 0),.nilS]),sn (.store 6 (t 7) (t 23))]):=⟨_,by simp only [QQ];rfl⟩
def wI:aF:=qo.1
def fh:CX (.block 1 (.seq (r [fa 24 0 7,l 25 24,s 26 (.bin .eql (t 25) (.const (.int .u8 2))),m 27 26,ta 28 27 6 3,tl 29 27 28,ta 30 27 3 7,tl 31 27 30,gt 32 27 (.m (.look .str (.int .i64 0) false (t 29) (t 31))),ta 33 27 1 7,tl 34 27 33,gt 35 27 (.bin .neq (t 32) (t 34)),s 36 (.pick (t 27) (t 35) b0),m 37 36,fb 38 37 0 7,fl 39 37 38,gf 40 37 (.bin .eql (t 39) (.const (.int .u8 24))),gf 41 37 (.move (t 40)),ta 42 41 5 7,tl 43 41 42,gt 44 41 (.idxA 6 (t 43) (i 0)),ta 45 41 1 44,tl 46 41 45,gt 47 41 (.bin .neq (t 46) (i 32)),gf 48 37 (.pick (t 41) (t 47) b0),s 49 (.pick (t 37) b1 (t 48))]) (.cond (t 49) (.seq (r [sn (.store 1 (t 6) b0)]) .ret) .skip))):=⟨_,by simp only [QQ];rfl⟩
def ip:aF:=fh.1
def Ep:CX (.seq (r [s 3 (.box (t 0)),s 4 (.box (t 1)),s 6 (.alloc [(.bool false)])]) (.seq (.seq (r [s 8 (.load 6 true (t 4)),c 9 90 [(t 8)],s 10 (.bin .neq (t 9) (i 0)),m 11 10,gf 12 11 (.move (t 2)),gf 13 11 (.bin .neq (t 12) (i 0)),gf 14 11 (.move (t 13)),ta 15 14 1 4,tl 16 14 15,gt 17 14 (.move (t 2)),gt 18 14 (.bin .neq (t 16) (t 17)),gf 19 11 (.pick (t 14) (t 18) b0),s 20 (.pick (t 11) b1 (t 19))]) (.cond (t 20) (.seq (r [sn (.store 1 (t 6) b0)]) .ret) .skip)) (.seq (.seq (r [s 21 (.load 6 true (t 4)),c 22 91 [(t 21)]]) (.block 0 (.rangeF (t 22) #[23] wI ip))) (.seq (r [sn (.store 1 (t 6) b1)]) .ret)))):=⟨_,by simp only [QQ];rfl⟩
def A82:aF:=Ep.1
def R82:List RV:=[.cell 6 1 false]
theorem is82:Is Tryz.prog (fun _ _=>false) 82 50 A82 R82:=⟨Tryz.f82,Tryz.func82,rfl,by kernel_rfl,by kernel_rfl,Tryz.call82⟩
def qn:CX (.seq (r [s 44 (.bin .lss (t 43) (t 42))]) (.seq (.cond (t 44) .skip (.exit 0)) (.seq (.block 1 (.seq (r [m 45 43,s 46 (.idxA 2 (t 41) (t 43)),s 47 (.load 2 true (t 46)),s 11 (.alloc [(.str []),(.int .i64 0)]),m 10 45,sn (.store 2 (t 11) (t 47))]) (.seq (.dregion [⟨0,s 48 (.load 8 true (t 3)),[]⟩,⟨1,m 49 2,[]⟩,⟨2,m 50 10,[]⟩,⟨3,s 51 (.idxA 6 (t 49) (t 50)),[]⟩,⟨4,s 52 (.load 6 true (t 51)),[]⟩,⟨5,fa 53 1 11,[]⟩,⟨6,l 54 53,[]⟩,⟨7,c 55 82 [(t 48),(t 52),(t 54)],[]⟩,⟨8,s 56 (.un .not (t 55)),[]⟩]) (.cond (t 56) (.seq (r [s 57 (.load 5 true (t 9)),sn (.store 5 (t 6) (t 57)),s 7 (.move b0)]) .ret) .skip)))) (r [s 58 (.bin .add (t 43) (i 1)),m 43 58])))):=⟨_,by simp only [QQ];rfl⟩
def wH:aF:=qn.1
def zJ:CX (.seq (r [s 3 (.box (t 0)),s 6 (.alloc [(.str []),.nilS,(.int .i64 0),.nilS,.nilS]),s 7 (.move b0)]) (.seq (r [fa 12 7 3,l 13 12,m 14 1,s 15 (.m (.look .str (.int .i64 0) false (t 13) (t 14))),m 8 15]) (.seq (.seq (r [m 16 8,s 17 (.bin .eql (t 16) (i 0)),m 18 17,gf 19 18 (.move (t 2)),gf 20 18 (.len (t 19)),fb 21 18 0 3,fb 22 18 0 21,fl 23 18 22,gf 24 18 (.move (t 8)),gf 25 18 (.bin .sub (t 24) (i 1)),gf 26 18 (.idxA 5 (t 23) (t 25)),fb 27 18 1 26,fl 28 18 27,gf 29 18 (.len (t 28)),gf 30 18 (.bin .neq (t 20) (t 29)),s 31 (.pick (t 18) b1 (t 30))]) (.cond (t 31) (.seq (r [s 32 (.build [(.str []),.nilS,(.int .i64 0),.nilS,.nilS] []),sn (.store 5 (t 6) (t 32)),s 7 (.move b0)]) .ret) .skip)) (.seq (r [fa 33 0 3,fa 34 0 33,l 35 34,m 36 8,s 37 (.bin .sub (t 36) (i 1)),s 38 (.idxA 5 (t 35) (t 37)),s 39 (.load 5 true (t 38)),s 9 (.alloc [(.str []),.nilS,(.int .i64 0),.nilS,.nilS]),sn (.store 5 (t 9) (t 39))]) (.seq (.seq (r [fa 40 1 9,l 41 40,s 42 (.len (t 41)),s 43 (.move (i 0))]) (.block 0 (.loop wH))) (.seq (r [s 59 (.load 5 true (t 9)),sn (.store 5 (t 6) (t 59)),s 7 (.move b1)]) .ret)))))):=⟨_,by simp only [QQ];rfl⟩
def A83:aF:=zJ.1
def R83:List RV:=[.cell 6 5 true,.tmp 7]
theorem is83:Is Tryz.prog (fun _ _=>false) 83 60 A83 R83:=⟨Tryz.f83,Tryz.func83,rfl,by kernel_rfl,by kernel_rfl,Tryz.call83⟩
def Cg:CX (.seq (r [s 2 (.move b0)]) (.seq (r [m 3 0,s 4 (.bin .geq (t 3) (i 1)),m 5 4,gt 6 5 (.move (t 0)),gt 7 5 (.bin .leq (t 6) (i 64)),s 8 (.pick (t 5) (t 7) b0),m 2 8]) .ret)):=⟨_,by simp only [QQ];rfl⟩
def A84:aF:=Cg.1
def R84:List RV:=[.tmp 2]
theorem is84:Is Tryz.prog (fun _ _=>false) 84 9 A84 R84:=⟨Tryz.f84,Tryz.func84,rfl,by kernel_rfl,by kernel_rfl,Tryz.call84⟩
def np:CX (.seq (.seq (r [m 10 7,m 11 6,s 12 (.len (t 11)),s 13 (.bin .lss (t 10) (t 12))]) (.cond (t 13) .skip (.exit 0))) (.seq (.block 1 (.seq (r [m 16 6,m 17 7,s 18 (.idxA 2 (t 16) (t 17)),fa 19 0 18,l 20 19,m 21 1,s 22 (.bin .eql (t 20) (t 21))]) (.cond (t 22) (.seq (r [m 23 6,m 24 7,s 25 (.idxA 2 (t 23) (t 24)),fa 26 1 25,l 27 26,m 4 27,s 5 (.move b1)]) .ret) .skip))) (r [m 14 7,s 15 (.bin .add (t 14) (i 1)),m 7 15]))):=⟨_,by simp only [QQ];rfl⟩
def sf:aF:=np.1
def Eo:CX (.seq (r [s 2 (.box (t 0)),s 4 (.move (i 0)),s 5 (.move b0)]) (.seq (r [s 8 (.load 5 true (t 2)),c 9 19 [(t 8)],m 6 9]) (.seq (.seq (r [s 7 (.move (i 0))]) (.block 0 (.loop sf))) (.seq (r [s 4 (.move (i 0)),s 5 (.move b0)]) .ret)))):=⟨_,by simp only [QQ];rfl⟩
def A85:aF:=Eo.1
def R85:List RV:=[.tmp 4,.tmp 5]
theorem is85:Is Tryz.prog (fun _ _=>false) 85 28 A85 R85:=⟨Tryz.f85,Tryz.func85,rfl,by kernel_rfl,by kernel_rfl,Tryz.call85⟩
def Cf:CX (.seq (r [s 3 (.box (t 0)),s 4 (.box (t 1)),s 6 (.move b0)]) (.seq (r [fa 7 1 4,l 8 7,m 9 2,s 10 (.bin .eql (t 8) (t 9)),m 11 10,gt 12 11 (.load 5 true (t 3)),gt 13 11 (.load 6 true (t 4)),tc 14 11 87 [(t 12),(t 13)],s 15 (.pick (t 11) (t 14) b0),m 6 15]) .ret)):=⟨_,by simp only [QQ];rfl⟩
def A86:aF:=Cf.1
def R86:List RV:=[.tmp 6]
theorem is86:Is Tryz.prog (fun _ _=>false) 86 16 A86 R86:=⟨Tryz.f86,Tryz.func86,rfl,by kernel_rfl,by kernel_rfl,Tryz.call86⟩
def En:CX (.seq (r [s 2 (.box (t 0)),s 3 (.box (t 1)),s 4 (.move b0)]) (.seq (r [s 5 (.load 6 true (t 3)),c 6 92 [(t 5)],s 7 (.bin .eql (t 6) (i 0)),m 8 7,gt 9 8 (.load 5 true (t 2)),gt 10 8 (.load 6 true (t 3)),tc 11 8 93 [(t 9),(t 10)],s 12 (.pick (t 8) (t 11) b0),m 4 12]) .ret)):=⟨_,by simp only [QQ];rfl⟩
def A87:aF:=En.1
def R87:List RV:=[.tmp 4]
theorem is87:Is Tryz.prog (fun _ _=>false) 87 13 A87 R87:=⟨Tryz.f87,Tryz.func87,rfl,by kernel_rfl,by kernel_rfl,Tryz.call87⟩
def qm:CX (.seq (.seq (r [m 32 11,m 33 3,s 34 (.len (t 33)),s 35 (.bin .lss (t 32) (t 34))]) (.cond (t 35) .skip (.exit 0))) (.seq (.block 1 (.seq (.dregion [⟨0,s 38 (.load 5 true (t 5)),[]⟩,⟨1,m 39 3,[]⟩,⟨2,m 40 11,[]⟩,⟨3,s 41 (.idxA 6 (t 39) (t 40)),[]⟩,⟨4,s 42 (.load 6 true (t 41)),[]⟩,⟨5,fa 43 0 4,[]⟩,⟨6,l 44 43,[]⟩,⟨7,m 45 9,[]⟩,⟨8,s 46 (.idxA 5 (t 44) (t 45)),[]⟩,⟨9,fa 47 1 46,[]⟩,⟨10,l 48 47,[]⟩,⟨11,m 49 11,[]⟩,⟨12,s 50 (.idxA 2 (t 48) (t 49)),[]⟩,⟨13,fa 51 1 50,[]⟩,⟨14,l 52 51,[]⟩,⟨15,c 53 86 [(t 38),(t 42),(t 52)],[]⟩,⟨16,s 54 (.un .not (t 53)),[]⟩]) (.cond (t 54) (.seq (r [s 8 (.move b0)]) .ret) .skip))) (r [m 36 11,s 37 (.bin .add (t 36) (i 1)),m 11 37]))):=⟨_,by simp only [QQ];rfl⟩
def wG:aF:=qm.1
def Em:CX (.seq (r [s 4 (.box (t 0)),s 5 (.box (t 1)),s 8 (.move b0)]) (.seq (r [s 13 (.load 1 true (t 4)),m 14 2,c 15 68 [(t 13),(t 14)],m 12 15,e 16 12 0,e 17 12 1,m 9 16,m 10 17]) (.seq (.seq (r [m 18 10,s 19 (.bin .neq (t 18) (i 0)),m 20 19,gf 21 20 (.move (t 3)),gf 22 20 (.len (t 21)),fb 23 20 0 4,fl 24 20 23,gf 25 20 (.move (t 9)),gf 26 20 (.idxA 5 (t 24) (t 25)),fb 27 20 1 26,fl 28 20 27,gf 29 20 (.len (t 28)),gf 30 20 (.bin .neq (t 22) (t 29)),s 31 (.pick (t 20) b1 (t 30))]) (.cond (t 31) (.seq (r [s 8 (.move b0)]) .ret) .skip)) (.seq (.seq (r [s 11 (.move (i 0))]) (.block 0 (.loop wG))) (.seq (r [s 8 (.move b1)]) .ret))))):=⟨_,by simp only [QQ];rfl⟩
def A88:aF:=Em.1
def R88:List RV:=[.tmp 8]
theorem is88:Is Tryz.prog (fun _ _=>false) 88 55 A88 R88:=⟨Tryz.f88,Tryz.func88,rfl,by kernel_rfl,by kernel_rfl,Tryz.call88⟩
def El:CX (.seq (r [s 2 (.box (t 0)),s 4 (.move (i 0))]) (.seq (r [s 8 (.load 1 true (t 2)),m 9 1,c 10 68 [(t 8),(t 9)],m 7 10,e 11 7 0,e 12 7 1,m 5 11,m 6 12]) (.seq (.seq (r [m 13 6,s 14 (.bin .neq (t 13) (i 0))]) (.cond (t 14) (.seq (r [s 4 (.move (.const (.int .i64 (-1))))]) .ret) .skip)) (.seq (r [fa 15 0 2,l 16 15,m 17 5,s 18 (.idxA 5 (t 16) (t 17)),fa 19 2 18,l 20 19,m 4 20]) .ret)))):=⟨_,by simp only [QQ];rfl⟩
def A89:aF:=El.1
def R89:List RV:=[.tmp 4]
theorem is89:Is Tryz.prog (fun _ _=>false) 89 21 A89 R89:=⟨Tryz.f89,Tryz.func89,rfl,by kernel_rfl,by kernel_rfl,Tryz.call89⟩
def wE:CX (r [s 3 (.alloc [(.int .u8 0),(.int .i64 0),(.int .u64 0),(.str []),(.int .i64 0),.nilS]),sn (.store 6 (t 3) (t 16))]):=⟨_,by simp only [QQ];rfl⟩
def Ah:aF:=wE.1
def wD:CX (.block 1 (.seq (r [s 17 (.load 6 true (t 3)),c 18 97 [(t 17)],s 19 (.un .not (t 18))]) (.cond (t 19) (.seq (r [sn (.store 1 (t 2) (i 8))]) .ret) .skip))):=⟨_,by simp only [QQ];rfl⟩
def Ag:aF:=wD.1
def Ek:CX (.seq (r [s 1 (.box (t 0)),s 2 (.alloc [(.int .i64 0)])]) (.seq (.seq (r [s 6 (.load 6 true (t 1)),c 7 94 [(t 6)],s 8 (.bin .gtr (t 7) (i 400)),m 9 8,gf 10 9 (.load 6 true (t 1)),fc 11 9 95 [(t 10)],gf 12 9 (.bin .gtr (t 11) (i 60)),s 13 (.pick (t 9) b1 (t 12))]) (.cond (t 13) (.seq (r [sn (.store 1 (t 2) (i 4))]) .ret) .skip)) (.seq (.seq (r [s 14 (.load 6 true (t 1)),c 15 96 [(t 14)]]) (.block 0 (.rangeF (t 15) #[16] Ah Ag))) (.seq (.seq (r [s 21 (.load 6 true (t 1)),c 22 98 [(t 21)],m 20 22,e 23 20 0,e 24 20 1,m 4 23,m 5 24]) (.seq (r [m 25 5,s 26 (.un .not (t 25))]) (.cond (t 26) (.seq (r [sn (.store 1 (t 2) (i 14))]) .ret) .skip))) (.seq (r [sn (.store 1 (t 2) (i 0))]) .ret))))):=⟨_,by simp only [QQ];rfl⟩
def A90:aF:=Ek.1
def R90:List RV:=[.cell 2 1 false]
theorem is90:Is Tryz.prog (fun _ _=>false) 90 27 A90 R90:=⟨Tryz.f90,Tryz.func90,rfl,by kernel_rfl,by kernel_rfl,Tryz.call90⟩
def Ej:CX (.seq (r [s 1 (.box (t 0)),s 2 (.move (.const .nilFunc))]) (.seq (r [s 3 (.mkfn (.func 99) [(t 1)]),m 2 3]) .ret)):=⟨_,by simp only [QQ];rfl⟩
def A91:aF:=Ej.1
def R91:List RV:=[.tmp 2]
theorem is91:Is Tryz.prog (fun _ _=>false) 91 4 A91 R91:=⟨Tryz.f91,Tryz.func91,rfl,by kernel_rfl,by kernel_rfl,Tryz.call91⟩
def ld:CX (.seq (.seq (r [m 25 5,m 26 4,s 27 (.bin .lss (t 25) (t 26))]) (.cond (t 27) .skip (.exit 2))) (.seq (.block 3 (.seq (.dregion [⟨0,m 30 3,[]⟩,⟨1,m 31 5,[]⟩,⟨2,s 32 (.idxA 3 (t 30) (t 31)),[]⟩,⟨3,fa 33 0 32,[]⟩,⟨4,l 34 33,[]⟩,⟨5,m 35 3,[]⟩,⟨6,m 36 4,[]⟩,⟨7,s 37 (.idxA 3 (t 35) (t 36)),[]⟩,⟨8,fa 38 0 37,[]⟩,⟨9,l 39 38,[]⟩,⟨10,s 40 (.bin .eql (t 34) (t 39)),[]⟩,⟨11,m 41 40,[]⟩,⟨12,gt 42 41 (.move (t 3)),[]⟩,⟨13,gt 43 41 (.move (t 5)),[]⟩,⟨14,gt 44 41 (.idxA 3 (t 42) (t 43)),[]⟩,⟨15,ta 45 41 1 44,[]⟩,⟨16,tl 46 41 45,[]⟩,⟨17,gt 47 41 (.move (t 3)),[]⟩,⟨18,gt 48 41 (.move (t 4)),[]⟩,⟨19,gt 49 41 (.idxA 3 (t 47) (t 48)),[]⟩,⟨20,ta 50 41 1 49,[]⟩,⟨21,tl 51 41 50,[]⟩,⟨22,gt 52 41 (.bin .neq (t 46) (t 51)),[]⟩,⟨23,s 53 (.pick (t 41) (t 52) b0),[]⟩]) (.cond (t 53) (.seq (r [s 2 (.move (i 14))]) .ret) .skip))) (r [m 28 5,s 29 (.bin .add (t 28) (i 1)),m 5 29]))):=⟨_,by simp only [QQ];rfl⟩
def pg:aF:=ld.1
def ql:CX (.seq (.seq (r [m 19 4,m 20 3,s 21 (.len (t 20)),s 22 (.bin .lss (t 19) (t 21))]) (.cond (t 22) .skip (.exit 0))) (.seq (.block 1 (.seq (r [s 5 (.move (i 0))]) (.block 2 (.loop pg)))) (r [m 23 4,s 24 (.bin .add (t 23) (i 1)),m 4 24]))):=⟨_,by simp only [QQ];rfl⟩
def wC:aF:=ql.1
def Ei:CX (.seq (r [s 1 (.box (t 0)),s 2 (.move (i 0))]) (.seq (.seq (r [s 6 (.load 6 true (t 1)),c 7 61 [(t 6)],s 8 (.bin .gtr (t 7) (i 400)),m 9 8,gf 10 9 (.load 6 true (t 1)),fc 11 9 101 [(t 10)],gf 12 9 (.bin .gtr (t 11) (i 60)),s 13 (.pick (t 9) b1 (t 12))]) (.cond (t 13) (.seq (r [s 2 (.move (i 4))]) .ret) .skip)) (.seq (.seq (r [s 14 (.load 6 true (t 1)),c 15 102 [(t 14)],s 16 (.un .not (t 15))]) (.cond (t 16) (.seq (r [s 2 (.move (i 8))]) .ret) .skip)) (.seq (r [s 17 (.load 6 true (t 1)),c 18 103 [(t 17)],m 3 18]) (.seq (.seq (r [s 4 (.move (i 0))]) (.block 0 (.loop wC))) (.seq (r [s 2 (.move (i 0))]) .ret)))))):=⟨_,by simp only [QQ];rfl⟩
def A92:aF:=Ei.1
def R92:List RV:=[.tmp 2]
theorem is92:Is Tryz.prog (fun _ _=>false) 92 54 A92 R92:=⟨Tryz.f92,Tryz.func92,rfl,by kernel_rfl,by kernel_rfl,Tryz.call92⟩
def lc:CX (.seq (.seq (r [m 36 7,fa 37 5 3,l 38 37,s 39 (.len (t 38)),s 40 (.bin .lss (t 36) (t 39))]) (.cond (t 40) .skip (.exit 0))) (.seq (.block 1 (.seq (.dregion [⟨0,s 43 (.load 5 true (t 2)),[]⟩,⟨1,fa 44 5 3,[]⟩,⟨2,l 45 44,[]⟩,⟨3,m 46 7,[]⟩,⟨4,s 47 (.idxA 6 (t 45) (t 46)),[]⟩,⟨5,s 48 (.load 6 true (t 47)),[]⟩,⟨6,c 49 93 [(t 43),(t 48)],[]⟩,⟨7,s 50 (.un .not (t 49)),[]⟩]) (.cond (t 50) (.seq (r [s 4 (.move b0)]) .ret) .skip))) (r [m 41 7,s 42 (.bin .add (t 41) (i 1)),m 7 42]))):=⟨_,by simp only [QQ];rfl⟩
def pf:aF:=lc.1
def wB:CX (.seq (r [s 2 (.box (t 0)),s 3 (.box (t 1)),s 4 (.move b0)]) (.seq (.seq (r [fa 8 0 3,l 9 8,s 10 (.bin .eql (t 9) (.const (.int .u8 2)))]) (.cond (t 10) (.seq (r [s 12 (.load 5 true (t 2)),fa 13 3 3,l 14 13,c 15 85 [(t 12),(t 14)],m 11 15,e 16 11 0,e 17 11 1,m 5 16,m 6 17]) (.seq (r [m 18 6,m 19 18,gt 20 19 (.move (t 5)),ta 21 19 1 3,tl 22 19 21,gt 23 19 (.bin .eql (t 20) (t 22)),s 24 (.pick (t 19) (t 23) b0),m 4 24]) .ret)) .skip)) (.seq (.seq (r [fa 25 0 3,l 26 25,s 27 (.bin .eql (t 26) (.const (.int .u8 24))),m 28 27,ta 29 28 5 3,tl 30 28 29,gt 31 28 (.idxA 6 (t 30) (i 0)),ta 32 28 1 31,tl 33 28 32,gt 34 28 (.bin .neq (t 33) (i 32)),s 35 (.pick (t 28) (t 34) b0)]) (.cond (t 35) (.seq (r [s 4 (.move b0)]) .ret) .skip)) (.seq (.seq (r [s 7 (.move (i 0))]) (.block 0 (.loop pf))) (.seq (r [s 4 (.move b1)]) .ret))))):=⟨_,by simp only [QQ];rfl⟩
def A93:aF:=wB.1
def R93:List RV:=[.tmp 4]
theorem is93:Is Tryz.prog (fun _ _=>false) 93 51 A93 R93:=⟨Tryz.f93,Tryz.func93,rfl,by kernel_rfl,by kernel_rfl,Tryz.call93⟩
def wA:CX .skip:=⟨_,rfl⟩
def Af:aF:=wA.1
def wv:CX (.block 1 (r [l 7 3,s 8 (.bin .add (t 7) (i 1)),sn (.store 1 (t 3) (t 8))])):=⟨_,by simp only [QQ];rfl⟩
def Ae:aF:=wv.1
def Eh:CX (.seq (r [s 1 (.box (t 0)),s 2 (.move (i 0))]) (.seq (r [s 3 (.alloc [(.int .i64 0)]),sn (.store 1 (t 3) (i 0))]) (.seq (.seq (r [s 4 (.load 6 true (t 1)),c 5 96 [(t 4)]]) (.block 0 (.rangeF (t 5) #[6] Af Ae))) (.seq (r [l 9 3,m 2 9]) .ret)))):=⟨_,by simp only [QQ];rfl⟩
def A94:aF:=Eh.1
def R94:List RV:=[.tmp 2]
theorem is94:Is Tryz.prog (fun _ _=>false) 94 10 A94 R94:=⟨Tryz.f94,Tryz.func94,rfl,by kernel_rfl,by kernel_rfl,Tryz.call94⟩
def qj:CX (.seq (r [s 10 (.bin .lss (t 9) (t 8))]) (.seq (.cond (t 10) .skip (.exit 0)) (.seq (.block 1 (.seq (r [s 11 (.idxA 6 (t 7) (t 9)),s 12 (.load 6 true (t 11)),s 5 (.alloc [(.int .u8 0),(.int .i64 0),(.int .u64 0),(.str []),(.int .i64 0),.nilS]),sn (.store 6 (t 5) (t 12))]) (r [m 13 3,s 14 (.load 6 true (t 5)),c 15 95 [(t 14)],s 16 (.mx (t 13) (t 15)),m 3 16]))) (r [s 17 (.bin .add (t 9) (i 1)),m 9 17])))):=⟨_,by simp only [QQ];rfl⟩
def wt:aF:=qj.1
def Eg:CX (.seq (r [s 1 (.box (t 0)),s 2 (.move (i 0))]) (.seq (r [s 3 (.move (i 0))]) (.seq (.seq (r [fa 6 5 1,l 7 6,s 8 (.len (t 7)),s 9 (.move (i 0))]) (.block 0 (.loop wt))) (.seq (r [m 18 3,s 19 (.bin .add (t 18) (i 1)),m 2 19]) .ret)))):=⟨_,by simp only [QQ];rfl⟩
def A95:aF:=Eg.1
def R95:List RV:=[.tmp 2]
theorem is95:Is Tryz.prog (fun _ _=>false) 95 20 A95 R95:=⟨Tryz.f95,Tryz.func95,rfl,by kernel_rfl,by kernel_rfl,Tryz.call95⟩
def Ef:CX (.seq (r [s 1 (.box (t 0)),s 2 (.move (.const .nilFunc))]) (.seq (r [s 3 (.mkfn (.func 104) [(t 1)]),m 2 3]) .ret)):=⟨_,by simp only [QQ];rfl⟩
def A96:aF:=Ef.1
def R96:List RV:=[.tmp 2]
theorem is96:Is Tryz.prog (fun _ _=>false) 96 4 A96 R96:=⟨Tryz.f96,Tryz.func96,rfl,by kernel_rfl,by kernel_rfl,Tryz.call96⟩
def Ee:CX (.seq (r [s 1 (.box (t 0)),s 2 (.move b0)]) (.seq (.seq (r [fa 6 1 1,l 7 6,c 8 106 [(t 7)],s 9 (.un .not (t 8))]) (.cond (t 9) (.seq (r [s 2 (.move b0)]) .ret) .skip)) (.seq (r [fa 11 0 1,l 12 11,c 13 107 [(t 12)],m 10 13,e 14 10 0,e 15 10 1,s 3 (.alloc [(.str []),(.int .i64 0),(.int .i64 0)]),sn (.store 3 (t 3) (t 14)),m 4 15]) (.seq (.seq (r [m 16 4,s 17 (.un .not (t 16))]) (.cond (t 17) (.seq (r [fa 18 5 1,l 19 18,s 20 (.len (t 19)),s 21 (.bin .eql (t 20) (i 0)),m 22 21,ta 23 22 4 1,tl 24 22 23,gt 25 22 (.bin .eql (t 24) (i 0)),s 26 (.pick (t 22) (t 25) b0),m 5 26]) (.seq (r [m 27 5,m 28 27,ta 29 28 0 1,tl 30 28 29,gt 31 28 (.bin .eql (t 30) (.const (.int .u8 1))),gt 32 28 (.move (t 31)),ta 33 32 3 1,tl 34 32 33,gt 35 32 (.bin .eql (t 34) (.const (.string ⟨#[]⟩))),gt 36 28 (.pick (t 32) (t 35) b0),gt 37 28 (.move (t 36)),ta 38 37 1 1,tl 39 37 38,ta 40 37 2 1,tl 41 37 40,tc 42 37 108 [(t 39),(t 41)],gt 43 28 (.pick (t 37) (t 42) b0),gt 44 28 (.move (t 43)),fb 45 44 0 1,fl 46 44 45,gf 47 44 (.bin .eql (t 46) (.const (.int .u8 2))),gf 48 44 (.move (t 47)),ta 49 48 2 1,tl 50 48 49,gt 51 48 (.bin .eql (t 50) (.const (.int .u64 0))),gf 52 44 (.pick (t 48) (t 51) b0),gf 53 44 (.move (t 52)),ta 54 53 3 1,tl 55 53 54,tc 56 53 109 [(t 55)],gf 57 44 (.pick (t 53) (t 56) b0),gt 58 28 (.pick (t 44) b1 (t 57)),s 59 (.pick (t 28) (t 58) b0),m 2 59]) .ret)) .skip)) (.seq (r [fa 60 2 1,l 61 60,s 62 (.bin .eql (t 61) (.const (.int .u64 0))),m 63 62,ta 64 63 3 1,tl 65 63 64,gt 66 63 (.bin .eql (t 65) (.const (.string ⟨#[]⟩))),s 67 (.pick (t 63) (t 66) b0),m 68 67,ta 69 68 4 1,tl 70 68 69,gt 71 68 (.bin .eql (t 70) (i 0)),gt 72 68 (.move (t 71)),fb 73 72 2 3,fl 74 72 73,gf 75 72 (.bin .eql (t 74) (i 5)),gt 76 68 (.pick (t 72) b1 (t 75)),s 77 (.pick (t 68) (t 76) b0),m 78 77,ta 79 78 5 1,tl 80 78 79,gt 81 78 (.len (t 80)),ta 82 78 1 3,tl 83 78 82,gt 84 78 (.bin .eql (t 81) (t 83)),s 85 (.pick (t 78) (t 84) b0),m 86 85,gt 87 86 (.load 6 true (t 1)),ta 88 86 2 3,tl 89 86 88,tc 90 86 110 [(t 87),(t 89)],s 91 (.pick (t 86) (t 90) b0),m 2 91]) .ret))))):=⟨_,by simp only [QQ];rfl⟩
def A97:aF:=Ee.1
def R97:List RV:=[.tmp 2]
theorem is97:Is Tryz.prog (fun _ _=>false) 97 92 A97 R97:=⟨Tryz.f97,Tryz.func97,rfl,by kernel_rfl,by kernel_rfl,Tryz.call97⟩
def ws:CX (r [s 5 (.alloc [(.int .u8 0),(.int .i64 0),(.int .u64 0),(.str []),(.int .i64 0),.nilS]),sn (.store 6 (t 5) (t 11))]):=⟨_,by simp only [QQ];rfl⟩
def Ad:aF:=ws.1
def kZ:CX (.block 1 (.seq (.seq (r [fa 12 0 5,l 13 12,s 14 (.bin .neq (t 13) (.const (.int .u8 2)))]) (.cond (t 14) (.exit 1) .skip)) (.seq (.seq (r [l 16 4,fa 17 3 5,l 18 17,s 19 (.m (.look .str (.int .i64 0) true (t 16) (t 18))),m 15 19,e 20 15 0,e 21 15 1,m 6 20,m 7 21]) (.seq (r [m 22 7,m 23 22,gt 24 23 (.move (t 6)),ta 25 23 1 5,tl 26 23 25,gt 27 23 (.bin .neq (t 24) (t 26)),s 28 (.pick (t 23) (t 27) b0)]) (.cond (t 28) (.seq (r [sn (.store 1 (t 2) (.const (.map none))),sn (.store 1 (t 3) b0)]) .ret) .skip))) (r [l 29 4,fa 30 3 5,l 31 30,fa 32 1 5,l 33 32,sn (.m (.set .str (t 29) (t 31) (t 33)))])))):=⟨_,by simp only [QQ];rfl⟩
def pe:aF:=kZ.1
def Ed:CX (.seq (r [s 1 (.box (t 0)),s 2 (.alloc [.nilM]),s 3 (.alloc [(.bool false)])]) (.seq (r [s 8 (.m .mk),s 4 (.alloc [.nilM]),sn (.store 1 (t 4) (t 8))]) (.seq (.seq (r [s 9 (.load 6 true (t 1)),c 10 96 [(t 9)]]) (.block 0 (.rangeF (t 10) #[11] Ad pe))) (.seq (r [l 34 4,sn (.store 1 (t 2) (t 34)),sn (.store 1 (t 3) b1)]) .ret)))):=⟨_,by simp only [QQ];rfl⟩
def A98:aF:=Ed.1
def R98:List RV:=[.cell 2 1 false,.cell 3 1 false]
theorem is98:Is Tryz.prog (fun _ _=>false) 98 35 A98 R98:=⟨Tryz.f98,Tryz.func98,rfl,by kernel_rfl,by kernel_rfl,Tryz.call98⟩
def Ec:CX (.seq (r [s 2 (.box (t 0))]) (.seq (r [s 3 (.alloc [.nilF])]) (.seq (r [s 4 (.mkfn (.func 100) [(t 2),(t 3)]),sn (.store 1 (t 3) (t 4))]) (r [l 5 3,s 6 (.load 6 true (t 1)),⟨(some 7),none,.call (t 5) [(t 6)]⟩])))):=⟨_,by simp only [QQ];rfl⟩
def A99:aF:=Ec.1
def R99:List RV:=[]
theorem is99:Is Tryz.prog (fun _ _=>false) 99 8 A99 R99:=⟨Tryz.f99,Tryz.func99,rfl,by kernel_rfl,by kernel_rfl,Tryz.call99⟩
def nM:CX (.seq (r [s 15 (.bin .lss (t 14) (t 13))]) (.seq (.cond (t 15) .skip (.exit 0)) (.seq (.block 1 (.seq (r [s 16 (.idxA 6 (t 12) (t 14)),s 17 (.load 6 true (t 16)),s 6 (.alloc [(.int .u8 0),(.int .i64 0),(.int .u64 0),(.str []),(.int .i64 0),.nilS]),sn (.store 6 (t 6) (t 17))]) (.seq (r [l 18 2,s 19 (.load 6 true (t 6)),⟨(some 20),none,.call (t 18) [(t 19)]⟩,s 21 (.un .not (t 20))]) (.cond (t 21) (.seq (r [s 4 (.move b0)]) .ret) .skip)))) (r [s 22 (.bin .add (t 14) (i 1)),m 14 22])))):=⟨_,by simp only [QQ];rfl⟩
def rf:aF:=nM.1
def AA:CX (.seq (r [s 3 (.box (t 0)),s 4 (.move b0)]) (.seq (.seq (r [l 7 1,s 8 (.load 6 true (t 3)),⟨(some 9),none,.call (t 7) [(t 8)]⟩,s 10 (.un .not (t 9))]) (.cond (t 10) (.seq (r [s 4 (.move b0)]) .ret) .skip)) (.seq (.seq (r [fa 11 5 3,l 12 11,s 13 (.len (t 12)),s 14 (.move (i 0))]) (.block 0 (.loop rf))) (.seq (r [s 4 (.move b1)]) .ret)))):=⟨_,by simp only [QQ];rfl⟩
def Fl:aF:=AA.1
def zw:List RV:=[.tmp 4]
theorem Dp:Is Tryz.prog (fun _ _=>false) 100 23 Fl zw:=⟨Tryz.f100,Tryz.func100,rfl,by kernel_rfl,by kernel_rfl,Tryz.call100⟩
def nL:CX (.seq (.seq (r [m 5 4,fa 6 5 1,l 7 6,s 8 (.len (t 7)),s 9 (.bin .lss (t 5) (t 8))]) (.cond (t 9) .skip (.exit 0))) (.seq (.block 1 (r [m 12 3,fa 13 5 1,l 14 13,m 15 4,s 16 (.idxA 6 (t 14) (t 15)),s 17 (.load 6 true (t 16)),c 18 101 [(t 17)],s 19 (.mx (t 12) (t 18)),m 3 19])) (r [m 10 4,s 11 (.bin .add (t 10) (i 1)),m 4 11]))):=⟨_,by simp only [QQ];rfl⟩
def rd:aF:=nL.1
def Az:CX (.seq (r [s 1 (.box (t 0)),s 2 (.move (i 0))]) (.seq (r [s 3 (.move (i 0))]) (.seq (.seq (r [s 4 (.move (i 0))]) (.block 0 (.loop rd))) (.seq (r [m 20 3,s 21 (.bin .add (t 20) (i 1)),m 2 21]) .ret)))):=⟨_,by simp only [QQ];rfl⟩
def Fk:aF:=Az.1
def Ea:List RV:=[.tmp 2]
theorem Do:Is Tryz.prog (fun _ _=>false) 101 22 Fk Ea:=⟨Tryz.f101,Tryz.func101,rfl,by kernel_rfl,by kernel_rfl,Tryz.call101⟩
def nJ:CX (.seq (.seq (r [m 7 3,fa 8 5 1,l 9 8,s 10 (.len (t 9)),s 11 (.bin .lss (t 7) (t 10))]) (.cond (t 11) .skip (.exit 0))) (.seq (.block 1 (.seq (r [fa 14 5 1,l 15 14,m 16 3,s 17 (.idxA 6 (t 15) (t 16)),s 18 (.load 6 true (t 17)),c 19 102 [(t 18)],s 20 (.un .not (t 19))]) (.cond (t 20) (.seq (r [s 2 (.move b0)]) .ret) .skip))) (r [m 12 3,s 13 (.bin .add (t 12) (i 1)),m 3 13]))):=⟨_,by simp only [QQ];rfl⟩
def rc:aF:=nJ.1
def Ay:CX (.seq (r [s 1 (.box (t 0)),s 2 (.move b0)]) (.seq (.seq (r [s 3 (.move (i 0))]) (.block 0 (.loop rc))) (.seq (.dregion [⟨0,fa 21 1 1,[]⟩,⟨1,l 22 21,[]⟩,⟨2,fa 23 5 1,[]⟩,⟨3,l 24 23,[]⟩,⟨4,s 25 (.len (t 24)),[]⟩,⟨5,m 4 22,[]⟩,⟨6,m 5 25,[]⟩]) (.seq (.seq (r [m 26 4,c 27 84 [(t 26)],s 28 (.un .not (t 27))]) (.cond (t 28) (.seq (r [s 2 (.move b0)]) .ret) .skip)) (.seq (.seq (r [fa 29 0 1,l 30 29]) (.block 2 (.seq (r [s 32 (.bin .eql (t 30) (.const (.int .u8 1))),m 31 32]) (.cond (t 31) (.seq (r [m 33 5,s 34 (.bin .eql (t 33) (i 0)),m 35 34,ta 36 35 3 1,tl 37 35 36,gt 38 35 (.bin .eql (t 37) (.const (.string ⟨#[]⟩))),s 39 (.pick (t 35) (t 38) b0),m 40 39,ta 41 40 4 1,tl 42 40 41,gt 43 40 (.bin .eql (t 42) (i 0)),s 44 (.pick (t 40) (t 43) b0),m 45 44,gt 46 45 (.move (t 4)),ta 47 45 2 1,tl 48 45 47,tc 49 45 111 [(t 46),(t 48)],s 50 (.pick (t 45) (t 49) b0),m 2 50]) .ret) (.seq (r [s 52 (.bin .eql (t 30) (.const (.int .u8 2))),m 51 52]) (.cond (t 51) (.seq (r [m 53 5,s 54 (.bin .eql (t 53) (i 0)),m 55 54,ta 56 55 2 1,tl 57 55 56,gt 58 55 (.bin .eql (t 57) (.const (.int .u64 0))),s 59 (.pick (t 55) (t 58) b0),m 60 59,ta 61 60 4 1,tl 62 60 61,gt 63 60 (.bin .eql (t 62) (i 0)),s 64 (.pick (t 60) (t 63) b0),m 65 64,ta 66 65 3 1,tl 67 65 66,tc 68 65 112 [(t 67)],s 69 (.pick (t 65) (t 68) b0),m 2 69]) .ret) .skip)))))) (.seq (.seq (r [fa 70 0 1,l 71 70,s 72 (.bin .lss (t 71) (.const (.int .u8 3))),m 73 72,fb 74 73 0 1,fl 75 73 74,gf 76 73 (.bin .gtr (t 75) (.const (.int .u8 24))),s 77 (.pick (t 73) b1 (t 76)),m 78 77,fb 79 78 2 1,fl 80 78 79,gf 81 78 (.bin .neq (t 80) (.const (.int .u64 0))),s 82 (.pick (t 78) b1 (t 81)),m 83 82,fb 84 83 3 1,fl 85 83 84,gf 86 83 (.bin .neq (t 85) (.const (.string ⟨#[]⟩))),s 87 (.pick (t 83) b1 (t 86)),m 88 87,fb 89 88 4 1,fl 90 88 89,gf 91 88 (.bin .neq (t 90) (i 0)),gf 92 88 (.move (t 91)),ta 93 92 0 1,tl 94 92 93,gt 95 92 (.bin .neq (t 94) (.const (.int .u8 21))),gf 96 88 (.pick (t 92) (t 95) b0),s 97 (.pick (t 88) b1 (t 96)),m 98 97,gf 99 98 (.move (t 5)),gf 100 98 (.bin .eql (t 99) (i 0)),s 101 (.pick (t 98) b1 (t 100))]) (.cond (t 101) (.seq (r [s 2 (.move b0)]) .ret) .skip)) (.seq (r [fa 102 5 1,l 103 102,s 104 (.idxA 6 (t 103) (i 0)),fa 105 1 104,l 106 105,m 6 106]) (.seq (.seq (r [fa 107 0 1,l 108 107]) (.block 3 (.seq (.seq (r [s 110 (.bin .eql (t 108) (.const (.int .u8 3))),m 109 110]) (.cond (t 109) .skip (r [s 111 (.bin .eql (t 108) (.const (.int .u8 4))),m 109 111]))) (.cond (t 109) (.seq (r [m 112 5,s 113 (.bin .eql (t 112) (i 1)),m 114 113,gt 115 114 (.move (t 6)),gt 116 114 (.move (t 4)),gt 117 114 (.bin .eql (t 115) (t 116)),s 118 (.pick (t 114) (t 117) b0),m 2 118]) .ret) (.seq (.seq (r [s 120 (.bin .eql (t 108) (.const (.int .u8 16))),m 119 120]) (.cond (t 119) .skip (.seq (r [s 121 (.bin .eql (t 108) (.const (.int .u8 17))),m 119 121]) (.cond (t 119) .skip (r [s 122 (.bin .eql (t 108) (.const (.int .u8 18))),m 119 122]))))) (.cond (t 119) (.seq (r [m 123 5,s 124 (.bin .eql (t 123) (i 2)),m 125 124,gt 126 125 (.move (t 4)),gt 127 125 (.bin .eql (t 126) (i 1)),s 128 (.pick (t 125) (t 127) b0),m 129 128,ta 130 129 5 1,tl 131 129 130,gt 132 129 (.idxA 6 (t 131) (i 1)),ta 133 129 1 132,tl 134 129 133,gt 135 129 (.move (t 6)),gt 136 129 (.bin .eql (t 134) (t 135)),s 137 (.pick (t 129) (t 136) b0),m 2 137]) .ret) (.seq (r [s 139 (.bin .eql (t 108) (.const (.int .u8 19))),m 138 139]) (.cond (t 138) (.seq (r [m 140 5,s 141 (.bin .eql (t 140) (i 3)),m 142 141,gt 143 142 (.move (t 6)),gt 144 142 (.bin .eql (t 143) (i 1)),s 145 (.pick (t 142) (t 144) b0),m 146 145,ta 147 146 5 1,tl 148 146 147,gt 149 146 (.idxA 6 (t 148) (i 1)),ta 150 146 1 149,tl 151 146 150,gt 152 146 (.move (t 4)),gt 153 146 (.bin .eql (t 151) (t 152)),s 154 (.pick (t 146) (t 153) b0),m 155 154,ta 156 155 5 1,tl 157 155 156,gt 158 155 (.idxA 6 (t 157) (i 2)),ta 159 155 1 158,tl 160 155 159,gt 161 155 (.move (t 4)),gt 162 155 (.bin .eql (t 160) (t 161)),s 163 (.pick (t 155) (t 162) b0),m 2 163]) .ret) (.seq (r [s 165 (.bin .eql (t 108) (.const (.int .u8 20))),m 164 165]) (.cond (t 164) (.seq (r [m 166 5,s 167 (.bin .eql (t 166) (i 2)),m 168 167,gt 169 168 (.move (t 6)),ta 170 168 5 1,tl 171 168 170,gt 172 168 (.idxA 6 (t 171) (i 1)),ta 173 168 1 172,tl 174 168 173,gt 175 168 (.bin .add (t 169) (t 174)),gt 176 168 (.move (t 4)),gt 177 168 (.bin .eql (t 175) (t 176)),s 178 (.pick (t 168) (t 177) b0),m 2 178]) .ret) (.seq (r [s 180 (.bin .eql (t 108) (.const (.int .u8 21))),m 179 180]) (.cond (t 179) (.seq (r [m 181 5,s 182 (.bin .eql (t 181) (i 1)),m 183 182,ta 184 183 4 1,tl 185 183 184,gt 186 183 (.bin .geq (t 185) (i 0)),s 187 (.pick (t 183) (t 186) b0),m 188 187,ta 189 188 4 1,tl 190 188 189,gt 191 188 (.move (t 6)),gt 192 188 (.bin .leq (t 190) (t 191)),s 193 (.pick (t 188) (t 192) b0),m 194 193,ta 195 194 4 1,tl 196 194 195,gt 197 194 (.move (t 4)),gt 198 194 (.bin .add (t 196) (t 197)),gt 199 194 (.move (t 6)),gt 200 194 (.bin .leq (t 198) (t 199)),s 201 (.pick (t 194) (t 200) b0),m 2 201]) .ret) (.seq (.seq (r [s 203 (.bin .eql (t 108) (.const (.int .u8 22))),m 202 203]) (.cond (t 202) .skip (r [s 204 (.bin .eql (t 108) (.const (.int .u8 23))),m 202 204]))) (.cond (t 202) (.seq (r [m 205 5,s 206 (.bin .eql (t 205) (i 1)),m 207 206,gt 208 207 (.move (t 6)),gt 209 207 (.move (t 4)),gt 210 207 (.bin .leq (t 208) (t 209)),s 211 (.pick (t 207) (t 210) b0),m 2 211]) .ret) (.seq (r [s 213 (.bin .eql (t 108) (.const (.int .u8 24))),m 212 213]) (.cond (t 212) (.seq (r [m 214 5,s 215 (.bin .eql (t 214) (i 1)),m 216 215,gt 217 216 (.move (t 4)),tc 218 216 113 [(t 217)],s 219 (.pick (t 216) (t 218) b0),m 2 219]) .ret) .skip)))))))))))))))) (.seq (r [m 220 5,s 221 (.bin .eql (t 220) (i 2)),m 222 221,gt 223 222 (.move (t 6)),gt 224 222 (.move (t 4)),gt 225 222 (.bin .eql (t 223) (t 224)),s 226 (.pick (t 222) (t 225) b0),m 227 226,ta 228 227 5 1,tl 229 227 228,gt 230 227 (.idxA 6 (t 229) (i 1)),ta 231 227 1 230,tl 232 227 231,gt 233 227 (.move (t 4)),gt 234 227 (.bin .eql (t 232) (t 233)),s 235 (.pick (t 227) (t 234) b0),m 2 235]) .ret))))))))):=⟨_,by simp only [QQ];rfl⟩
def Fj:aF:=Ay.1
def bS:List RV:=[.tmp 2]
theorem Dn:Is Tryz.prog (fun _ _=>false) 102 236 Fj bS:=⟨Tryz.f102,Tryz.func102,rfl,by kernel_rfl,by kernel_rfl,Tryz.call102⟩
def nH:CX (.seq (.seq (r [m 16 4,fa 17 5 1,l 18 17,s 19 (.len (t 18)),s 20 (.bin .lss (t 16) (t 19))]) (.cond (t 20) .skip (.exit 0))) (.seq (.block 1 (r [m 23 3,fa 24 5 1,l 25 24,m 26 4,s 27 (.idxA 6 (t 25) (t 26)),s 28 (.load 6 true (t 27)),c 29 103 [(t 28)],s 30 (.app 159 3 32 (t 23) (t 29)),m 3 30])) (r [m 21 4,s 22 (.bin .add (t 21) (i 1)),m 4 22]))):=⟨_,by simp only [QQ];rfl⟩
def nI:aF:=nH.1
def xO:CX (.seq (r [s 1 (.box (t 0)),s 2 (.move ns)]) (.seq (r [s 3 (.move ns)]) (.seq (.seq (r [fa 5 0 1,l 6 5,s 7 (.bin .eql (t 6) (.const (.int .u8 2)))]) (.cond (t 7) (r [m 8 3,fa 9 3 1,l 10 9,fa 11 1 1,l 12 11,s 13 (.build [(.str []),(.int .i64 0),(.int .u64 0)] [(0,1,(t 10)),(1,1,(t 12))]),s 14 (.buildF [(.str []),(.int .i64 0),(.int .u64 0)] 1 [(0,(t 13))]),s 15 (.app 159 3 32 (t 8) (t 14)),m 3 15]) .skip)) (.seq (.seq (r [s 4 (.move (i 0))]) (.block 0 (.loop nI))) (.seq (r [m 31 3,m 2 31]) .ret))))):=⟨_,by simp only [QQ];rfl⟩
def CC:aF:=xO.1
def B7:List RV:=[.tmp 2]
theorem Dl:Is Tryz.prog (fun _ _=>false) 103 32 CC B7:=⟨Tryz.f103,Tryz.func103,rfl,by kernel_rfl,by kernel_rfl,Tryz.call103⟩
def Ax:CX (r [s 3 (.load 6 true (t 1)),m 4 0,c 5 105 [(t 3),(t 4)]]):=⟨_,by simp only [QQ];rfl⟩
def Fi:aF:=Ax.1
def B6:List RV:=[]
theorem Dk:Is Tryz.prog (fun _ _=>false) 104 6 Fi B6:=⟨Tryz.f104,Tryz.func104,rfl,by kernel_rfl,by kernel_rfl,Tryz.call104⟩
def nG:CX (.seq (r [s 15 (.bin .lss (t 14) (t 13))]) (.seq (.cond (t 15) .skip (.exit 0)) (.seq (.block 1 (.seq (r [s 16 (.idxA 6 (t 12) (t 14)),s 17 (.load 6 true (t 16)),s 6 (.alloc [(.int .u8 0),(.int .i64 0),(.int .u64 0),(.str []),(.int .i64 0),.nilS]),sn (.store 6 (t 6) (t 17))]) (.seq (r [s 18 (.load 6 true (t 6)),m 19 1,c 20 105 [(t 18),(t 19)],s 21 (.un .not (t 20))]) (.cond (t 21) (.seq (r [s 4 (.move b0)]) .ret) .skip)))) (r [s 22 (.bin .add (t 14) (i 1)),m 14 22])))):=⟨_,by simp only [QQ];rfl⟩
def ra:aF:=nG.1
def Aw:CX (.seq (r [s 2 (.box (t 0)),s 4 (.move b0)]) (.seq (.seq (r [m 7 1,s 8 (.load 6 true (t 2)),⟨(some 9),none,.call (t 7) [(t 8)]⟩,s 10 (.un .not (t 9))]) (.cond (t 10) (.seq (r [s 4 (.move b0)]) .ret) .skip)) (.seq (.seq (r [fa 11 5 2,l 12 11,s 13 (.len (t 12)),s 14 (.move (i 0))]) (.block 0 (.loop ra))) (.seq (r [s 4 (.move b1)]) .ret)))):=⟨_,by simp only [QQ];rfl⟩
def Fh:aF:=Aw.1
def zv:List RV:=[.tmp 4]
theorem Dj:Is Tryz.prog (fun _ _=>false) 105 23 Fh zv:=⟨Tryz.f105,Tryz.func105,rfl,by kernel_rfl,by kernel_rfl,Tryz.call105⟩
def xN:CX (.seq (r [s 2 (.move b0)]) (.seq (r [m 3 0,s 4 (.bin .geq (t 3) (i 1)),m 5 4,gt 6 5 (.move (t 0)),gt 7 5 (.bin .leq (t 6) (i 64)),s 8 (.pick (t 5) (t 7) b0),m 2 8]) .ret)):=⟨_,by simp only [QQ];rfl⟩
def CB:aF:=xN.1
def B5:List RV:=[.tmp 2]
theorem Di:Is Tryz.prog (fun _ _=>false) 106 9 CB B5:=⟨Tryz.f106,Tryz.func106,rfl,by kernel_rfl,by kernel_rfl,Tryz.call106⟩
def xM:CX (.seq (r [s 2 (.alloc [(.str []),(.int .i64 0),(.int .i64 0)]),s 3 (.move b0)]) (.seq (.seq (r [m 4 0,s 5 (.bin .gtr (t 4) (.const (.int .u8 24)))]) (.cond (t 5) (.seq (r [s 6 (.build [(.str []),(.int .i64 0),(.int .i64 0)] []),sn (.store 3 (t 2) (t 6)),s 3 (.move b0)]) .ret) .skip)) (.seq (.dregion [⟨0,m 7 0,[]⟩,⟨1,s 8 (.m (.glx 0 25 3 (t 7))),[]⟩,⟨2,s 9 (.load 3 true (t 8)),[]⟩,⟨3,m 10 0,[]⟩,⟨4,s 11 (.m (.glx 0 25 3 (t 10))),[]⟩,⟨5,fa 12 1 11,[]⟩,⟨6,l 13 12,[]⟩,⟨7,s 14 (.bin .gtr (t 13) (i 0)),[]⟩,⟨8,sn (.store 3 (t 2) (t 9)),[3,4,5,6,7]⟩,⟨9,m 3 14,[]⟩]) .ret))):=⟨_,by simp only [QQ];rfl⟩
def CA:aF:=xM.1
def B4:List RV:=[.cell 2 3 true,.tmp 3]
theorem zW:Is Tryz.prog (fun _ _=>false) 107 15 CA B4:=⟨Tryz.f107,Tryz.func107,rfl,by kernel_rfl,by kernel_rfl,Tryz.call107⟩
def Av:CX (.seq (r [s 4 (.move b0)]) (.seq (r [m 5 0,c 6 114 [(t 5)],m 7 6,gt 8 7 (.move (t 1)),gt 9 7 (.move (t 0)),tc 10 7 115 [(t 9)],gt 11 7 (.bin .leq (t 8) (t 10)),s 12 (.pick (t 7) (t 11) b0),m 4 12]) .ret)):=⟨_,by simp only [QQ];rfl⟩
def Fg:aF:=Av.1
def B3:List RV:=[.tmp 4]
theorem Dh:Is Tryz.prog (fun _ _=>false) 108 13 Fg B3:=⟨Tryz.f108,Tryz.func108,rfl,by kernel_rfl,by kernel_rfl,Tryz.call108⟩
def Au:CX (.seq (r [s 2 (.move b0)]) (.seq (r [m 3 0,c 4 116 [(t 3),(.const (.string ⟨#[114,46]⟩))],c 5 75 [(t 4)],m 2 5]) .ret)):=⟨_,by simp only [QQ];rfl⟩
def Ff:aF:=Au.1
def D9:List RV:=[.tmp 2]
theorem Dg:Is Tryz.prog (fun _ _=>false) 109 6 Ff D9:=⟨Tryz.f109,Tryz.func109,rfl,by kernel_rfl,by kernel_rfl,Tryz.call109⟩
def gv:CX (.seq (r [s 2 (.box (t 0)),s 4 (.move b0)]) (.seq (r [fa 7 1 2,l 8 7,s 5 (.alloc [(.int .i64 0)]),sn (.store 1 (t 5) (t 8))]) (.seq (r [fa 9 5 2,l 10 9,s 11 (.idxA 6 (t 10) (i 0)),fa 12 1 11,l 13 12,m 6 13]) (.seq (.seq (r [m 14 1]) (.block 0 (.seq (r [s 16 (.bin .eql (t 14) (i 1)),m 15 16]) (.cond (t 15) (.seq (r [fa 17 5 2,l 18 17,s 19 (.mkfn (.func 118) [(t 5)]),c 20 117 [(t 18),(t 19)],s 21 (.un .not (t 20)),m 4 21]) .ret) (.seq (r [s 23 (.bin .eql (t 14) (i 2)),m 22 23]) (.cond (t 22) (.seq (r [l 24 5,s 25 (.bin .eql (t 24) (i 1)),m 26 25,ta 27 26 5 2,tl 28 26 27,gt 29 26 (.idxA 6 (t 28) (i 1)),ta 30 26 1 29,tl 31 26 30,gt 32 26 (.move (t 6)),gt 33 26 (.bin .eql (t 31) (t 32)),s 34 (.pick (t 26) (t 33) b0),m 4 34]) .ret) (.seq (r [s 36 (.bin .eql (t 14) (i 3)),m 35 36]) (.cond (t 35) (.seq (.dregion [⟨0,m 37 6,[]⟩,⟨1,s 38 (.bin .eql (t 37) (i 1)),[]⟩,⟨2,m 39 38,[]⟩,⟨3,ta 40 39 5 2,[]⟩,⟨4,tl 41 39 40,[]⟩,⟨5,gt 42 39 (.idxA 6 (t 41) (i 1)),[]⟩,⟨6,ta 43 39 1 42,[]⟩,⟨7,tl 44 39 43,[]⟩,⟨8,tl 45 39 5,[]⟩,⟨9,gt 46 39 (.bin .eql (t 44) (t 45)),[]⟩,⟨10,s 47 (.pick (t 39) (t 46) b0),[]⟩,⟨11,m 48 47,[]⟩,⟨12,ta 49 48 5 2,[]⟩,⟨13,tl 50 48 49,[]⟩,⟨14,gt 51 48 (.idxA 6 (t 50) (i 2)),[]⟩,⟨15,ta 52 48 1 51,[]⟩,⟨16,tl 53 48 52,[]⟩,⟨17,tl 54 48 5,[]⟩,⟨18,gt 55 48 (.bin .eql (t 53) (t 54)),[]⟩,⟨19,s 56 (.pick (t 48) (t 55) b0),[]⟩,⟨20,m 4 56,[]⟩]) .ret) (.seq (r [s 58 (.bin .eql (t 14) (i 4)),m 57 58]) (.cond (t 57) (.seq (.dregion [⟨0,m 59 6,[]⟩,⟨1,c 60 106 [(t 59)],[]⟩,⟨2,m 61 60,[]⟩,⟨3,ta 62 61 5 2,[]⟩,⟨4,tl 63 61 62,[]⟩,⟨5,gt 64 61 (.idxA 6 (t 63) (i 1)),[]⟩,⟨6,ta 65 61 1 64,[]⟩,⟨7,tl 66 61 65,[]⟩,⟨8,tc 67 61 106 [(t 66)],[]⟩,⟨9,s 68 (.pick (t 61) (t 67) b0),[]⟩,⟨10,m 69 68,[]⟩,⟨11,gt 70 69 (.move (t 6)),[]⟩,⟨12,ta 71 69 5 2,[]⟩,⟨13,tl 72 69 71,[]⟩,⟨14,gt 73 69 (.idxA 6 (t 72) (i 1)),[]⟩,⟨15,ta 74 69 1 73,[]⟩,⟨16,tl 75 69 74,[]⟩,⟨17,gt 76 69 (.bin .add (t 70) (t 75)),[]⟩,⟨18,tl 77 69 5,[]⟩,⟨19,gt 78 69 (.bin .eql (t 76) (t 77)),[]⟩,⟨20,s 79 (.pick (t 69) (t 78) b0),[]⟩,⟨21,m 4 79,[]⟩]) .ret) (.seq (r [s 81 (.bin .eql (t 14) (i 5)),m 80 81]) (.cond (t 80) (.seq (r [fa 82 4 2,l 83 82,s 84 (.bin .geq (t 83) (i 0)),m 85 84,gt 86 85 (.move (t 6)),tc 87 85 106 [(t 86)],s 88 (.pick (t 85) (t 87) b0),m 89 88,tl 90 89 5,gt 91 89 (.move (t 6)),gt 92 89 (.bin .leq (t 90) (t 91)),s 93 (.pick (t 89) (t 92) b0),m 94 93,ta 95 94 4 2,tl 96 94 95,gt 97 94 (.move (t 6)),tl 98 94 5,gt 99 94 (.bin .sub (t 97) (t 98)),gt 100 94 (.bin .leq (t 96) (t 99)),s 101 (.pick (t 94) (t 100) b0),m 4 101]) .ret) (.seq (r [s 103 (.bin .eql (t 14) (i 6)),m 102 103]) (.cond (t 102) (.seq (r [m 104 6,l 105 5,s 106 (.bin .leq (t 104) (t 105)),m 4 106]) .ret) .skip)))))))))))))) (.seq (r [l 107 5,c 108 119 [(t 107)],m 4 108]) .ret))))):=⟨_,by simp only [QQ];rfl⟩
def kd:aF:=gv.1
def fQ:List RV:=[.tmp 4]
theorem Df:Is Tryz.prog (fun _ _=>false) 110 109 kd fQ:=⟨Tryz.f110,Tryz.func110,rfl,by kernel_rfl,by kernel_rfl,Tryz.call110⟩
def At:CX (.seq (r [s 4 (.move b0)]) (.seq (r [m 5 0,c 6 84 [(t 5)],m 7 6,gt 8 7 (.move (t 0)),gt 9 7 (.bin .eql (t 8) (i 64)),gt 10 7 (.move (t 9)),gf 11 10 (.move (t 1)),gf 12 10 (.move (t 0)),fc 13 10 120 [(t 12)],gf 14 10 (.bin .lss (t 11) (t 13)),gt 15 7 (.pick (t 10) b1 (t 14)),s 16 (.pick (t 7) (t 15) b0),m 4 16]) .ret)):=⟨_,by simp only [QQ];rfl⟩
def Fc:aF:=At.1
def zo:List RV:=[.tmp 4]
theorem De:Is Tryz.prog (fun _ _=>false) 111 17 Fc zo:=⟨Tryz.f111,Tryz.func111,rfl,by kernel_rfl,by kernel_rfl,Tryz.call111⟩
def sx:CX (.seq (r [s 2 (.move b0)]) (.seq (.seq (r [m 3 0,s 4 (.lens (t 3)),s 5 (.bin .gtr (t 4) (i 2)),m 6 5,gt 7 6 (.move (t 0)),gt 8 6 (.slcs (t 7) none (some (i 2))),gt 9 6 (.bin .eql (t 8) (.const (.string ⟨#[114,46]⟩))),s 10 (.pick (t 6) (t 9) b0)]) (.cond (t 10) (.seq (r [m 11 0,s 12 (.slcs (t 11) (some (i 2)) none),c 13 78 [(t 12)],m 2 13]) .ret) .skip)) (.seq (r [m 14 0,c 15 78 [(t 14)],m 2 15]) .ret))):=⟨_,by simp only [QQ];rfl⟩
def zQ:aF:=sx.1
def zn:List RV:=[.tmp 2]
theorem Dd:Is Tryz.prog (fun _ _=>false) 112 16 zQ zn:=⟨Tryz.f112,Tryz.func112,rfl,by kernel_rfl,by kernel_rfl,Tryz.call112⟩
def po:CX (.seq (r [s 2 (.move b0)]) (.seq (r [m 3 0,s 4 (.bin .eql (t 3) (i 8)),m 5 4,gf 6 5 (.move (t 0)),gf 7 5 (.bin .eql (t 6) (i 16)),s 8 (.pick (t 5) b1 (t 7)),m 9 8,gf 10 9 (.move (t 0)),gf 11 9 (.bin .eql (t 10) (i 32)),s 12 (.pick (t 9) b1 (t 11)),m 13 12,gf 14 13 (.move (t 0)),gf 15 13 (.bin .eql (t 14) (i 64)),s 16 (.pick (t 13) b1 (t 15)),m 2 16]) .ret)):=⟨_,by simp only [QQ];rfl⟩
def xI:aF:=po.1
def wc:List RV:=[.tmp 2]
theorem Dc:Is Tryz.prog (fun _ _=>false) 113 17 xI wc:=⟨Tryz.f113,Tryz.func113,rfl,by kernel_rfl,by kernel_rfl,Tryz.call113⟩
def xH:CX (.seq (r [s 2 (.move b0)]) (.seq (r [m 3 0,s 4 (.bin .geq (t 3) (i 1)),m 5 4,gt 6 5 (.move (t 0)),gt 7 5 (.bin .leq (t 6) (i 64)),s 8 (.pick (t 5) (t 7) b0),m 2 8]) .ret)):=⟨_,by simp only [QQ];rfl⟩
def Cz:aF:=xH.1
def B2:List RV:=[.tmp 2]
theorem Db:Is Tryz.prog (fun _ _=>false) 114 9 Cz B2:=⟨Tryz.f114,Tryz.func114,rfl,by kernel_rfl,by kernel_rfl,Tryz.call114⟩
def As:CX (.seq (r [s 2 (.move (.const (.int .u64 0)))]) (.seq (.seq (r [m 3 0,c 4 114 [(t 3)],s 5 (.un .not (t 4))]) (.cond (t 5) (.seq (r [s 2 (.move (.const (.int .u64 0)))]) .ret) .skip)) (.seq (r [m 6 0,s 7 (.bin .sub (i 64) (t 6)),s 8 (.bin .shr (.const (.int .u64 18446744073709551615)) (t 7)),m 2 8]) .ret))):=⟨_,by simp only [QQ];rfl⟩
def Fb:aF:=As.1
def B1:List RV:=[.tmp 2]
theorem Da:Is Tryz.prog (fun _ _=>false) 115 9 Fb B1:=⟨Tryz.f115,Tryz.func115,rfl,by kernel_rfl,by kernel_rfl,Tryz.call115⟩
def Ar:CX (.seq (r [s 4 (.move (.const (.string ⟨#[]⟩)))]) (.seq (r [m 5 0,m 6 1,c 7 121 [(t 5),(t 6)],m 4 7]) .ret)):=⟨_,by simp only [QQ];rfl⟩
def Fa:aF:=Ar.1
def D8:List RV:=[.tmp 4]
theorem C9:Is Tryz.prog (fun _ _=>false) 116 8 Fa D8:=⟨Tryz.f116,Tryz.func116,rfl,by kernel_rfl,by kernel_rfl,Tryz.call116⟩
def Aq:CX (.seq (r [s 4 (.move b0)]) (.seq (r [m 5 0,m 6 1,c 7 122 [(t 5),(t 6)],s 8 (.bin .geq (t 7) (i 0)),m 4 8]) .ret)):=⟨_,by simp only [QQ];rfl⟩
def E9:aF:=Aq.1
def D7:List RV:=[.tmp 4]
theorem C8:Is Tryz.prog (fun _ _=>false) 117 9 E9 D7:=⟨Tryz.f117,Tryz.func117,rfl,by kernel_rfl,by kernel_rfl,Tryz.call117⟩
def Ap:CX (.seq (r [s 2 (.box (t 0)),s 3 (.move b0)]) (.seq (r [fa 4 1 2,l 5 4,l 6 1,s 7 (.bin .neq (t 5) (t 6)),m 3 7]) .ret)):=⟨_,by simp only [QQ];rfl⟩
def E8:aF:=Ap.1
def D6:List RV:=[.tmp 3]
theorem C7:Is Tryz.prog (fun _ _=>false) 118 8 E8 D6:=⟨Tryz.f118,Tryz.func118,rfl,by kernel_rfl,by kernel_rfl,Tryz.call118⟩
def pk:CX (.seq (r [s 2 (.move b0)]) (.seq (r [m 3 0,s 4 (.bin .eql (t 3) (i 8)),m 5 4,gf 6 5 (.move (t 0)),gf 7 5 (.bin .eql (t 6) (i 16)),s 8 (.pick (t 5) b1 (t 7)),m 9 8,gf 10 9 (.move (t 0)),gf 11 9 (.bin .eql (t 10) (i 32)),s 12 (.pick (t 9) b1 (t 11)),m 13 12,gf 14 13 (.move (t 0)),gf 15 13 (.bin .eql (t 14) (i 64)),s 16 (.pick (t 13) b1 (t 15)),m 2 16]) .ret)):=⟨_,by simp only [QQ];rfl⟩
def xG:aF:=pk.1
def v9:List RV:=[.tmp 2]
theorem C6:Is Tryz.prog (fun _ _=>false) 119 17 xG v9:=⟨Tryz.f119,Tryz.func119,rfl,by kernel_rfl,by kernel_rfl,Tryz.call119⟩
def nF:CX (.seq (.seq (r [m 5 4,m 6 0,s 7 (.bin .lss (t 5) (t 6))]) (.cond (t 7) .skip (.exit 0))) (.seq (.block 1 (r [m 10 3,m 11 3,s 12 (.bin .add (t 10) (t 11)),m 3 12])) (r [m 8 4,s 9 (.bin .add (t 8) (i 1)),m 4 9]))):=⟨_,by simp only [QQ];rfl⟩
def q6:aF:=nF.1
def Ao:CX (.seq (r [s 2 (.move (.const (.int .u64 0)))]) (.seq (r [s 3 (.move (.const (.int .u64 1)))]) (.seq (.seq (r [s 4 (.move (i 0))]) (.block 0 (.loop q6))) (.seq (r [m 13 3,m 2 13]) .ret)))):=⟨_,by simp only [QQ];rfl⟩
def E7:aF:=Ao.1
def D5:List RV:=[.tmp 2]
theorem C5:Is Tryz.prog (fun _ _=>false) 120 14 E7 D5:=⟨Tryz.f120,Tryz.func120,rfl,by kernel_rfl,by kernel_rfl,Tryz.call120⟩
def An:CX (.seq (r [s 4 (.move (.const (.string ⟨#[]⟩)))]) (.seq (.seq (r [m 5 0,m 6 1,c 7 123 [(t 5),(t 6)]]) (.cond (t 7) (.seq (r [m 8 0,m 9 1,s 10 (.lens (t 9)),s 11 (.slcs (t 8) (some (t 10)) none),m 4 11]) .ret) .skip)) (.seq (r [m 12 0,m 4 12]) .ret))):=⟨_,by simp only [QQ];rfl⟩
def E6:aF:=An.1
def B0:List RV:=[.tmp 4]
theorem C4:Is Tryz.prog (fun _ _=>false) 121 13 E6 B0:=⟨Tryz.f121,Tryz.func121,rfl,by kernel_rfl,by kernel_rfl,Tryz.call121⟩
def nE:CX (.seq (r [s 9 (.bin .lss (t 8) (t 7))]) (.seq (.cond (t 9) .skip (.exit 0)) (.seq (.block 1 (.seq (r [m 10 8,m 5 10]) (.seq (r [m 11 1,m 12 0,m 13 5,s 14 (.idxA 6 (t 12) (t 13)),s 15 (.load 6 true (t 14)),⟨(some 16),none,.call (t 11) [(t 15)]⟩]) (.cond (t 16) (.seq (r [m 17 5,m 4 17]) .ret) .skip)))) (r [s 18 (.bin .add (t 8) (i 1)),m 8 18])))):=⟨_,by simp only [QQ];rfl⟩
def q5:aF:=nE.1
def Am:CX (.seq (r [s 4 (.move (i 0))]) (.seq (.seq (r [m 6 0,s 7 (.len (t 6)),s 8 (.move (i 0))]) (.block 0 (.loop q5))) (.seq (r [s 4 (.move (.const (.int .i64 (-1))))]) .ret))):=⟨_,by simp only [QQ];rfl⟩
def E5:aF:=Am.1
def BZ:List RV:=[.tmp 4]
theorem C3:Is Tryz.prog (fun _ _=>false) 122 19 E5 BZ:=⟨Tryz.f122,Tryz.func122,rfl,by kernel_rfl,by kernel_rfl,Tryz.call122⟩
def xF:CX (.seq (r [s 4 (.move b0)]) (.seq (r [m 5 0,s 6 (.lens (t 5)),m 7 1,s 8 (.lens (t 7)),s 9 (.bin .geq (t 6) (t 8)),m 10 9,gt 11 10 (.move (t 0)),gt 12 10 (.move (t 1)),gt 13 10 (.lens (t 12)),gt 14 10 (.slcs (t 11) none (some (t 13))),gt 15 10 (.move (t 1)),gt 16 10 (.bin .eql (t 14) (t 15)),s 17 (.pick (t 10) (t 16) b0),m 4 17]) .ret)):=⟨_,by simp only [QQ];rfl⟩
def Cy:aF:=xF.1
def BY:List RV:=[.tmp 4]
theorem C2:Is Tryz.prog (fun _ _=>false) 123 18 Cy BY:=⟨Tryz.f123,Tryz.func123,rfl,by kernel_rfl,by kernel_rfl,Tryz.call123⟩
theorem aI:Tryz.prog.follows .mixedOrders=true:=by kernel_rfl
def wide (w:Int):Bool:=decide (1≤w)&&decide (w≤64)
theorem zR (w:Int):Pure Tryz.prog 114 [.int .i64 w] (.bool (wide w)):=by
 refine Pure.of fun nx=>AC.go aI Db (by simp) ?_
 by_cases c1:(1:Int)≤w
 ·simp -implicitDefEqProofs only [RA,ae,zp,↓reduceIte,reduceCtorEq,zq,zr,zs,zt,Cz,xH,wide,c1,B2,Ge]
 ·simp -implicitDefEqProofs only [RA,ae,zp,↓reduceIte,reduceCtorEq,zq,zr,zs,zt,Cz,xH,wide,c1,B2,Gf]
def sY (w:Int):Int:=if wide w=true then (18446744073709551615:Int).fdiv (2 ^ (64-w).toNat) else 0
theorem w115 (w:Int):Pure Tryz.prog 115 [.int .i64 w] (.int .u64 (sY w)):=by
 refine Pure.of fun nx=>AC.go aI Da (by simp) ?_
 simp -implicitDefEqProofs only [RA,ae,zp,↓reduceIte,reduceCtorEq,zq,zr,zs,zt,Fb,As]
 refine (zR w).use fun n1 hn1=>?_
 by_cases c1:wide w=true
 ·have c2:=c1
  simp only [wide,Gd,decide_eq_true_eq] at c2
  have e1:IntKind.i64.wrap (64-w)=64-w:=w64 (by omega) (by omega)
  have e2:min (64-w).toNat IntKind.u64.bits=(64-w).toNat:=by simp only [IntKind.bits];omega
  simp -implicitDefEqProofs only [RA,ae,zp,↓reduceIte,reduceCtorEq,zq,zr,zs,zt,c1,unA,e1,z9 _ _ _ _ (show (0:Int)≤64-w by omega),e2,sY,B1]
 ·simp only [Gh] at c1
  simp -implicitDefEqProofs only [RA,ae,zp,↓reduceIte,reduceCtorEq,zq,zr,zs,zt,c1,unA,sY,B1,Bool.false_eq_true]
def okB (w b:Int):Bool:=wide w&&decide (b≤sY w)
theorem w108 (w x:Int):Pure Tryz.prog 108 [.int .i64 w,.int .u64 x] (.bool (okB w x)):=by
 refine Pure.of fun nx=>AC.go aI Dh (by simp) ?_
 simp -implicitDefEqProofs only [RA,ae,zp,↓reduceIte,reduceCtorEq,zq,zr,zs,zt,Fg,Av]
 refine (zR w).use fun n1 hn1=>?_
 by_cases c1:wide w=true
 ·simp -implicitDefEqProofs only [RA,ae,zp,↓reduceIte,reduceCtorEq,zq,zr,zs,zt,c1]
  refine (w115 w).use fun n2 hn2=>?_
  simp -implicitDefEqProofs only [RA,ae,zp,↓reduceIte,reduceCtorEq,zq,zr,zs,zt,c1,B3,okB,Ge]
 ·simp only [Gh] at c1
  simp -implicitDefEqProofs only [RA,ae,zp,↓reduceIte,reduceCtorEq,zq,zr,zs,zt,c1,B3,okB,Gf]
def iH (i:Nat) (b:UInt8):Prop:=(97≤b.toNat∧b.toNat≤122)∨(65≤b.toNat∧b.toNat≤90)∨(i≠0∧(b.toNat=95∨(48≤b.toNat∧b.toNat≤57)))
def pO (s:List UInt8):Prop:=1≤s.length∧s.length≤24∧∀ j b,s[j]?=some b→iH j b
theorem w75 (s:List UInt8) (v:Bool) (hv:v=true↔pO s) (hs:s.length≤100000):Pure Tryz.prog 75 [.str s] (.bool v):=by
 refine Pure.of fun nx=>AC.go aI is75 (by simp) ?_
 by_cases l1:(s.length:Int)<1
 case pos =>
  obtain rfl:v=false:=by
   cases v with
   | false=>rfl
   | true=>have:=(hv.1 rfl).1;omega
  simp -implicitDefEqProofs only [RA,ae,zp,↓reduceIte,reduceCtorEq,zq,zr,zs,zt,A75,zN,l1,R75]
 by_cases l2:(24:Int)<(s.length:Int)
 case pos =>
  obtain rfl:v=false:=by
   cases v with
   | false=>rfl
   | true=>have:=(hv.1 rfl).2.1;omega
  simp -implicitDefEqProofs only [RA,ae,zp,↓reduceIte,reduceCtorEq,zq,zr,zs,zt,A75,zN,l1,l2,R75]
 simp -implicitDefEqProofs only [RA,ae,zp,↓reduceIte,reduceCtorEq,zq,zr,zs,zt,A75,zN,l1,l2]
 refine aJ (fun q st=>∃ i:Nat,q=s.length-i∧i≤s.length∧(∀ j b,j<i→s[j]?=some b→iH j b)∧ah st.env 0=some (.str s)∧ah st.env 15=some (.int .i64 s.length)∧ah st.env 16=some (.int .i64 i)∧st.dm=[]) (n:=s.length) aI
  ⟨0,rfl,by omega,fun j b hj=>by omega,by simp [ah],by simp [ah],by simp [ah],rfl⟩ ?_
 rintro q ⟨env,heap,nx',dm⟩ ⟨i,rfl,hi,hok,h0,h15,h16,hdm⟩
 simp only at h0 h15 h16 hdm
 subst hdm
 by_cases hl:(i:Int)<(s.length:Int)
 case neg =>
  obtain rfl:v=true:=hv.2 ⟨by omega,by omega,fun j b hb=>hok j b (by have:=(Fq.1 hb).1;omega) hb⟩
  simp -implicitDefEqProofs only [RA,ae,zp,↓reduceIte,reduceCtorEq,zq,zr,zs,zt,si,nt,h15,h16,hl,R75]
 have hb:=Fo (show i<s.length by omega)
 generalize s[i]=b at hb
 have ei:(0:Int)≤(i:Int):=GB _
 have f1:=wS (i:=i) (by omega)
 by_cases hk:iH i b
 ·have hok2:∀ j b,j<i+1→s[j]?=some b→iH j b:=by
   intro j b' hj hb'
   rcases Nat.lt_or_ge j i with h|h
   ·exact hok j b' h hb'
   ·obtain rfl:j=i:=by omega
    rw [hb] at hb';injection hb' with hb';subst hb';exact hk
  unfold iH at hk
  by_cases c1:(97:Int)≤(b.toNat:Int) <;> by_cases c2:(b.toNat:Int)≤122 <;> (try (exfalso;omega)) <;> by_cases c3:(65:Int)≤(b.toNat:Int) <;> (try (exfalso;omega)) <;> by_cases c4:(b.toNat:Int)≤90 <;> (try (exfalso;omega)) <;> rcases ai ((i:Int)=0) with ⟨c5,d5⟩|⟨c5,d5⟩ <;> (try (exfalso;omega)) <;> rcases ai ((b.toNat:Int)=95) with ⟨c6,d6⟩|⟨c6,d6⟩ <;> (try (exfalso;omega)) <;> by_cases c7:(b.toNat:Int)<48 <;> (try (exfalso;omega)) <;> by_cases c8:(57:Int)<(b.toNat:Int) <;> (try (exfalso;omega))
  all_goals
   simp -implicitDefEqProofs only [RA,ae,zp,↓reduceIte,reduceCtorEq,zq,zr,zs,zt,si,nt,h0,h15,h16,hl,ei,Gz,hb,unA,c1,c2,c3,c4,d5,d6,c7,c8,f1]
   refine ⟨s.length-(i+1),by omega,i+1,?_⟩
   repeat' apply And.intro
   all_goals first|assumption|rfl|omega|(simp [ah, *];done)
 ·obtain rfl:v=false:=by
   cases v with
   | false=>rfl
   | true=>exact absurd ((hv.1 rfl).2.2 i b hb) hk
  unfold iH at hk
  by_cases c1:(97:Int)≤(b.toNat:Int) <;> by_cases c2:(b.toNat:Int)≤122 <;> (try (exfalso;omega)) <;> by_cases c3:(65:Int)≤(b.toNat:Int) <;> (try (exfalso;omega)) <;> by_cases c4:(b.toNat:Int)≤90 <;> (try (exfalso;omega)) <;> rcases ai ((i:Int)=0) with ⟨c5,d5⟩|⟨c5,d5⟩ <;> (try (exfalso;omega)) <;> rcases ai ((b.toNat:Int)=95) with ⟨c6,d6⟩|⟨c6,d6⟩ <;> (try (exfalso;omega)) <;> by_cases c7:(b.toNat:Int)<48 <;> (try (exfalso;omega)) <;> by_cases c8:(57:Int)<(b.toNat:Int) <;> (try (exfalso;omega))
  all_goals
   simp -implicitDefEqProofs only [RA,ae,zp,↓reduceIte,reduceCtorEq,zq,zr,zs,zt,si,nt,h0,h15,h16,hl,ei,Gz,hb,unA,c1,c2,c3,c4,d5,d6,c7,c8,R75]
theorem w78 (s:List UInt8) (v:Bool) (hv:v=true↔pO s) (hs:s.length≤100000):Pure Tryz.prog 78 [.str s] (.bool v):=by
 refine Pure.of fun nx=>AC.go aI is78 (by simp) ?_
 by_cases l1:(s.length:Int)=0
 case pos =>
  obtain rfl:v=false:=by
   cases v with
   | false=>rfl
   | true=>have:=(hv.1 rfl).1;omega
  simp -implicitDefEqProofs only [RA,ae,zp,↓reduceIte,reduceCtorEq,zq,zr,zs,zt,A78,zM,l1,R78]
 by_cases l2:(24:Int)<(s.length:Int)
 case pos =>
  obtain rfl:v=false:=by
   cases v with
   | false=>rfl
   | true=>have:=(hv.1 rfl).2.1;omega
  simp -implicitDefEqProofs only [RA,ae,zp,↓reduceIte,reduceCtorEq,zq,zr,zs,zt,A78,zM,l1,l2,R78]
 simp -implicitDefEqProofs only [RA,ae,zp,↓reduceIte,reduceCtorEq,zq,zr,zs,zt,A78,zM,l1,l2]
 refine aJ (fun q st=>∃ i:Nat,q=s.length-i∧i≤s.length∧(∀ j b,j<i→s[j]?=some b→iH j b)∧ah st.env 0=some (.str s)∧ah st.env 3=some (.int .i64 i)∧st.dm=[]) (n:=s.length) aI
  ⟨0,rfl,by omega,fun j b hj=>by omega,by simp [ah],by simp [ah],rfl⟩ ?_
 rintro q ⟨env,heap,nx',dm⟩ ⟨i,rfl,hi,hok,h0,h3,hdm⟩
 simp only at h0 h3 hdm
 subst hdm
 by_cases hl:(i:Int)<(s.length:Int)
 case neg =>
  obtain rfl:v=true:=hv.2 ⟨by omega,by omega,fun j b hb=>hok j b (by have:=(Fq.1 hb).1;omega) hb⟩
  simp -implicitDefEqProofs only [RA,ae,zp,↓reduceIte,reduceCtorEq,zq,zr,zs,zt,sh,nr,h0,h3,hl,R78]
 have hb:=Fo (show i<s.length by omega)
 generalize s[i]=b at hb
 have ei:(0:Int)≤(i:Int):=GB _
 have f1:=wS (i:=i) (by omega)
 by_cases hk:iH i b
 ·have hok2:∀ j b,j<i+1→s[j]?=some b→iH j b:=by
   intro j b' hj hb'
   rcases Nat.lt_or_ge j i with h|h
   ·exact hok j b' h hb'
   ·obtain rfl:j=i:=by omega
    rw [hb] at hb';injection hb' with hb';subst hb';exact hk
  unfold iH at hk
  by_cases c1:(97:Int)≤(b.toNat:Int) <;> by_cases c2:(b.toNat:Int)≤122 <;> (try (exfalso;omega)) <;> by_cases c3:(65:Int)≤(b.toNat:Int) <;> (try (exfalso;omega)) <;> by_cases c4:(b.toNat:Int)≤90 <;> (try (exfalso;omega)) <;> rcases ai ((i:Int)=0) with ⟨c5,d5⟩|⟨c5,d5⟩ <;> (try (exfalso;omega)) <;> rcases ai ((b.toNat:Int)=95) with ⟨c6,d6⟩|⟨c6,d6⟩ <;> (try (exfalso;omega)) <;> by_cases c7:(48:Int)≤(b.toNat:Int) <;> (try (exfalso;omega)) <;> by_cases c8:(b.toNat:Int)≤57 <;> (try (exfalso;omega))
  all_goals
   simp -implicitDefEqProofs only [RA,ae,zp,↓reduceIte,reduceCtorEq,zq,zr,zs,zt,sh,nr,h0,h3,hl,ei,Gz,hb,unA,c1,c2,c3,c4,d5,d6,c7,c8,f1]
   refine ⟨s.length-(i+1),by omega,i+1,?_⟩
   repeat' apply And.intro
   all_goals first|assumption|rfl|omega|(simp [ah, *];done)
 ·obtain rfl:v=false:=by
   cases v with
   | false=>rfl
   | true=>exact absurd ((hv.1 rfl).2.2 i b hb) hk
  unfold iH at hk
  by_cases c1:(97:Int)≤(b.toNat:Int) <;> by_cases c2:(b.toNat:Int)≤122 <;> (try (exfalso;omega)) <;> by_cases c3:(65:Int)≤(b.toNat:Int) <;> (try (exfalso;omega)) <;> by_cases c4:(b.toNat:Int)≤90 <;> (try (exfalso;omega)) <;> rcases ai ((i:Int)=0) with ⟨c5,d5⟩|⟨c5,d5⟩ <;> (try (exfalso;omega)) <;> rcases ai ((b.toNat:Int)=95) with ⟨c6,d6⟩|⟨c6,d6⟩ <;> (try (exfalso;omega)) <;> by_cases c7:(48:Int)≤(b.toNat:Int) <;> (try (exfalso;omega)) <;> by_cases c8:(b.toNat:Int)≤57 <;> (try (exfalso;omega))
  all_goals
   simp -implicitDefEqProofs only [RA,ae,zp,↓reduceIte,reduceCtorEq,zq,zr,zs,zt,sh,nr,h0,h3,hl,ei,Gz,hb,unA,c1,c2,c3,c4,d5,d6,c7,c8,R78]
instance (i:Nat) (b:UInt8):Decidable (iH i b):=by unfold iH;infer_instance
def lU:Nat→List UInt8→Bool
 | _,[]=>true
 | i,b::l=>decide (iH i b)&&lU (i+1) l
theorem lT:∀ (l:List UInt8) (i:Nat),lU i l=true↔∀ j b,l[j]?=some b→iH (i+j) b
 | [],i=>by simp [lU]
 | c::l,i=>by
  rw [lU,Gd,decide_eq_true_eq,lT l (i+1)]
  constructor
  ·rintro ⟨h1,h2⟩ j b hb
   cases j with
   | zero=>simp at hb;subst hb;exact h1
   | succ j=>have:=h2 j b (by simpa using hb);rw [show i+(j+1)=i+1+j by omega];exact this
  ·intro h
   refine ⟨h 0 c rfl,fun j b hb=>?_⟩
   have:=h (j+1) b (by simpa using hb)
   rw [show i+1+j=i+(j+1) by omega];exact this
theorem rH {s:List UInt8} {v:Bool} (h:(decide (1≤s.length)&&(decide (s.length≤24)&&lU 0 s))=v):v=true↔pO s:=by
 subst h
 rw [Gd,Gd,decide_eq_true_eq,decide_eq_true_eq,lT]
 simp only [Nat.zero_add]
 exact Iff.rfl
def dI (s:Nm):Bool:=decide (1≤s.length)&&(decide (s.length≤24)&&lU 0 s)
theorem AG (s:Nm) (hs:s.length≤100000):Pure Tryz.prog 75 [.str s] (.bool (dI s)):=w75 s _ (rH rfl) hs
theorem tW (s:Nm) (hs:s.length≤100000):Pure Tryz.prog 78 [.str s] (.bool (dI s)):=w78 s _ (rH rfl) hs
theorem w84 (w:Int):Pure Tryz.prog 84 [.int .i64 w] (.bool (wide w)):=by
 refine Pure.of fun nx=>AC.go aI is84 (by simp) ?_
 by_cases c1:w≥1
 ·simp -implicitDefEqProofs only [RA,ae,zp,↓reduceIte,reduceCtorEq,zq,zr,zs,zt,A84,Cg,c1,R84,wide,Ge]
 ·have:decide (1≤w)=false:=decide_eq_false (by omega)
  simp -implicitDefEqProofs only [RA,ae,zp,↓reduceIte,reduceCtorEq,zq,zr,zs,zt,A84,Cg,c1,R84,wide,this,Gf]
theorem xU (w:Int):Pure Tryz.prog 106 [.int .i64 w] (.bool (wide w)):=by
 refine Pure.of fun nx=>AC.go aI Di (by simp) ?_
 by_cases c1:w≥1
 ·simp -implicitDefEqProofs only [RA,ae,zp,↓reduceIte,reduceCtorEq,zq,zr,zs,zt,CB,xN,c1,B5,wide,Ge]
 ·have:decide (1≤w)=false:=decide_eq_false (by omega)
  simp -implicitDefEqProofs only [RA,ae,zp,↓reduceIte,reduceCtorEq,zq,zr,zs,zt,CB,xN,c1,B5,wide,this,Gf]
def ldb (w:Int):Bool:=decide (w=8)||(decide (w=16)||(decide (w=32)||decide (w=64)))
theorem w119 (w:Int):Pure Tryz.prog 119 [.int .i64 w] (.bool (ldb w)):=by
 refine Pure.of fun nx=>AC.go aI C6 (by simp) ?_
 rcases ai (w=8) with ⟨c1,d1⟩|⟨c1,d1⟩
 ·simp -implicitDefEqProofs only [RA,ae,zp,↓reduceIte,reduceCtorEq,zq,zr,zs,zt,xG,pk,d1,v9,ldb,Gl]
 rcases ai (w=16) with ⟨c2,d2⟩|⟨c2,d2⟩
 ·simp -implicitDefEqProofs only [RA,ae,zp,↓reduceIte,reduceCtorEq,zq,zr,zs,zt,xG,pk,d1,d2,v9,ldb,Gl,Gm]
 rcases ai (w=32) with ⟨c3,d3⟩|⟨c3,d3⟩
 ·simp -implicitDefEqProofs only [RA,ae,zp,↓reduceIte,reduceCtorEq,zq,zr,zs,zt,xG,pk,d1,d2,d3,v9,ldb,Gl,Gm]
 ·simp -implicitDefEqProofs only [RA,ae,zp,↓reduceIte,reduceCtorEq,zq,zr,zs,zt,xG,pk,d1,d2,d3,v9,ldb,Gl,Gm]
theorem w113 (w:Int):Pure Tryz.prog 113 [.int .i64 w] (.bool (ldb w)):=by
 refine Pure.of fun nx=>AC.go aI Dc (by simp) ?_
 rcases ai (w=8) with ⟨c1,d1⟩|⟨c1,d1⟩
 ·simp -implicitDefEqProofs only [RA,ae,zp,↓reduceIte,reduceCtorEq,zq,zr,zs,zt,xI,po,d1,wc,ldb,Gl]
 rcases ai (w=16) with ⟨c2,d2⟩|⟨c2,d2⟩
 ·simp -implicitDefEqProofs only [RA,ae,zp,↓reduceIte,reduceCtorEq,zq,zr,zs,zt,xI,po,d1,d2,wc,ldb,Gl,Gm]
 rcases ai (w=32) with ⟨c3,d3⟩|⟨c3,d3⟩
 ·simp -implicitDefEqProofs only [RA,ae,zp,↓reduceIte,reduceCtorEq,zq,zr,zs,zt,xI,po,d1,d2,d3,wc,ldb,Gl,Gm]
 ·simp -implicitDefEqProofs only [RA,ae,zp,↓reduceIte,reduceCtorEq,zq,zr,zs,zt,xI,po,d1,d2,d3,wc,ldb,Gl,Gm]
theorem uF {n:Nat} (h:n≤63):(2:Int) ^ n<18446744073709551616:=by
 have h2:2 ^ n≤2 ^ 63:=Nat.pow_le_pow_right (by omega) h
 have h3:((2 ^ n:Nat):Int)=2 ^ n:=by simp
 rw [← h3];omega
theorem w120 (n:Nat) (hn:n≤63):Pure Tryz.prog 120 [.int .i64 n] (.int .u64 (2 ^ n)):=by
 refine Pure.of fun nx=>AC.go aI C5 (by simp) ?_
 simp -implicitDefEqProofs only [RA,ae,zp,↓reduceIte,reduceCtorEq,zq,zr,zs,zt,E7,Ao]
 refine aJ (fun q st=>∃ i:Nat,q=n-i∧i≤n∧ah st.env 0=some (.int .i64 n)∧ah st.env 3=some (.int .u64 (2 ^ i))∧ah st.env 4=some (.int .i64 i)∧st.dm=[]) (n:=n) aI
  ⟨0,rfl,by omega,by simp [ah],by simp [ah],by simp [ah],rfl⟩ ?_
 rintro q ⟨env,heap,nx',dm⟩ ⟨i,rfl,hi,g0,g3,g4,hdm⟩
 simp only at g0 g3 g4 hdm
 subst hdm
 by_cases hc:(i:Int)<(n:Int)
 case neg =>
  have:i=n:=by omega
  subst this
  simp -implicitDefEqProofs only [RA,ae,zp,↓reduceIte,reduceCtorEq,zq,zr,zs,zt,q6,nF,g0,g3,g4,hc,D5]
 have f1:=wS (i:=i) (by omega)
 have f2:IntKind.u64.wrap ((2:Int) ^ i+2 ^ i)=2 ^ (i+1):=by
  have h1:=uF (n:=i+1) (by omega)
  have h2:(2:Int) ^ i+2 ^ i=2 ^ (i+1):=by rw [Int.pow_succ];omega
  rw [h2,pq (Int.le_of_lt (Int.pow_pos (by omega))) h1]
 simp -implicitDefEqProofs only [RA,ae,zp,↓reduceIte,reduceCtorEq,zq,zr,zs,zt,q6,nF,g0,g3,g4,hc,f1,f2]
 exact ⟨n-(i+1),by omega,i+1,rfl,by omega,rfl,rfl⟩
theorem yF {w:Nat} (h1:1≤w) (h2:w≤64):sY (w:Int)=2 ^ w-1:=by
 have key:∀ w:Fin 65,1≤w.val→sY (w.val:Int)=2 ^ w.val-1:=by decide +kernel
 exact key ⟨w,by omega⟩ h1
theorem w111 (w b:Int) (h0:0≤b) (h1:b<18446744073709551616):Pure Tryz.prog 111 [.int .i64 w,.int .u64 b] (.bool (okB w b)):=by
 refine Pure.of fun nx=>AC.go aI De (by simp) ?_
 simp -implicitDefEqProofs only [RA,ae,zp,↓reduceIte,reduceCtorEq,zq,zr,zs,zt,Fc,At]
 refine (w84 w).use fun n1 hn1=>?_
 by_cases c1:wide w=true
 case neg =>
  simp only [Gh] at c1
  simp -implicitDefEqProofs only [RA,ae,zp,↓reduceIte,reduceCtorEq,zq,zr,zs,zt,c1,zo,okB,Gf]
 have c2:=c1
 simp only [wide,Gd,decide_eq_true_eq] at c2
 obtain ⟨n,rfl⟩:∃ n:Nat,w=(n:Int):=⟨w.toNat,by omega⟩
 have hm:=yF (w:=n) (by omega) (by omega)
 rcases tK ((n:Int)=64) with ⟨c3,d3⟩|⟨c3,d3⟩
 ·simp -implicitDefEqProofs only [RA,ae,zp,↓reduceIte,reduceCtorEq,zq,zr,zs,zt,c1,d3]
  refine (w120 n (by omega)).use fun n2 hn2=>?_
  have e:decide (b≤2 ^ n-1)=decide (b<2 ^ n):=by
   by_cases h:b<2 ^ n
   ·rw [decide_eq_true h,decide_eq_true (by omega)]
   ·rw [decide_eq_false h,decide_eq_false (by omega)]
  simp -implicitDefEqProofs only [RA,ae,zp,↓reduceIte,reduceCtorEq,zq,zr,zs,zt,c1,zo,okB,hm,e,Ge]
 ·have e:decide (b≤2 ^ n-1)=true:=decide_eq_true (by
   have:n=64:=by omega
   subst this;omega)
  simp -implicitDefEqProofs only [RA,ae,zp,↓reduceIte,reduceCtorEq,zq,zr,zs,zt,c1,d3,zo,okB,hm,e,Ge]
def ln (s:Nm):Nm:=if s.take 2=[114,46] then s.drop 2 else s
def gF (s:Nm):Bool:=dI (ln s)
theorem w123 (s:Nm):Pure Tryz.prog 123 [.str s,.str [114,46]] (.bool (decide (s.take 2=[114,46]))):=by
 refine Pure.of fun nx=>AC.go aI C2 (by simp) ?_
 have z0:(0:Int)≤2:=by omega
 have t2:Int.toNat 2=2:=rfl
 rcases ai (((2:Nat):Int)≤(s.length:Int)) with ⟨c1,d1⟩|⟨c1,d1⟩
 ·have c2:2≤s.length:=by omega
  have zz:((2:Nat):Int)=2:=rfl
  rw [zz] at d1
  have e:(List.take 2 s==[114,46])=decide (s.take 2=[114,46]):=by by_cases h:s.take 2=[114,46] <;> simp [h]
  simp -implicitDefEqProofs only [RA,ae,zp,↓reduceIte,reduceCtorEq,zq,zr,zs,zt,Cy,xF,Fu,Fv,zz,d1,z0,c2,bnd,aG,aN,t2,Gx,List.drop_zero,e,BY]
 ·have zz:((2:Nat):Int)=2:=rfl
  rw [zz] at d1
  have e:s.take 2≠[114,46]:=fun h=>by
   have:=congrArg List.length h
   rw [Fx] at this
   simp at this;omega
  simp -implicitDefEqProofs only [RA,ae,zp,↓reduceIte,reduceCtorEq,zq,zr,zs,zt,Cy,xF,Fu,Fv,zz,d1,BY,decide_eq_false e]
theorem w116 (s:Nm):Pure Tryz.prog 116 [.str s,.str [114,46]] (.str (ln s)):=by
 refine Pure.of fun nx=>AC.go aI C9 (by simp) ?_
 have c121:Pure Tryz.prog 121 [.str s,.str [114,46]] (.str (ln s)):=by
  refine Pure.of fun nx=>AC.go aI C4 (by simp) ?_
  simp -implicitDefEqProofs only [RA,ae,zp,↓reduceIte,reduceCtorEq,zq,zr,zs,zt,E6,An]
  refine (w123 s).use fun n1 hn1=>?_
  unfold ln
  by_cases c1:s.take 2=[114,46]
  ·have c2:2≤s.length:=by
    have:=congrArg List.length c1
    rw [Fx] at this
    simp at this;omega
   have zz:((2:Nat):Int)=2:=rfl
   have t2:Int.toNat 2=2:=rfl
   have z0:(0:Int)≤2:=by omega
   have tl:s.take s.length=s:=FO
   rw [if_pos c1]
   simp -implicitDefEqProofs only [RA,ae,zp,↓reduceIte,reduceCtorEq,zq,zr,zs,zt,decide_eq_true c1,Fu,Fv,zz,t2,z0,c2,tl,bnd,Gp,B0]
  ·rw [if_neg c1]
   simp -implicitDefEqProofs only [RA,ae,zp,↓reduceIte,reduceCtorEq,zq,zr,zs,zt,decide_eq_false c1,B0]
 simp -implicitDefEqProofs only [RA,ae,zp,↓reduceIte,reduceCtorEq,zq,zr,zs,zt,Fa,Ar]
 refine c121.use fun n1 hn1=>?_
 simp -implicitDefEqProofs only [RA,ae,zp,↓reduceIte,reduceCtorEq,zq,zr,zs,zt,D8]
theorem w109 (s:Nm) (hs:s.length≤100000):Pure Tryz.prog 109 [.str s] (.bool (gF s)):=by
 refine Pure.of fun nx=>AC.go aI Dg (by simp) ?_
 simp -implicitDefEqProofs only [RA,ae,zp,↓reduceIte,reduceCtorEq,zq,zr,zs,zt,Ff,Au]
 refine (w116 s).use fun n1 hn1=>?_
 have hl:(ln s).length≤100000:=by
  unfold ln;split
  ·rw [FP];omega
  ·exact hs
 simp -implicitDefEqProofs only [RA,ae,zp,↓reduceIte,reduceCtorEq,zq,zr,zs,zt]
 refine (AG (ln s) hl).use fun n2 hn2=>?_
 simp -implicitDefEqProofs only [RA,ae,zp,↓reduceIte,reduceCtorEq,zq,zr,zs,zt,D9,gF]
theorem w112 (s:Nm) (hs:s.length≤100000):Pure Tryz.prog 112 [.str s] (.bool (gF s)):=by
 refine Pure.of fun nx=>AC.go aI Dd (by simp) ?_
 have t2:Int.toNat 2=2:=rfl
 have z0:(0:Int)≤2:=by omega
 have e:(List.take 2 s==[114,46])=decide (s.take 2=[114,46]):=by by_cases h:s.take 2=[114,46] <;> simp [h]
 have tl:s.take s.length=s:=FO
 rcases ai ((s.length:Int) > 2) with ⟨c1,d1⟩|⟨c1,d1⟩
 ·have c2:2≤s.length:=by omega
  by_cases c3:s.take 2=[114,46]
  ·have hv:gF s=dI (s.drop 2):=by rw [gF,ln,if_pos c3]
   rw [hv]
   simp -implicitDefEqProofs only [RA,ae,zp,↓reduceIte,reduceCtorEq,zq,zr,zs,zt,zQ,sx,d1,t2,z0,c2,tl,bnd,aG,aN,Gx,Gp,List.drop_zero,e,decide_eq_true c3]
   refine (tW (s.drop 2) (by rw [FP];omega)).use fun n1 hn1=>?_
   simp -implicitDefEqProofs only [RA,ae,zp,↓reduceIte,reduceCtorEq,zq,zr,zs,zt,zn]
  ·have hv:gF s=dI s:=by rw [gF,ln,if_neg c3]
   rw [hv]
   simp -implicitDefEqProofs only [RA,ae,zp,↓reduceIte,reduceCtorEq,zq,zr,zs,zt,zQ,sx,d1,t2,z0,c2,tl,bnd,aG,aN,Gx,Gp,List.drop_zero,e,decide_eq_false c3]
   refine (tW s hs).use fun n1 hn1=>?_
   simp -implicitDefEqProofs only [RA,ae,zp,↓reduceIte,reduceCtorEq,zq,zr,zs,zt,zn]
 ·have hv:gF s=dI s:=by
   unfold gF ln
   split
   ·rename_i h
    obtain rfl:s=[114,46]:=by
     rw [Fs (by omega)] at h;exact h
    decide +kernel
   ·rfl
  rw [hv]
  simp -implicitDefEqProofs only [RA,ae,zp,↓reduceIte,reduceCtorEq,zq,zr,zs,zt,zQ,sx,d1]
  refine (tW s hs).use fun n1 hn1=>?_
  simp -implicitDefEqProofs only [RA,ae,zp,↓reduceIte,reduceCtorEq,zq,zr,zs,zt,zn]
end Go.Proofs.YtkhjclmfbmfahaaGreatDoor
