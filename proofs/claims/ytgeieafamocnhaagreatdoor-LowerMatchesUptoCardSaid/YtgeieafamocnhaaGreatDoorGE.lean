/- Trees of the source language, and their cells. -/
import Derived.Test.YtgeieafamocnhaaGreatDoorGD
import Derived.Test.YtgeieafamocnhaaGreatDoorRows
import Derived.KernelRfl
namespace Go.Proofs.YtgeieafamocnhaaGreatDoor
set_option maxHeartbeats 64000000
open Go Go.Ab Go.Proofs
set_option linter.unusedVariables false
set_option linter.unusedSimpArgs false
abbrev Nm:=List UInt8
inductive Ex where
 | mk (kind width bits:Int) (name:Nm) (op:Int) (sub:List Ex)
def Ex.kind:Ex→Int|.mk k _ _ _ _ _=>k
def Ex.width:Ex→Int|.mk _ w _ _ _ _=>w
def Ex.bits:Ex→Int|.mk _ _ b _ _ _=>b
def Ex.name:Ex→Nm|.mk _ _ _ n _ _=>n
def Ex.op:Ex→Int|.mk _ _ _ _ o _=>o
def Ex.sub:Ex→List Ex|.mk _ _ _ _ _ s=>s
inductive Sm where
 | mk (kind:Int) (name func:Nm) (width:Int) (exprs:List Ex) (body els:List Sm)
def Sm.kind:Sm→Int|.mk k _ _ _ _ _ _=>k
def Sm.name:Sm→Nm|.mk _ n _ _ _ _ _=>n
def Sm.func:Sm→Nm|.mk _ _ f _ _ _ _=>f
def Sm.width:Sm→Int|.mk _ _ _ w _ _ _=>w
def Sm.exprs:Sm→List Ex|.mk _ _ _ _ l _ _=>l
def Sm.body:Sm→List Sm|.mk _ _ _ _ _ l _=>l
def Sm.els:Sm→List Sm|.mk _ _ _ _ _ _ l=>l
abbrev Pm:=Nm × Int
structure Fu where
 name:Nm
 params:List Pm
 result:Int
 body:List Sm
structure Ar where
 name:Nm
 width:Int
 len:Int
structure Pr where
 arrays:List Ar
 funcs:List Fu
mutual
def exE:Ex→List AV
 | .mk k w b n o s=>[.int .u8 k,.int .i64 w,.int .u64 b,.str n,.int .u8 o,.lst 6 (qA s)]
def qA:List Ex→List (List AV)
 | []=>[]
 | x::r=>exE x::qA r
end
theorem mQ:∀ l:List Ex,qA l=l.map exE
 | []=>by simp [qA]
 | x::r=>by simp [qA,mQ r]
mutual
def smE:Sm→List AV
 | .mk k n f w l b e=>[.int .u8 k,.str n,.str f,.int .i64 w,.lst 6 (qA l),.lst 7 (qd b),.lst 7 (qd e)]
def qd:List Sm→List (List AV)
 | []=>[]
 | x::r=>smE x::qd r
end
theorem mz:∀ l:List Sm,qd l=l.map smE
 | []=>by simp [qd]
 | x::r=>by simp [qd,mz r]
def aR (l:List Ex):AV:=.lst 6 (l.map exE)
def ay (l:List Sm):AV:=.lst 7 (l.map smE)
def pmE (p:Pm):List AV:=[.str p.1,.int .i64 p.2]
def bw (l:List Pm):AV:=.lst 2 (l.map pmE)
def fuE (f:Fu):List AV:=[.str f.name,bw f.params,.int .i64 f.result,ay f.body]
def bR (l:List Fu):AV:=.lst 4 (l.map fuE)
def arE (a:Ar):List AV:=[.str a.name,.int .i64 a.width,.int .i64 a.len]
def bU (l:List Ar):AV:=.lst 3 (l.map arE)
def prE (p:Pr):List AV:=[bU p.arrays,bR p.funcs]
theorem eT (x:Ex):exE x=[.int .u8 x.kind,.int .i64 x.width,.int .u64 x.bits,.str x.name,.int .u8 x.op,aR x.sub]:=by
 cases x;simp [exE,Ex.kind,Ex.width,Ex.bits,Ex.name,Ex.op,Ex.sub,aR,mQ]
theorem mA (s:Sm):smE s=[.int .u8 s.kind,.str s.name,.str s.func,.int .i64 s.width,aR s.exprs,ay s.body,ay s.els]:=by
 cases s;simp [smE,Sm.kind,Sm.name,Sm.func,Sm.width,Sm.exprs,Sm.body,Sm.els,aR,ay,mQ,mz]
mutual
def bM:Ex→Nat
 | .mk _ _ _ _ _ s=>aN s+1
def aN:List Ex→Nat
 | []=>0
 | x::r=>bM x+aN r
end
mutual
def depth:Ex→Nat
 | .mk _ _ _ _ _ s=>bT s+1
def bT:List Ex→Nat
 | []=>0
 | x::r=>max (depth x) (bT r)
end
def big (x:Ex):Bool:=decide (50<bM x)||decide (14<depth x)
mutual
def ff:Sm→Nat
 | .mk _ _ _ _ _ b e=>aL b+aL e+1
def aL:List Sm→Nat
 | []=>0
 | x::r=>ff x+aL r
end
mutual
def vars:Sm→Nat
 | .mk k _ _ _ _ b e=>bg b+bg e+(if k=1 then 1 else 0)
def bg:List Sm→Nat
 | []=>0
 | x::r=>vars x+bg r
end
mutual
def wY:Sm→Nat
 | .mk _ _ _ _ _ b e=>max (bJ b) (bJ e)+1
def bJ:List Sm→Nat
 | []=>0
 | x::r=>max (wY x) (bJ r)
end
mutual
def tG:Sm→Bool
 | .mk _ _ _ _ l b e=>l.any big||bF b||bF e
def bF:List Sm→Bool
 | []=>false
 | x::r=>tG x||bF r
end
def cm (w:Int):Bool:=decide (w=1)||decide (w=8)||decide (w=16)||decide (w=32)
open Go Go.Ab Go.Sa Go.Proofs
set_option maxRecDepth 100000
def xZ:CX (.seq (.seq (r [m 18 4,fa 19 0 1,l 20 19,s 21 (.len (t 20)),s 22 (.bin .lss (t 18) (t 21))]) (.cond (t 22) .skip (.exit 0))) (.seq (.block 1 (r [m 25 3,fa 26 0 1,l 27 26,m 28 4,s 29 (.idxA 3 (t 27) (t 28)),fa 30 0 29,l 31 30,s 32 (.lens (t 31)),s 33 (.bin .add (t 25) (t 32)),m 3 33])) (r [m 23 4,s 24 (.bin .add (t 23) (i 1)),m 4 24]))):=⟨_,by simp only [QQ];rfl⟩
def CT:ak:=xZ.1
def xY:CX (.seq (.seq (r [m 50 7,fa 51 1 6,l 52 51,s 53 (.len (t 52)),s 54 (.bin .lss (t 50) (t 53))]) (.cond (t 54) .skip (.exit 4))) (.seq (.block 5 (r [m 57 3,fa 58 1 6,l 59 58,m 60 7,s 61 (.idxA 2 (t 59) (t 60)),fa 62 0 61,l 63 62,s 64 (.lens (t 63)),s 65 (.bin .add (t 57) (t 64)),m 3 65])) (r [m 55 7,s 56 (.bin .add (t 55) (i 1)),m 7 56]))):=⟨_,by simp only [QQ];rfl⟩
def CS:ak:=xY.1
def tW:CX (.seq (.seq (r [m 34 5,fa 35 1 1,l 36 35,s 37 (.len (t 36)),s 38 (.bin .lss (t 34) (t 37))]) (.cond (t 38) .skip (.exit 2))) (.seq (.block 3 (.seq (r [fa 41 1 1,l 42 41,m 43 5,s 44 (.idxA 4 (t 42) (t 43)),s 45 (.load 4 true (t 44)),s 6 (.alloc [(.str []),.nilS,(.int .i64 0),.nilS]),sn (.store 4 (t 6) (t 45))]) (.seq (.seq (r [fa 46 1 6,l 47 46,s 48 (.len (t 47)),s 49 (.bin .gtr (t 48) (i 50))]) (.cond (t 49) (.seq (r [s 2 (.move b1)]) .ret) .skip)) (.seq (.seq (r [s 7 (.move (i 0))]) (.block 4 (.loop CS))) (.dregion [⟨0,m 66 3,[]⟩,⟨1,fa 67 0 6,[]⟩,⟨2,l 68 67,[]⟩,⟨3,s 69 (.lens (t 68)),[]⟩,⟨4,fa 70 3 6,[]⟩,⟨5,l 71 70,[]⟩,⟨6,c 72 17 [(t 71)],[0,1,2,3]⟩,⟨7,s 73 (.bin .add (t 69) (t 72)),[]⟩,⟨8,s 74 (.bin .add (t 66) (t 73)),[]⟩,⟨9,m 3 74,[]⟩]))))) (r [m 39 5,s 40 (.bin .add (t 39) (i 1)),m 5 40]))):=⟨_,by simp only [QQ];rfl⟩
def Ai:ak:=tW.1
def A5p:CX (.seq (r [s 1 (.box (t 0)),s 2 (.move b0)]) (.seq (.seq (r [fa 8 0 1,l 9 8,s 10 (.len (t 9)),s 11 (.bin .gtr (t 10) (i 20)),m 12 11,fb 13 12 1 1,fl 14 12 13,gf 15 12 (.len (t 14)),gf 16 12 (.bin .gtr (t 15) (i 20)),s 17 (.pick (t 12) b1 (t 16))]) (.cond (t 17) (.seq (r [s 2 (.move b1)]) .ret) .skip)) (.seq (r [s 3 (.move (i 0))]) (.seq (.seq (r [s 4 (.move (i 0))]) (.block 0 (.loop CT))) (.seq (.seq (r [s 5 (.move (i 0))]) (.block 2 (.loop Ai))) (.seq (r [m 75 3,s 76 (.bin .gtr (t 75) (i 5000)),m 2 76]) .ret)))))):=⟨_,by simp only [QQ];rfl⟩
def A5:ak:=A5p.1
def R5:List RV:=[.tmp 2]
theorem is5:Is Tryz.prog (fun _ _=>false) 5 77 A5 R5:=⟨Tryz.f5,Tryz.func5,rfl,by kernel_rfl,by kernel_rfl,Tryz.call5⟩
def sW:CX (.seq (.seq (r [m 48 5,fa 49 5 2,l 50 49,s 51 (.len (t 50)),s 52 (.bin .lss (t 48) (t 51))]) (.cond (t 52) .skip (.exit 0))) (.seq (.block 1 (.seq (.dregion [⟨0,fa 55 5 2,[]⟩,⟨1,l 56 55,[]⟩,⟨2,m 57 5,[]⟩,⟨3,s 58 (.idxA 6 (t 56) (t 57)),[]⟩,⟨4,s 59 (.load 6 true (t 58)),[]⟩,⟨5,fa 60 5 3,[]⟩,⟨6,l 61 60,[]⟩,⟨7,m 62 5,[]⟩,⟨8,s 63 (.idxA 6 (t 61) (t 62)),[]⟩,⟨9,s 64 (.load 6 true (t 63)),[]⟩,⟨10,c 65 11 [(t 59),(t 64)],[]⟩,⟨11,s 66 (.un .not (t 65)),[]⟩]) (.cond (t 66) (.seq (r [s 4 (.move b0)]) .ret) .skip))) (r [m 53 5,s 54 (.bin .add (t 53) (i 1)),m 5 54]))):=⟨_,by simp only [QQ];rfl⟩
def yH:ak:=sW.1
def GR:CX (.seq (r [s 2 (.box (t 0)),s 3 (.box (t 1)),s 4 (.move b0)]) (.seq (.seq (r [fa 6 0 2,l 7 6,fa 8 0 3,l 9 8,s 10 (.bin .neq (t 7) (t 9)),m 11 10,fb 12 11 1 2,fl 13 11 12,fb 14 11 1 3,fl 15 11 14,gf 16 11 (.bin .neq (t 13) (t 15)),s 17 (.pick (t 11) b1 (t 16)),m 18 17,fb 19 18 2 2,fl 20 18 19,fb 21 18 2 3,fl 22 18 21,gf 23 18 (.bin .neq (t 20) (t 22)),s 24 (.pick (t 18) b1 (t 23)),m 25 24,fb 26 25 3 2,fl 27 25 26,fb 28 25 3 3,fl 29 25 28,gf 30 25 (.bin .neq (t 27) (t 29)),s 31 (.pick (t 25) b1 (t 30)),m 32 31,fb 33 32 4 2,fl 34 32 33,fb 35 32 4 3,fl 36 32 35,gf 37 32 (.bin .neq (t 34) (t 36)),s 38 (.pick (t 32) b1 (t 37)),m 39 38,fb 40 39 5 2,fl 41 39 40,gf 42 39 (.len (t 41)),fb 43 39 5 3,fl 44 39 43,gf 45 39 (.len (t 44)),gf 46 39 (.bin .neq (t 42) (t 45)),s 47 (.pick (t 39) b1 (t 46))]) (.cond (t 47) (.seq (r [s 4 (.move b0)]) .ret) .skip)) (.seq (.seq (r [s 5 (.move (i 0))]) (.block 0 (.loop yH))) (.seq (r [s 4 (.move b1)]) .ret)))):=⟨_,by simp only [QQ];rfl⟩
def A11:ak:=GR.1
def R11:List RV:=[.tmp 4]
theorem is11:Is Tryz.prog (fun _ _=>false) 11 67 A11 R11:=⟨Tryz.f11,Tryz.func11,rfl,by kernel_rfl,by kernel_rfl,Tryz.call11⟩
def pA:CX (.seq (.seq (r [m 5 4,m 6 0,s 7 (.len (t 6)),s 8 (.bin .lss (t 5) (t 7)),m 9 8,gt 10 9 (.move (t 3)),gt 11 9 (.bin .lss (t 10) (i 100000)),s 12 (.pick (t 9) (t 11) b0)]) (.cond (t 12) .skip (.exit 0))) (.seq (.block 1 (.dregion [⟨0,m 15 3,[]⟩,⟨1,m 16 0,[]⟩,⟨2,m 17 4,[]⟩,⟨3,s 18 (.idxA 7 (t 16) (t 17)),[]⟩,⟨4,fa 19 1 18,[]⟩,⟨5,l 20 19,[]⟩,⟨6,s 21 (.lens (t 20)),[]⟩,⟨7,s 22 (.bin .add (i 1) (t 21)),[]⟩,⟨8,m 23 0,[]⟩,⟨9,m 24 4,[]⟩,⟨10,s 25 (.idxA 7 (t 23) (t 24)),[]⟩,⟨11,fa 26 2 25,[]⟩,⟨12,l 27 26,[]⟩,⟨13,s 28 (.lens (t 27)),[]⟩,⟨14,s 29 (.bin .add (t 22) (t 28)),[]⟩,⟨15,m 30 0,[]⟩,⟨16,m 31 4,[]⟩,⟨17,s 32 (.idxA 7 (t 30) (t 31)),[]⟩,⟨18,fa 33 4 32,[]⟩,⟨19,l 34 33,[]⟩,⟨22,m 37 0,[]⟩,⟨23,m 38 4,[]⟩,⟨24,s 39 (.idxA 7 (t 37) (t 38)),[]⟩,⟨25,fa 40 5 39,[]⟩,⟨26,l 41 40,[]⟩,⟨29,m 44 0,[]⟩,⟨30,m 45 4,[]⟩,⟨31,s 46 (.idxA 7 (t 44) (t 45)),[]⟩,⟨32,fa 47 6 46,[]⟩,⟨33,l 48 47,[]⟩,⟨20,c 35 18 [(t 34)],[0,1,2,3,4,5,6,7,8,9,10,11,12,13,14,22,23,24,25,26,29,30,31,32,33]⟩,⟨21,s 36 (.bin .add (t 29) (t 35)),[]⟩,⟨27,c 42 17 [(t 41)],[0,1,2,3,4,5,6,7,8,9,10,11,12,13,14,29,30,31,32,33,21]⟩,⟨28,s 43 (.bin .add (t 36) (t 42)),[]⟩,⟨34,c 49 17 [(t 48)],[0,1,2,3,4,5,6,7,8,9,10,11,12,13,14,21,28]⟩,⟨35,s 50 (.bin .add (t 43) (t 49)),[]⟩,⟨36,s 51 (.bin .add (t 15) (t 50)),[]⟩,⟨37,m 3 51,[]⟩])) (r [m 13 4,s 14 (.bin .add (t 13) (i 1)),m 4 14]))):=⟨_,by simp only [QQ];rfl⟩
def uc:ak:=pA.1
def Gp:CX (.seq (r [s 2 (.move (i 0))]) (.seq (r [s 3 (.move (i 0))]) (.seq (.seq (r [s 4 (.move (i 0))]) (.block 0 (.loop uc))) (.seq (r [m 52 3,m 2 52]) .ret)))):=⟨_,by simp only [QQ];rfl⟩
def A17:ak:=Gp.1
def R17:List RV:=[.tmp 2]
theorem is17:Is Tryz.prog (fun _ _=>false) 17 53 A17 R17:=⟨Tryz.f17,Tryz.func17,rfl,by kernel_rfl,by kernel_rfl,Tryz.call17⟩
def pz:CX (.seq (.seq (r [m 5 4,m 6 0,s 7 (.len (t 6)),s 8 (.bin .lss (t 5) (t 7)),m 9 8,gt 10 9 (.move (t 3)),gt 11 9 (.bin .lss (t 10) (i 100000)),s 12 (.pick (t 9) (t 11) b0)]) (.cond (t 12) .skip (.exit 0))) (.seq (.block 1 (.dregion [⟨0,m 15 3,[]⟩,⟨1,m 16 0,[]⟩,⟨2,m 17 4,[]⟩,⟨3,s 18 (.idxA 6 (t 16) (t 17)),[]⟩,⟨4,fa 19 3 18,[]⟩,⟨5,l 20 19,[]⟩,⟨6,s 21 (.lens (t 20)),[]⟩,⟨7,s 22 (.bin .add (i 1) (t 21)),[]⟩,⟨8,m 23 0,[]⟩,⟨9,m 24 4,[]⟩,⟨10,s 25 (.idxA 6 (t 23) (t 24)),[]⟩,⟨11,fa 26 5 25,[]⟩,⟨12,l 27 26,[]⟩,⟨13,c 28 18 [(t 27)],[0,1,2,3,4,5,6,7]⟩,⟨14,s 29 (.bin .add (t 22) (t 28)),[]⟩,⟨15,s 30 (.bin .add (t 15) (t 29)),[]⟩,⟨16,m 3 30,[]⟩])) (r [m 13 4,s 14 (.bin .add (t 13) (i 1)),m 4 14]))):=⟨_,by simp only [QQ];rfl⟩
def ub:ak:=pz.1
def Gn:CX (.seq (r [s 2 (.move (i 0))]) (.seq (r [s 3 (.move (i 0))]) (.seq (.seq (r [s 4 (.move (i 0))]) (.block 0 (.loop ub))) (.seq (r [m 31 3,m 2 31]) .ret)))):=⟨_,by simp only [QQ];rfl⟩
def A18:ak:=Gn.1
def R18:List RV:=[.tmp 2]
theorem is18:Is Tryz.prog (fun _ _=>false) 18 32 A18 R18:=⟨Tryz.f18,Tryz.func18,rfl,by kernel_rfl,by kernel_rfl,Tryz.call18⟩
def sI:CX (.seq (r [s 24 (.bin .lss (t 23) (t 22))]) (.seq (.cond (t 24) .skip (.exit 0)) (.seq (.block 1 (.seq (r [s 25 (.idxA 3 (t 21) (t 23)),s 26 (.load 3 true (t 25)),s 8 (.alloc [(.str []),(.int .i64 0),(.int .i64 0)]),sn (.store 3 (t 8) (t 26))]) (.seq (r [m 27 6,s 28 (.bin .add (t 27) (i 3)),s 29 (.bin .andNot (t 28) (i 3)),m 6 29]) (.seq (r [m 30 5,m 31 5,s 32 (.nilck (t 31)),fa 33 2 32,l 34 33,m 35 6,s 36 (.buildF [(.int .i64 0)] 1 [(0,(t 35))]),s 37 (.app 3 1 8 (t 34) (t 36)),s 38 (.nilck (t 30)),fa 39 2 38,sn (.store 1 (t 39) (t 37))]) (r [m 40 6,fa 41 2 8,l 42 41,fa 43 1 8,l 44 43,s 45 (.bin .mul (t 42) (t 44)),s 46 (.bin .quo (t 45) (i 8)),s 47 (.bin .add (t 40) (t 46)),m 6 47]))))) (r [s 48 (.bin .add (t 23) (i 1)),m 23 48])))):=⟨_,by simp only [QQ];rfl⟩
def yu:ak:=sI.1
def sH:CX (.seq (r [s 53 (.bin .lss (t 52) (t 51))]) (.seq (.cond (t 53) .skip (.exit 2)) (.seq (.block 3 (.seq (r [m 54 52,m 9 54]) (.seq (r [s 56 (.load 2 true (t 1)),m 57 9,c 58 36 [(t 56),(t 57)],m 55 58,e 59 55 0,e 60 55 1,m 10 59,m 11 60]) (.seq (.seq (r [m 61 11,s 62 (.bin .neq (t 61) (i 0))]) (.cond (t 62) (.seq (r [m 63 11,s 2 (.move (.const (.pointer none))),m 3 63]) .ret) .skip)) (r [m 64 5,m 65 5,s 66 (.nilck (t 65)),fa 67 3 66,l 68 67,m 69 10,s 70 (.buildF [.nilS] 1 [(0,(t 69))]),s 71 (.app 59 1 24 (t 68) (t 70)),s 72 (.nilck (t 64)),fa 73 3 72,sn (.store 1 (t 73) (t 71))]))))) (r [s 74 (.bin .add (t 52) (i 1)),m 52 74])))):=⟨_,by simp only [QQ];rfl⟩
def yr:ak:=sH.1
def CU:CX (.seq (r [s 1 (.box (t 0)),s 2 (.move (.const (.pointer none))),s 3 (.move (i 0))]) (.seq (r [s 12 (.load 2 true (t 1)),c 13 40 [(t 12)],m 4 13]) (.seq (.seq (r [m 14 4,s 15 (.bin .neq (t 14) (i 0))]) (.cond (t 15) (.seq (r [m 16 4,s 2 (.move (.const (.pointer none))),m 3 16]) .ret) .skip)) (.seq (r [s 17 (.load 2 true (t 1)),s 18 (.build [.nilS,.nilS,.nilS,.nilS] [(0,2,(t 17))]),s 19 (.box (t 18)),m 5 19]) (.seq (r [s 6 (.move (i 4096))]) (.seq (.seq (r [fa 20 0 1,l 21 20,s 22 (.len (t 21)),s 23 (.move (i 0))]) (.block 0 (.loop yu))) (.seq (.seq (r [fa 49 1 1,l 50 49,s 51 (.len (t 50)),s 52 (.move (i 0))]) (.block 2 (.loop yr))) (.seq (r [m 75 5,m 2 75,s 3 (.move (i 0))]) .ret)))))))):=⟨_,by simp only [QQ];rfl⟩
def A20:ak:=CU.1
def R20:List RV:=[.tmp 2,.tmp 3]
theorem DG:Is Tryz.prog (fun _ _=>false) 20 76 A20 R20:=⟨Tryz.f20,Tryz.func20,rfl,by kernel_rfl,by kernel_rfl,Tryz.call20⟩
def sG:CX (.seq (r [s 15 (.bin .lss (t 14) (t 13))]) (.seq (.cond (t 15) .skip (.exit 0)) (.seq (.block 1 (.seq (r [s 16 (.idxA 6 (t 12) (t 14)),s 17 (.load 6 true (t 16)),s 9 (.alloc [(.int .u8 0),(.int .i64 0),(.int .u64 0),(.str []),(.int .u8 0),.nilS]),sn (.store 6 (t 9) (t 17))]) (r [m 18 7,m 19 0,m 20 1,s 21 (.load 6 true (t 9)),c 22 21 [(t 19),(t 20),(t 21)],s 23 (.buildF [(.int .u8 0),(.int .i64 0),(.int .u64 0),(.str []),(.int .i64 0),.nilS] 1 [(0,(t 22))]),s 24 (.app 34 6 72 (t 18) (t 23)),m 7 24]))) (r [s 25 (.bin .add (t 14) (i 1)),m 14 25])))):=⟨_,by simp only [QQ];rfl⟩
def yq:ak:=sG.1
def Gm:CX (.seq (r [s 5 (.box (t 2)),s 6 (.alloc [(.int .u8 0),(.int .i64 0),(.int .u64 0),(.str []),(.int .i64 0),.nilS])]) (.seq (r [s 7 (.move ns)]) (.seq (.seq (r [fa 11 5 5,l 12 11,s 13 (.len (t 12)),s 14 (.move (i 0))]) (.block 0 (.loop yq))) (.seq (.seq (r [fa 26 0 5,l 27 26]) (.block 2 (.seq (r [s 29 (.bin .eql (t 27) (.const (.int .u8 1))),m 28 29]) (.cond (t 28) (.seq (r [fa 30 1 5,l 31 30,fa 32 2 5,l 33 32,c 34 41 [(t 31),(t 33)],sn (.store 6 (t 6) (t 34))]) .ret) (.seq (r [s 36 (.bin .eql (t 27) (.const (.int .u8 2))),m 35 36]) (.cond (t 35) (.seq (.dregion [⟨0,m 37 0,[]⟩,⟨1,s 38 (.nilck (t 37)),[]⟩,⟨2,fa 39 3 38,[]⟩,⟨3,l 40 39,[]⟩,⟨4,m 41 1,[]⟩,⟨5,s 42 (.idxA 1 (t 40) (t 41)),[]⟩,⟨6,l 43 42,[]⟩,⟨7,m 44 0,[]⟩,⟨8,m 45 1,[]⟩,⟨9,fa 46 3 5,[]⟩,⟨10,l 47 46,[]⟩,⟨15,fa 52 3 5,[]⟩,⟨16,l 53 52,[]⟩,⟨11,c 48 42 [(t 44),(t 45),(t 47)],[0,1,2,3,4,5,6,15,16]⟩,⟨12,s 49 (.idxA 2 (t 43) (t 48)),[]⟩,⟨13,fa 50 1 49,[]⟩,⟨14,l 51 50,[]⟩,⟨17,s 54 (.build [(.int .u8 0),(.int .i64 0),(.int .u64 0),(.str []),(.int .i64 0),.nilS] [(0,1,(.const (.int .u8 2))),(1,1,(t 51)),(3,1,(t 53))]),[]⟩,⟨18,sn (.store 6 (t 6) (t 54)),[]⟩]) .ret) (.seq (r [s 56 (.bin .eql (t 27) (.const (.int .u8 3))),m 55 56]) (.cond (t 55) (.seq (.dregion [⟨0,m 57 0,[]⟩,⟨1,s 58 (.nilck (t 57)),[]⟩,⟨2,fa 59 0 58,[]⟩,⟨3,fa 60 0 59,[]⟩,⟨4,l 61 60,[]⟩,⟨5,m 62 0,[]⟩,⟨6,fa 63 3 5,[]⟩,⟨7,l 64 63,[]⟩,⟨12,m 69 0,[]⟩,⟨13,fa 70 3 5,[]⟩,⟨14,l 71 70,[]⟩,⟨15,m 72 7,[]⟩,⟨16,s 73 (.idxA 6 (t 72) (i 0)),[]⟩,⟨17,s 74 (.load 6 true (t 73)),[]⟩,⟨8,c 65 44 [(t 62),(t 64)],[0,1,2,3,4,12,13,14,15,16,17]⟩,⟨9,s 66 (.idxA 3 (t 61) (t 65)),[]⟩,⟨10,fa 67 1 66,[]⟩,⟨11,l 68 67,[]⟩,⟨18,c 75 45 [(t 69),(t 71),(t 74)],[0,1,2,3,4,9,10,11]⟩,⟨19,s 76 (.buildF [(.int .u8 0),(.int .i64 0),(.int .u64 0),(.str []),(.int .i64 0),.nilS] 1 [(0,(t 75))]),[]⟩,⟨20,c 77 43 [(.const (.int .u8 24)),(t 68),(t 76)],[]⟩,⟨21,sn (.store 6 (t 6) (t 77)),[]⟩]) .ret) (.seq (.seq (r [s 79 (.bin .eql (t 27) (.const (.int .u8 4))),m 78 79]) (.cond (t 78) .skip (r [s 80 (.bin .eql (t 27) (.const (.int .u8 5))),m 78 80]))) (.cond (t 78) (.seq (.dregion [⟨0,fa 81 0 5,[]⟩,⟨1,l 82 81,[]⟩,⟨2,s 83 (.bin .sub (.const (.int .u8 8)) (t 82)),[]⟩,⟨3,m 84 7,[]⟩,⟨4,s 85 (.idxA 6 (t 84) (i 0)),[]⟩,⟨5,fa 86 1 85,[]⟩,⟨6,l 87 86,[]⟩,⟨7,m 88 7,[]⟩,⟨8,c 89 43 [(t 83),(t 87),(t 88)],[]⟩,⟨9,sn (.store 6 (t 6) (t 89)),[]⟩]) .ret) (.seq (r [s 91 (.bin .eql (t 27) (.const (.int .u8 6))),m 90 91]) (.cond (t 90) (.seq (r [m 92 7,s 93 (.idxA 6 (t 92) (i 0)),fa 94 1 93,l 95 94,m 10 95]) (.seq (.seq (r [fa 96 4 5,l 97 96,s 98 (.bin .geq (t 97) (.const (.int .u8 16)))]) (.cond (t 98) (r [s 10 (.move (i 1))]) .skip)) (.seq (r [fa 99 4 5,l 100 99,m 101 10,m 102 7,c 103 43 [(t 100),(t 101),(t 102)],sn (.store 6 (t 6) (t 103))]) .ret))) .skip)))))))))))) (.seq (.block 3 (.seq (.dregion [⟨0,fa 105 1 5,[]⟩,⟨1,l 106 105,[]⟩,⟨2,m 107 7,[]⟩,⟨3,s 108 (.idxA 6 (t 107) (i 0)),[]⟩,⟨4,fa 109 1 108,[]⟩,⟨5,l 110 109,[]⟩,⟨6,s 111 (.bin .eql (t 106) (t 110)),[]⟩,⟨7,m 104 111,[]⟩]) (.cond (t 104) (.seq (r [m 112 7,s 113 (.idxA 6 (t 112) (i 0)),s 114 (.load 6 true (t 113)),sn (.store 6 (t 6) (t 114))]) .ret) (.seq (.dregion [⟨0,fa 116 1 5,[]⟩,⟨1,l 117 116,[]⟩,⟨2,m 118 7,[]⟩,⟨3,s 119 (.idxA 6 (t 118) (i 0)),[]⟩,⟨4,fa 120 1 119,[]⟩,⟨5,l 121 120,[]⟩,⟨6,s 122 (.bin .lss (t 117) (t 121)),[]⟩,⟨7,m 115 122,[]⟩]) (.cond (t 115) (.seq (r [fa 123 1 5,l 124 123,m 125 7,c 126 43 [(.const (.int .u8 21)),(t 124),(t 125)],sn (.store 6 (t 6) (t 126))]) .ret) .skip))))) (.seq (r [fa 127 0 5,l 128 127,s 129 (.bin .add (.const (.int .u8 22)) (t 128)),s 130 (.bin .sub (t 129) (.const (.int .u8 7))),fa 131 1 5,l 132 131,m 133 7,c 134 43 [(t 130),(t 132),(t 133)],sn (.store 6 (t 6) (t 134))]) .ret)))))):=⟨_,by simp only [QQ];rfl⟩
def A21:ak:=Gm.1
def R21:List RV:=[.cell 6 6 true]
theorem is21:Is Tryz.prog (fun _ _=>false) 21 135 A21 R21:=⟨Tryz.f21,Tryz.func21,rfl,by kernel_rfl,by kernel_rfl,Tryz.call21⟩
def Gl:CX (.seq (r [s 2 (.box (t 0)),s 4 (.move ns),s 5 (.move (i 0))]) (.seq (r [s 9 (.load 2 true (t 2)),c 10 25 [(t 9)],m 6 10]) (.seq (.seq (r [m 11 6,s 12 (.bin .eql (t 11) (i 0)),m 13 12,gt 14 13 (.move (t 1)),gt 15 13 (.bin .lss (t 14) (i 0)),gt 16 13 (.move (t 15)),gf 17 16 (.move (t 1)),fb 18 16 1 2,fl 19 16 18,gf 20 16 (.len (t 19)),gf 21 16 (.bin .geq (t 17) (t 20)),gt 22 13 (.pick (t 16) b1 (t 21)),s 23 (.pick (t 13) (t 22) b0)]) (.cond (t 23) (r [s 6 (.move (i 2))]) .skip)) (.seq (.seq (r [m 24 6,s 25 (.bin .neq (t 24) (i 0))]) (.cond (t 25) (.seq (r [m 26 6,s 4 (.move ns),m 5 26]) .ret) .skip)) (.seq (r [s 28 (.load 2 true (t 2)),m 29 1,c 30 49 [(t 28),(t 29)],m 27 30,e 31 27 0,e 32 27 1,m 7 31,m 8 32]) (.seq (r [m 33 7,m 4 33,s 5 (.move (i 0))]) .ret)))))):=⟨_,by simp only [QQ];rfl⟩
def A23:ak:=Gl.1
def R23:List RV:=[.tmp 4,.tmp 5]
theorem is23:Is Tryz.prog (fun _ _=>false) 23 34 A23 R23:=⟨Tryz.f23,Tryz.func23,rfl,by kernel_rfl,by kernel_rfl,Tryz.call23⟩
def sF:CX (.seq (.seq (r [m 7 6,fa 8 5 3,l 9 8,s 10 (.len (t 9)),s 11 (.bin .lss (t 7) (t 10))]) (.cond (t 11) .skip (.exit 0))) (.seq (.block 1 (r [m 14 5,m 15 0,fa 16 5 3,l 17 16,m 18 6,s 19 (.idxA 6 (t 17) (t 18)),s 20 (.load 6 true (t 19)),c 21 24 [(t 15),(t 20)],s 22 (.buildF [(.int .u8 0),(.int .i64 0),(.int .u64 0),(.str []),(.int .i64 0),.nilS] 1 [(0,(t 21))]),s 23 (.app 34 6 72 (t 14) (t 22)),m 5 23])) (r [m 12 6,s 13 (.bin .add (t 12) (i 1)),m 6 13]))):=⟨_,by simp only [QQ];rfl⟩
def yp:ak:=sF.1
def Gk:CX (.seq (r [s 3 (.box (t 1)),s 4 (.alloc [(.int .u8 0),(.int .i64 0),(.int .u64 0),(.str []),(.int .i64 0),.nilS])]) (.seq (r [s 5 (.move ns)]) (.seq (.seq (r [s 6 (.move (i 0))]) (.block 0 (.loop yp))) (.seq (.seq (r [fa 24 0 3,l 25 24]) (.block 2 (.seq (r [s 27 (.bin .eql (t 25) (.const (.int .u8 1))),m 26 27]) (.cond (t 26) (.seq (r [fa 28 1 3,l 29 28,fa 30 2 3,l 31 30,c 32 50 [(t 29),(t 31)],sn (.store 6 (t 4) (t 32))]) .ret) (.seq (r [s 34 (.bin .eql (t 25) (.const (.int .u8 2))),m 33 34]) (.cond (t 33) (.seq (.dregion [⟨0,m 35 0,[]⟩,⟨1,fa 36 3 3,[]⟩,⟨2,l 37 36,[]⟩,⟨4,fa 39 3 3,[]⟩,⟨5,l 40 39,[]⟩,⟨3,c 38 51 [(t 35),(t 37)],[4,5]⟩,⟨6,s 41 (.build [(.int .u8 0),(.int .i64 0),(.int .u64 0),(.str []),(.int .i64 0),.nilS] [(0,1,(.const (.int .u8 2))),(1,1,(t 38)),(3,1,(t 40))]),[]⟩,⟨7,sn (.store 6 (t 4) (t 41)),[]⟩]) .ret) (.seq (r [s 43 (.bin .eql (t 25) (.const (.int .u8 3))),m 42 43]) (.cond (t 42) (.seq (.dregion [⟨0,m 44 0,[]⟩,⟨1,s 45 (.nilck (t 44)),[]⟩,⟨2,fa 46 0 45,[]⟩,⟨3,fa 47 0 46,[]⟩,⟨4,l 48 47,[]⟩,⟨5,m 49 0,[]⟩,⟨6,s 50 (.nilck (t 49)),[]⟩,⟨7,fa 51 0 50,[]⟩,⟨8,s 52 (.load 2 true (t 51)),[]⟩,⟨9,fa 53 3 3,[]⟩,⟨10,l 54 53,[]⟩,⟨15,m 59 0,[]⟩,⟨16,fa 60 3 3,[]⟩,⟨17,l 61 60,[]⟩,⟨18,m 62 5,[]⟩,⟨19,s 63 (.idxA 6 (t 62) (i 0)),[]⟩,⟨20,s 64 (.load 6 true (t 63)),[]⟩,⟨11,c 55 53 [(t 52),(t 54)],[0,1,2,3,4,15,16,17,18,19,20]⟩,⟨12,s 56 (.idxA 3 (t 48) (t 55)),[]⟩,⟨13,fa 57 1 56,[]⟩,⟨14,l 58 57,[]⟩,⟨21,c 65 54 [(t 59),(t 61),(t 64)],[0,1,2,3,4,12,13,14]⟩,⟨22,s 66 (.buildF [(.int .u8 0),(.int .i64 0),(.int .u64 0),(.str []),(.int .i64 0),.nilS] 1 [(0,(t 65))]),[]⟩,⟨23,c 67 52 [(.const (.int .u8 24)),(t 58),(t 66)],[]⟩,⟨24,sn (.store 6 (t 4) (t 67)),[]⟩]) .ret) (.seq (r [s 69 (.bin .eql (t 25) (.const (.int .u8 4))),m 68 69]) (.cond (t 68) (.seq (.dregion [⟨0,m 70 5,[]⟩,⟨1,s 71 (.idxA 6 (t 70) (i 0)),[]⟩,⟨2,fa 72 1 71,[]⟩,⟨3,l 73 72,[]⟩,⟨4,m 74 5,[]⟩,⟨5,s 75 (.idxA 6 (t 74) (i 0)),[]⟩,⟨6,s 76 (.load 6 true (t 75)),[]⟩,⟨7,s 77 (.buildF [(.int .u8 0),(.int .i64 0),(.int .u64 0),(.str []),(.int .i64 0),.nilS] 1 [(0,(t 76))]),[]⟩,⟨8,c 78 52 [(.const (.int .u8 4)),(t 73),(t 77)],[]⟩,⟨9,sn (.store 6 (t 4) (t 78)),[]⟩]) .ret) (.seq (r [s 80 (.bin .eql (t 25) (.const (.int .u8 5))),m 79 80]) (.cond (t 79) (.seq (.dregion [⟨0,m 81 5,[]⟩,⟨1,s 82 (.idxA 6 (t 81) (i 0)),[]⟩,⟨2,fa 83 1 82,[]⟩,⟨3,l 84 83,[]⟩,⟨4,m 85 5,[]⟩,⟨5,s 86 (.idxA 6 (t 85) (i 0)),[]⟩,⟨6,s 87 (.load 6 true (t 86)),[]⟩,⟨7,s 88 (.buildF [(.int .u8 0),(.int .i64 0),(.int .u64 0),(.str []),(.int .i64 0),.nilS] 1 [(0,(t 87))]),[]⟩,⟨8,c 89 52 [(.const (.int .u8 3)),(t 84),(t 88)],[]⟩,⟨9,sn (.store 6 (t 4) (t 89)),[]⟩]) .ret) (.seq (r [s 91 (.bin .eql (t 25) (.const (.int .u8 6))),m 90 91]) (.cond (t 90) (.seq (.seq (r [fa 92 4 3,l 93 92,s 94 (.bin .geq (t 93) (.const (.int .u8 16)))]) (.cond (t 94) (.seq (.dregion [⟨0,fa 95 4 3,[]⟩,⟨1,l 96 95,[]⟩,⟨2,m 97 5,[]⟩,⟨3,s 98 (.idxA 6 (t 97) (i 0)),[]⟩,⟨4,s 99 (.load 6 true (t 98)),[]⟩,⟨5,m 100 5,[]⟩,⟨6,s 101 (.idxA 6 (t 100) (i 1)),[]⟩,⟨7,s 102 (.load 6 true (t 101)),[]⟩,⟨8,s 103 (.buildF [(.int .u8 0),(.int .i64 0),(.int .u64 0),(.str []),(.int .i64 0),.nilS] 2 [(0,(t 99)),(1,(t 102))]),[]⟩,⟨9,c 104 52 [(t 96),(i 1),(t 103)],[]⟩,⟨10,sn (.store 6 (t 4) (t 104)),[]⟩]) .ret) .skip)) (.seq (.dregion [⟨0,fa 105 4 3,[]⟩,⟨1,l 106 105,[]⟩,⟨2,m 107 5,[]⟩,⟨3,s 108 (.idxA 6 (t 107) (i 0)),[]⟩,⟨4,fa 109 1 108,[]⟩,⟨5,l 110 109,[]⟩,⟨6,m 111 5,[]⟩,⟨7,s 112 (.idxA 6 (t 111) (i 0)),[]⟩,⟨8,s 113 (.load 6 true (t 112)),[]⟩,⟨9,m 114 5,[]⟩,⟨10,s 115 (.idxA 6 (t 114) (i 1)),[]⟩,⟨11,s 116 (.load 6 true (t 115)),[]⟩,⟨12,s 117 (.buildF [(.int .u8 0),(.int .i64 0),(.int .u64 0),(.str []),(.int .i64 0),.nilS] 2 [(0,(t 113)),(1,(t 116))]),[]⟩,⟨13,c 118 52 [(t 106),(t 110),(t 117)],[]⟩,⟨14,sn (.store 6 (t 4) (t 118)),[]⟩]) .ret)) (.seq (r [s 120 (.bin .eql (t 25) (.const (.int .u8 7))),m 119 120]) (.cond (t 119) (.seq (.dregion [⟨0,m 121 5,[]⟩,⟨1,s 122 (.idxA 6 (t 121) (i 0)),[]⟩,⟨2,s 123 (.load 6 true (t 122)),[]⟩,⟨3,fa 124 1 3,[]⟩,⟨4,l 125 124,[]⟩,⟨5,c 126 55 [(t 123),(t 125),(.const (.int .u8 22))],[]⟩,⟨6,sn (.store 6 (t 4) (t 126)),[]⟩]) .ret) .skip)))))))))))))))) (.seq (.dregion [⟨0,m 127 5,[]⟩,⟨1,s 128 (.idxA 6 (t 127) (i 0)),[]⟩,⟨2,s 129 (.load 6 true (t 128)),[]⟩,⟨3,fa 130 1 3,[]⟩,⟨4,l 131 130,[]⟩,⟨5,c 132 55 [(t 129),(t 131),(.const (.int .u8 23))],[]⟩,⟨6,sn (.store 6 (t 4) (t 132)),[]⟩]) .ret))))):=⟨_,by simp only [QQ];rfl⟩
def A24:ak:=Gk.1
def R24:List RV:=[.cell 4 6 true]
theorem is24:Is Tryz.prog (fun _ _=>false) 24 133 A24 R24:=⟨Tryz.f24,Tryz.func24,rfl,by kernel_rfl,by kernel_rfl,Tryz.call24⟩
def sE:CX (.seq (.seq (r [m 16 4,fa 17 0 1,l 18 17,s 19 (.len (t 18)),s 20 (.bin .lss (t 16) (t 19))]) (.cond (t 20) .skip (.exit 0))) (.seq (.block 1 (r [m 23 3,fa 24 0 1,l 25 24,m 26 4,s 27 (.idxA 3 (t 25) (t 26)),fa 28 0 27,l 29 28,s 30 (.buildF [(.str [])] 1 [(0,(t 29))]),s 31 (.app 9 1 16 (t 23) (t 30)),m 3 31])) (r [m 21 4,s 22 (.bin .add (t 21) (i 1)),m 4 22]))):=⟨_,by simp only [QQ];rfl⟩
def yo:ak:=sE.1
def sD:CX (.seq (.seq (r [m 32 5,fa 33 1 1,l 34 33,s 35 (.len (t 34)),s 36 (.bin .lss (t 32) (t 35))]) (.cond (t 36) .skip (.exit 2))) (.seq (.block 3 (r [m 39 3,fa 40 1 1,l 41 40,m 42 5,s 43 (.idxA 4 (t 41) (t 42)),fa 44 0 43,l 45 44,s 46 (.buildF [(.str [])] 1 [(0,(t 45))]),s 47 (.app 9 1 16 (t 39) (t 46)),m 3 47])) (r [m 37 5,s 38 (.bin .add (t 37) (i 1)),m 5 38]))):=⟨_,by simp only [QQ];rfl⟩
def yn:ak:=sD.1
def py:CX (.seq (.seq (r [m 54 7,m 55 6,s 56 (.bin .lss (t 54) (t 55))]) (.cond (t 56) .skip (.exit 6))) (.seq (.block 7 (.seq (.dregion [⟨0,m 59 3,[]⟩,⟨1,m 60 7,[]⟩,⟨2,s 61 (.idxA 1 (t 59) (t 60)),[]⟩,⟨3,l 62 61,[]⟩,⟨4,m 63 3,[]⟩,⟨5,m 64 6,[]⟩,⟨6,s 65 (.idxA 1 (t 63) (t 64)),[]⟩,⟨7,l 66 65,[]⟩,⟨8,s 67 (.bin .eql (t 62) (t 66)),[]⟩]) (.cond (t 67) (.seq (r [s 2 (.move (i 18))]) .ret) .skip))) (r [m 57 7,s 58 (.bin .add (t 57) (i 1)),m 7 58]))):=⟨_,by simp only [QQ];rfl⟩
def ua:ak:=py.1
def sC:CX (.seq (.seq (r [m 48 6,m 49 3,s 50 (.len (t 49)),s 51 (.bin .lss (t 48) (t 50))]) (.cond (t 51) .skip (.exit 4))) (.seq (.block 5 (.seq (r [s 7 (.move (i 0))]) (.block 6 (.loop ua)))) (r [m 52 6,s 53 (.bin .add (t 52) (i 1)),m 6 53]))):=⟨_,by simp only [QQ];rfl⟩
def ym:ak:=sC.1
def sB:CX (.seq (.seq (r [m 68 8,fa 69 1 1,l 70 69,s 71 (.len (t 70)),s 72 (.bin .lss (t 68) (t 71))]) (.cond (t 72) .skip (.exit 8))) (.seq (.block 9 (.seq (r [s 76 (.load 2 true (t 1)),m 77 8,c 78 49 [(t 76),(t 77)],m 75 78,e 79 75 0,e 80 75 1,m 9 79,m 10 80]) (.seq (r [m 81 10,s 82 (.bin .neq (t 81) (i 0))]) (.cond (t 82) (.seq (r [m 83 10,m 2 83]) .ret) .skip)))) (r [m 73 8,s 74 (.bin .add (t 73) (i 1)),m 8 74]))):=⟨_,by simp only [QQ];rfl⟩
def yk:ak:=sB.1
def Gj:CX (.seq (r [s 1 (.box (t 0)),s 2 (.move (i 0))]) (.seq (.seq (r [s 11 (.load 2 true (t 1)),c 12 56 [(t 11)]]) (.cond (t 12) (.seq (r [s 2 (.move (i 4))]) .ret) .skip)) (.seq (.seq (r [s 13 (.load 2 true (t 1)),c 14 57 [(t 13)],s 15 (.un .not (t 14))]) (.cond (t 15) (.seq (r [s 2 (.move (i 8))]) .ret) .skip)) (.seq (r [s 3 (.move ns)]) (.seq (.seq (r [s 4 (.move (i 0))]) (.block 0 (.loop yo))) (.seq (.seq (r [s 5 (.move (i 0))]) (.block 2 (.loop yn))) (.seq (.seq (r [s 6 (.move (i 0))]) (.block 4 (.loop ym))) (.seq (.seq (r [s 8 (.move (i 0))]) (.block 8 (.loop yk))) (.seq (r [s 2 (.move (i 0))]) .ret))))))))):=⟨_,by simp only [QQ];rfl⟩
def A25:ak:=Gj.1
def R25:List RV:=[.tmp 2]
theorem is25:Is Tryz.prog (fun _ _=>false) 25 84 A25 R25:=⟨Tryz.f25,Tryz.func25,rfl,by kernel_rfl,by kernel_rfl,Tryz.call25⟩
def sA:CX (.seq (.seq (r [m 13 4,s 14 (.bin .rem (t 13) (i 4)),s 15 (.bin .neq (t 14) (i 0))]) (.cond (t 15) .skip (.exit 2))) (.block 3 (r [m 16 4,s 17 (.bin .add (t 16) (i 1)),m 4 17]))):=⟨_,by simp only [QQ];rfl⟩
def yj:ak:=sA.1
def sy:CX (.seq (.seq (r [m 6 5,fa 7 0 1,l 8 7,s 9 (.len (t 8)),s 10 (.bin .lss (t 6) (t 9))]) (.cond (t 10) .skip (.exit 0))) (.seq (.block 1 (.seq (.block 2 (.loop yj)) (.seq (r [m 18 3,m 19 4,s 20 (.buildF [(.int .i64 0)] 1 [(0,(t 19))]),s 21 (.app 3 1 8 (t 18) (t 20)),m 3 21]) (.dregion [⟨0,m 22 4,[]⟩,⟨1,fa 23 0 1,[]⟩,⟨2,l 24 23,[]⟩,⟨3,m 25 5,[]⟩,⟨4,s 26 (.idxA 3 (t 24) (t 25)),[]⟩,⟨5,fa 27 2 26,[]⟩,⟨6,l 28 27,[]⟩,⟨7,fa 29 0 1,[]⟩,⟨8,l 30 29,[]⟩,⟨9,m 31 5,[]⟩,⟨10,s 32 (.idxA 3 (t 30) (t 31)),[]⟩,⟨11,fa 33 1 32,[]⟩,⟨12,l 34 33,[]⟩,⟨13,s 35 (.bin .mul (t 28) (t 34)),[]⟩,⟨14,s 36 (.bin .quo (t 35) (i 8)),[]⟩,⟨15,s 37 (.bin .add (t 22) (t 36)),[]⟩,⟨16,m 4 37,[]⟩])))) (r [m 11 5,s 12 (.bin .add (t 11) (i 1)),m 5 12]))):=⟨_,by simp only [QQ];rfl⟩
def yi:ak:=sy.1
def Gi:CX (.seq (r [s 1 (.box (t 0)),s 2 (.move ns)]) (.seq (r [s 3 (.move ns)]) (.seq (r [s 4 (.move (i 4096))]) (.seq (.seq (r [s 5 (.move (i 0))]) (.block 0 (.loop yi))) (.seq (r [m 38 3,m 2 38]) .ret))))):=⟨_,by simp only [QQ];rfl⟩
def A26:ak:=Gi.1
def R26:List RV:=[.tmp 2]
theorem is26:Is Tryz.prog (fun _ _=>false) 26 39 A26 R26:=⟨Tryz.f26,Tryz.func26,rfl,by kernel_rfl,by kernel_rfl,Tryz.call26⟩
def sp:CX (.seq (.seq (r [m 11 5,m 12 0,s 13 (.len (t 12)),s 14 (.bin .lss (t 11) (t 13))]) (.cond (t 14) .skip (.exit 0))) (.seq (.block 1 (.seq (.dregion [⟨0,m 17 0,[]⟩,⟨1,m 18 5,[]⟩,⟨2,s 19 (.idxA 2 (t 17) (t 18)),[]⟩,⟨3,s 20 (.load 2 true (t 19)),[]⟩,⟨4,m 21 1,[]⟩,⟨5,m 22 5,[]⟩,⟨6,s 23 (.idxA 2 (t 21) (t 22)),[]⟩,⟨7,s 24 (.load 2 true (t 23)),[]⟩,⟨8,s 25 (.eqS true [.str,.int] (t 20) (t 24)),[]⟩]) (.cond (t 25) (.seq (r [s 4 (.move b0)]) .ret) .skip))) (r [m 15 5,s 16 (.bin .add (t 15) (i 1)),m 5 16]))):=⟨_,by simp only [QQ];rfl⟩
def yb:ak:=sp.1
def F8:CX (.seq (r [s 4 (.move b0)]) (.seq (.seq (r [m 6 0,s 7 (.len (t 6)),m 8 1,s 9 (.len (t 8)),s 10 (.bin .neq (t 7) (t 9))]) (.cond (t 10) (.seq (r [s 4 (.move b0)]) .ret) .skip)) (.seq (.seq (r [s 5 (.move (i 0))]) (.block 0 (.loop yb))) (.seq (r [s 4 (.move b1)]) .ret)))):=⟨_,by simp only [QQ];rfl⟩
def A34:ak:=F8.1
def R34:List RV:=[.tmp 4]
theorem is34:Is Tryz.prog (fun _ _=>false) 34 26 A34 R34:=⟨Tryz.f34,Tryz.func34,rfl,by kernel_rfl,by kernel_rfl,Tryz.call34⟩
def F6:CX (.seq (r [s 2 (.box (t 0)),s 4 (.move ns),s 5 (.move (i 0))]) (.seq (r [s 9 (.load 2 true (t 2)),c 10 40 [(t 9)],m 6 10]) (.seq (.seq (r [m 11 6,s 12 (.bin .neq (t 11) (i 0))]) (.cond (t 12) (.seq (r [m 13 6,s 4 (.move ns),m 5 13]) .ret) .skip)) (.seq (.seq (r [m 14 1,s 15 (.bin .lss (t 14) (i 0)),m 16 15,gf 17 16 (.move (t 1)),fb 18 16 1 2,fl 19 16 18,gf 20 16 (.len (t 19)),gf 21 16 (.bin .geq (t 17) (t 20)),s 22 (.pick (t 16) b1 (t 21))]) (.cond (t 22) (.seq (r [s 4 (.move ns),s 5 (.move (i 2))]) .ret) .skip)) (.seq (.dregion [⟨0,s 24 (.load 2 true (t 2)),[]⟩,⟨1,fa 25 1 2,[]⟩,⟨2,l 26 25,[]⟩,⟨3,m 27 1,[]⟩,⟨4,s 28 (.idxA 4 (t 26) (t 27)),[]⟩,⟨5,s 29 (.load 4 true (t 28)),[]⟩,⟨6,c 30 76 [(t 24),(t 29)],[]⟩,⟨7,m 23 30,[]⟩,⟨8,e 31 23 0,[]⟩,⟨9,e 32 23 1,[]⟩,⟨10,m 7 31,[]⟩,⟨11,m 8 32,[]⟩]) (.seq (r [m 33 7,m 34 8,m 4 33,m 5 34]) .ret)))))):=⟨_,by simp only [QQ];rfl⟩
def A36:ak:=F6.1
def R36:List RV:=[.tmp 4,.tmp 5]
theorem is36:Is Tryz.prog (fun _ _=>false) 36 35 A36 R36:=⟨Tryz.f36,Tryz.func36,rfl,by kernel_rfl,by kernel_rfl,Tryz.call36⟩
def F5:CX (.seq (r [s 1 (.box (t 0)),s 2 (.move b0)]) (.seq (r [s 6 (.load 6 true (t 1)),c 7 77 [(t 6)],m 5 7,e 8 5 0,e 9 5 1,m 3 8,m 4 9]) (.seq (r [m 10 3,s 11 (.bin .gtr (t 10) (i 50)),m 12 11,gf 13 12 (.move (t 4)),gf 14 12 (.bin .gtr (t 13) (i 14)),s 15 (.pick (t 12) b1 (t 14)),m 2 15]) .ret))):=⟨_,by simp only [QQ];rfl⟩
def A37:ak:=F5.1
def R37:List RV:=[.tmp 2]
theorem is37:Is Tryz.prog (fun _ _=>false) 37 16 A37 R37:=⟨Tryz.f37,Tryz.func37,rfl,by kernel_rfl,by kernel_rfl,Tryz.call37⟩
def nl:CX (.seq (r [s 1 (.box (t 0)),s 2 (.move b0)]) (.seq (r [fa 7 0 1,l 8 7,fa 9 5 1,l 10 9,s 11 (.build [(.int .u8 0),(.int .i64 0),(.int .u64 0),(.str []),(.int .u8 0),.nilS] [(0,1,(t 8)),(5,1,(t 10))]),s 3 (.alloc [(.int .u8 0),(.int .i64 0),(.int .u64 0),(.str []),(.int .u8 0),.nilS]),sn (.store 6 (t 3) (t 11))]) (.seq (r [s 4 (.move (i 0))]) (.seq (r [s 5 (.move b1)]) (.seq (.seq (r [fa 12 0 1,l 13 12]) (.block 0 (.seq (r [s 15 (.bin .eql (t 13) (.const (.int .u8 1))),m 14 15]) (.cond (t 14) (.seq (.dregion [⟨0,fa 16 1 1,[]⟩,⟨1,l 17 16,[]⟩,⟨2,fa 18 2 1,[]⟩,⟨3,l 19 18,[]⟩,⟨4,fa 20 1 3,[]⟩,⟨5,sn (.store 1 (t 20) (t 17)),[2,3]⟩,⟨6,fa 21 2 3,[]⟩,⟨7,sn (.store 1 (t 21) (t 19)),[]⟩]) (r [fa 22 1 1,l 23 22,c 24 78 [(t 23)],m 25 24,ta 26 25 1 1,tl 27 25 26,ta 28 25 2 1,tl 29 25 28,tc 30 25 79 [(t 27),(t 29)],s 31 (.pick (t 25) (t 30) b0),m 5 31])) (.seq (.seq (r [s 33 (.bin .eql (t 13) (.const (.int .u8 2))),m 32 33]) (.cond (t 32) .skip (r [s 34 (.bin .eql (t 13) (.const (.int .u8 3))),m 32 34]))) (.cond (t 32) (.seq (r [fa 35 3 1,l 36 35,fa 37 3 3,sn (.store 1 (t 37) (t 36))]) (.seq (r [fa 38 3 1,l 39 38,c 40 80 [(t 39)],m 5 40]) (r [fa 41 0 1,l 42 41,s 43 (.bin .sub (t 42) (.const (.int .u8 2))),s 44 (.conv .i64 (t 43)),m 4 44]))) (.seq (.seq (r [s 46 (.bin .eql (t 13) (.const (.int .u8 4))),m 45 46]) (.cond (t 45) .skip (r [s 47 (.bin .eql (t 13) (.const (.int .u8 5))),m 45 47]))) (.cond (t 45) (r [s 4 (.move (i 1))]) (.seq (r [s 49 (.bin .eql (t 13) (.const (.int .u8 6))),m 48 49]) (.cond (t 48) (.seq (r [fa 50 4 1,l 51 50,fa 52 4 3,sn (.store 1 (t 52) (t 51))]) (.seq (r [fa 53 4 1,l 54 53,s 55 (.bin .geq (t 54) (.const (.int .u8 5))),m 56 55,ta 57 56 4 1,tl 58 56 57,gt 59 56 (.bin .leq (t 58) (.const (.int .u8 18))),s 60 (.pick (t 56) (t 59) b0),m 5 60]) (r [s 4 (.move (i 2))]))) (.seq (.seq (r [s 62 (.bin .eql (t 13) (.const (.int .u8 7))),m 61 62]) (.cond (t 61) .skip (r [s 63 (.bin .eql (t 13) (.const (.int .u8 8))),m 61 63]))) (.cond (t 61) (.seq (r [fa 64 1 1,l 65 64,fa 66 1 3,sn (.store 1 (t 66) (t 65))]) (.seq (r [fa 67 1 1,l 68 67,c 69 78 [(t 68)],m 5 69]) (r [s 4 (.move (i 1))]))) (r [s 5 (.move b0)]))))))))))))) (.seq (r [fa 70 1 1,l 71 70,fa 72 1 3,l 73 72,s 74 (.bin .eql (t 71) (t 73)),m 75 74,ta 76 75 2 1,tl 77 75 76,ta 78 75 2 3,tl 79 75 78,gt 80 75 (.bin .eql (t 77) (t 79)),s 81 (.pick (t 75) (t 80) b0),m 82 81,ta 83 82 3 1,tl 84 82 83,ta 85 82 3 3,tl 86 82 85,gt 87 82 (.bin .eql (t 84) (t 86)),s 88 (.pick (t 82) (t 87) b0),m 89 88,ta 90 89 4 1,tl 91 89 90,ta 92 89 4 3,tl 93 89 92,gt 94 89 (.bin .eql (t 91) (t 93)),s 95 (.pick (t 89) (t 94) b0),m 6 95]) (.seq (r [m 96 5,m 97 96,gt 98 97 (.move (t 6)),s 99 (.pick (t 97) (t 98) b0),m 100 99,ta 101 100 5 1,tl 102 100 101,gt 103 100 (.len (t 102)),gt 104 100 (.move (t 4)),gt 105 100 (.bin .eql (t 103) (t 104)),s 106 (.pick (t 100) (t 105) b0),m 107 106,ta 108 107 5 1,tl 109 107 108,tc 110 107 81 [(t 109),(.func 38)],s 111 (.pick (t 107) (t 110) b0),m 2 111]) .ret))))))):=⟨_,by simp only [QQ];rfl⟩
def A38:ak:=nl.1
def R38:List RV:=[.tmp 2]
theorem oM:Is Tryz.prog (fun _ _=>false) 38 112 A38 R38:=⟨Tryz.f38,Tryz.func38,rfl,by kernel_rfl,by kernel_rfl,Tryz.call38⟩
def gM:CX (.seq (r [s 17 (.bin .lss (t 16) (t 15))]) (.seq (.cond (t 17) .skip (.exit 0)) (.seq (.block 1 (.seq (r [s 18 (.idxA 6 (t 14) (t 16)),s 19 (.load 6 true (t 18)),s 8 (.alloc [(.int .u8 0),(.int .i64 0),(.int .u64 0),(.str []),(.int .u8 0),.nilS]),sn (.store 6 (t 8) (t 19))]) (.seq (r [m 21 0,s 22 (.load 6 true (t 8)),c 23 39 [(t 21),(t 22)],m 20 23,e 24 20 0,e 25 20 1,m 9 24,m 10 25]) (.seq (.seq (r [m 26 10,s 27 (.bin .neq (t 26) (i 0))]) (.cond (t 27) (.seq (r [m 28 10,s 4 (.move (i 0)),m 5 28]) .ret) .skip)) (r [m 29 6,m 30 9,s 31 (.buildF [(.int .i64 0)] 1 [(0,(t 30))]),s 32 (.app 3 1 8 (t 29) (t 31)),m 6 32]))))) (r [s 33 (.bin .add (t 16) (i 1)),m 16 33])))):=⟨_,by simp only [QQ];rfl⟩
def jC:ak:=gM.1
def F4:CX (.seq (r [s 3 (.box (t 1)),s 4 (.move (i 0)),s 5 (.move (i 0))]) (.seq (r [s 6 (.move ns)]) (.seq (.seq (r [fa 13 5 3,l 14 13,s 15 (.len (t 14)),s 16 (.move (i 0))]) (.block 0 (.loop jC))) (.seq (.seq (r [fa 34 0 3,l 35 34]) (.block 2 (.seq (r [s 37 (.bin .eql (t 35) (.const (.int .u8 2))),m 36 37]) (.cond (t 36) (.seq (r [m 38 0,fa 39 3 3,l 40 39,c 41 82 [(t 38),(t 40)],m 11 41]) (.seq (.seq (r [m 42 11,s 43 (.bin .eql (t 42) (i 0))]) (.cond (t 43) (.seq (r [s 4 (.move (i 0)),s 5 (.move (i 16))]) .ret) .skip)) (.seq (r [m 44 11,m 4 44,s 5 (.move (i 0))]) .ret))) (.seq (r [s 46 (.bin .eql (t 35) (.const (.int .u8 3))),m 45 46]) (.cond (t 45) (.seq (.dregion [⟨0,m 47 0,[]⟩,⟨1,s 48 (.nilck (t 47)),[]⟩,⟨2,fa 49 0 48,[]⟩,⟨3,s 50 (.load 2 true (t 49)),[]⟩,⟨4,fa 51 3 3,[]⟩,⟨5,l 52 51,[]⟩,⟨6,c 53 83 [(t 50),(t 52)],[]⟩,⟨7,m 12 53,[]⟩]) (.seq (.seq (r [m 54 12,s 55 (.bin .lss (t 54) (i 0))]) (.cond (t 55) (.seq (r [s 4 (.move (i 0)),s 5 (.move (i 16))]) .ret) .skip)) (.seq (.seq (.dregion [⟨0,m 56 6,[]⟩,⟨1,s 57 (.idxA 1 (t 56) (i 0)),[]⟩,⟨2,l 58 57,[]⟩,⟨3,c 59 84 [],[0,1,2]⟩,⟨4,s 60 (.m (.look .str (.int .i64 0) false (t 59) (.const (.string ⟨#[119,111,114,100]⟩)))),[0,1,2]⟩,⟨5,s 61 (.bin .neq (t 58) (t 60)),[]⟩]) (.cond (t 61) (.seq (r [s 4 (.move (i 0)),s 5 (.move (i 14))]) .ret) .skip)) (.seq (r [m 62 0,s 63 (.nilck (t 62)),fa 64 0 63,fa 65 0 64,l 66 65,m 67 12,s 68 (.idxA 3 (t 66) (t 67)),fa 69 1 68,l 70 69,m 4 70,s 5 (.move (i 0))]) .ret)))) (.seq (.seq (r [s 72 (.bin .eql (t 35) (.const (.int .u8 4))),m 71 72]) (.cond (t 71) .skip (r [s 73 (.bin .eql (t 35) (.const (.int .u8 5))),m 71 73]))) (.cond (t 71) (.seq (r [m 74 6,s 75 (.idxA 1 (t 74) (i 0)),l 76 75,m 4 76,s 5 (.move (i 0))]) .ret) (.seq (r [s 78 (.bin .eql (t 35) (.const (.int .u8 6))),m 77 78]) (.cond (t 77) (.seq (.seq (.dregion [⟨0,m 79 6,[]⟩,⟨1,s 80 (.idxA 1 (t 79) (i 0)),[]⟩,⟨2,l 81 80,[]⟩,⟨3,m 82 6,[]⟩,⟨4,s 83 (.idxA 1 (t 82) (i 1)),[]⟩,⟨5,l 84 83,[]⟩,⟨6,s 85 (.bin .neq (t 81) (t 84)),[]⟩]) (.cond (t 85) (.seq (r [s 4 (.move (i 0)),s 5 (.move (i 14))]) .ret) .skip)) (.seq (.seq (r [fa 86 4 3,l 87 86,s 88 (.bin .geq (t 87) (.const (.int .u8 16)))]) (.cond (t 88) (.seq (r [s 4 (.move (i 1)),s 5 (.move (i 0))]) .ret) .skip)) (.seq (r [m 89 6,s 90 (.idxA 1 (t 89) (i 0)),l 91 90,m 4 91,s 5 (.move (i 0))]) .ret))) .skip)))))))))) (.seq (r [fa 92 1 3,l 93 92,m 4 93,s 5 (.move (i 0))]) .ret))))):=⟨_,by simp only [QQ];rfl⟩
def A39:ak:=F4.1
def R39:List RV:=[.tmp 4,.tmp 5]
theorem is39:Is Tryz.prog (fun _ _=>false) 39 94 A39 R39:=⟨Tryz.f39,Tryz.func39,rfl,by kernel_rfl,by kernel_rfl,Tryz.call39⟩
def sm:CX (.seq (r [s 35 (.bin .lss (t 34) (t 33))]) (.seq (.cond (t 35) .skip (.exit 0)) (.seq (.block 1 (.seq (r [s 36 (.idxA 3 (t 32) (t 34)),s 37 (.load 3 true (t 36)),s 5 (.alloc [(.str []),(.int .i64 0),(.int .i64 0)]),sn (.store 3 (t 5) (t 37))]) (r [m 38 3,fa 39 0 5,l 40 39,sn (.m (.set .str (t 38) (t 40) b1))]))) (r [s 41 (.bin .add (t 34) (i 1)),m 34 41])))):=⟨_,by simp only [QQ];rfl⟩
def x9:ak:=sm.1
def pr:CX (.seq (r [s 46 (.bin .lss (t 45) (t 44))]) (.seq (.cond (t 46) .skip (.exit 2)) (.seq (.block 3 (.seq (r [s 47 (.idxA 4 (t 43) (t 45)),s 48 (.load 4 true (t 47)),s 7 (.alloc [(.str []),.nilS,(.int .i64 0),.nilS]),sn (.store 4 (t 7) (t 48))]) (r [m 49 3,fa 50 0 7,l 51 50,sn (.m (.set .str (t 49) (t 51) b1))]))) (r [s 52 (.bin .add (t 45) (i 1)),m 45 52])))):=⟨_,by simp only [QQ];rfl⟩
def tZ:ak:=pr.1
def sk:CX (.seq (r [s 67 (.bin .lss (t 66) (t 65))]) (.seq (.cond (t 67) .skip (.exit 4)) (.seq (.block 5 (.seq (r [s 68 (.idxA 4 (t 64) (t 66)),s 69 (.load 4 true (t 68)),s 9 (.alloc [(.str []),.nilS,(.int .i64 0),.nilS]),sn (.store 4 (t 9) (t 69))]) (.seq (r [s 71 (.load 2 true (t 1)),s 72 (.load 4 true (t 9)),c 73 76 [(t 71),(t 72)],m 70 73,e 74 70 0,e 75 70 1,m 10 74,m 11 75]) (.seq (r [m 76 11,s 77 (.bin .neq (t 76) (i 0))]) (.cond (t 77) (.seq (r [m 78 11,m 2 78]) .ret) .skip))))) (r [s 79 (.bin .add (t 66) (i 1)),m 66 79])))):=⟨_,by simp only [QQ];rfl⟩
def x8:ak:=sk.1
def F3:CX (.seq (r [s 1 (.box (t 0)),s 2 (.move (i 0))]) (.seq (.seq (r [s 12 (.load 2 true (t 1)),c 13 85 [(t 12)]]) (.cond (t 13) (.seq (r [s 2 (.move (i 4))]) .ret) .skip)) (.seq (.seq (r [fa 14 1 1,l 15 14,s 16 (.len (t 15)),s 17 (.bin .eql (t 16) (i 0)),m 18 17,fb 19 18 0 1,fl 20 18 19,fc 21 18 86 [(t 20),(.func 87)],gf 22 18 (.un .not (t 21)),s 23 (.pick (t 18) b1 (t 22)),m 24 23,fb 25 24 1 1,fl 26 24 25,fc 27 24 88 [(t 26),(.func 89)],gf 28 24 (.un .not (t 27)),s 29 (.pick (t 24) b1 (t 28))]) (.cond (t 29) (.seq (r [s 2 (.move (i 8))]) .ret) .skip)) (.seq (r [s 30 (.m .mk),m 3 30]) (.seq (.seq (r [fa 31 0 1,l 32 31,s 33 (.len (t 32)),s 34 (.move (i 0))]) (.block 0 (.loop x9))) (.seq (.seq (r [fa 42 1 1,l 43 42,s 44 (.len (t 43)),s 45 (.move (i 0))]) (.block 2 (.loop tZ))) (.seq (.seq (r [m 53 3,s 54 (.m (.len (t 53))),fa 55 0 1,l 56 55,s 57 (.len (t 56)),fa 58 1 1,l 59 58,s 60 (.len (t 59)),s 61 (.bin .add (t 57) (t 60)),s 62 (.bin .lss (t 54) (t 61))]) (.cond (t 62) (.seq (r [s 2 (.move (i 18))]) .ret) .skip)) (.seq (.seq (r [fa 63 1 1,l 64 63,s 65 (.len (t 64)),s 66 (.move (i 0))]) (.block 4 (.loop x8))) (.seq (r [s 2 (.move (i 0))]) .ret))))))))):=⟨_,by simp only [QQ];rfl⟩
def A40:ak:=F3.1
def R40:List RV:=[.tmp 2]
theorem is40:Is Tryz.prog (fun _ _=>false) 40 80 A40 R40:=⟨Tryz.f40,Tryz.func40,rfl,by kernel_rfl,by kernel_rfl,Tryz.call40⟩
def F2:CX (.seq (r [s 4 (.alloc [(.int .u8 0),(.int .i64 0),(.int .u64 0),(.str []),(.int .i64 0),.nilS])]) (.seq (r [m 5 0,m 6 1,s 7 (.build [(.int .u8 0),(.int .i64 0),(.int .u64 0),(.str []),(.int .i64 0),.nilS] [(0,1,(.const (.int .u8 1))),(1,1,(t 5)),(2,1,(t 6))]),sn (.store 6 (t 4) (t 7))]) .ret)):=⟨_,by simp only [QQ];rfl⟩
def A41:ak:=F2.1
def R41:List RV:=[.cell 4 6 true]
theorem is41:Is Tryz.prog (fun _ _=>false) 41 8 A41 R41:=⟨Tryz.f41,Tryz.func41,rfl,by kernel_rfl,by kernel_rfl,Tryz.call41⟩
def F1:CX (.seq (r [s 5 (.box (t 2)),s 6 (.move (i 0))]) (.seq (r [m 7 0,s 8 (.nilck (t 7)),fa 9 3 8,l 10 9,m 11 1,s 12 (.idxA 1 (t 10) (t 11)),l 13 12,s 14 (.mkfn (.func 91) [(t 5)]),c 15 90 [(t 13),(t 14)],m 6 15]) .ret)):=⟨_,by simp only [QQ];rfl⟩
def A42:ak:=F1.1
def R42:List RV:=[.tmp 6]
theorem is42:Is Tryz.prog (fun _ _=>false) 42 16 A42 R42:=⟨Tryz.f42,Tryz.func42,rfl,by kernel_rfl,by kernel_rfl,Tryz.call42⟩
def F0:CX (.seq (r [s 6 (.alloc [(.int .u8 0),(.int .i64 0),(.int .u64 0),(.str []),(.int .i64 0),.nilS])]) (.seq (r [m 7 0,m 8 1,m 9 2,s 10 (.build [(.int .u8 0),(.int .i64 0),(.int .u64 0),(.str []),(.int .i64 0),.nilS] [(0,1,(t 7)),(1,1,(t 8)),(5,1,(t 9))]),sn (.store 6 (t 6) (t 10))]) .ret)):=⟨_,by simp only [QQ];rfl⟩
def A43:ak:=F0.1
def R43:List RV:=[.cell 6 6 true]
theorem is43:Is Tryz.prog (fun _ _=>false) 43 11 A43 R43:=⟨Tryz.f43,Tryz.func43,rfl,by kernel_rfl,by kernel_rfl,Tryz.call43⟩
def FZ:CX (.seq (r [s 3 (.box (t 1)),s 4 (.move (i 0))]) (.seq (r [m 5 0,s 6 (.nilck (t 5)),fa 7 0 6,fa 8 0 7,l 9 8,s 10 (.mkfn (.func 93) [(t 3)]),c 11 92 [(t 9),(t 10)],m 4 11]) .ret)):=⟨_,by simp only [QQ];rfl⟩
def A44:ak:=FZ.1
def R44:List RV:=[.tmp 4]
theorem is44:Is Tryz.prog (fun _ _=>false) 44 12 A44 R44:=⟨Tryz.f44,Tryz.func44,rfl,by kernel_rfl,by kernel_rfl,Tryz.call44⟩
def FY:CX (.seq (r [s 5 (.box (t 2)),s 6 (.alloc [(.int .u8 0),(.int .i64 0),(.int .u64 0),(.str []),(.int .i64 0),.nilS])]) (.seq (r [m 10 0,m 11 1,c 12 44 [(t 10),(t 11)],m 7 12]) (.seq (r [m 13 0,s 14 (.nilck (t 13)),fa 15 0 14,fa 16 0 15,l 17 16,m 18 7,s 19 (.idxA 3 (t 17) (t 18)),s 20 (.load 3 true (t 19)),s 8 (.alloc [(.str []),(.int .i64 0),(.int .i64 0)]),sn (.store 3 (t 8) (t 20))]) (.seq (.dregion [⟨0,s 21 (.load 6 true (t 5)),[]⟩,⟨1,fa 22 2 8,[]⟩,⟨2,l 23 22,[]⟩,⟨3,s 24 (.bin .sub (t 23) (i 1)),[]⟩,⟨4,s 25 (.conv .u64 (t 24)),[]⟩,⟨5,⟨(some 26),none,.callZ (.func 41) [(i 32),(t 25)]⟩,[0]⟩,⟨6,s 27 (.buildF [(.int .u8 0),(.int .i64 0),(.int .u64 0),(.str []),(.int .i64 0),.nilS] 2 [(0,(t 21)),(1,(t 26))]),[]⟩,⟨7,⟨(some 28),none,.callZ (.func 43) [(.const (.int .u8 8)),(i 32),(t 27)]⟩,[]⟩,⟨8,s 9 (.alloc [(.int .u8 0),(.int .i64 0),(.int .u64 0),(.str []),(.int .i64 0),.nilS]),[0,1,2,3,4,6]⟩,⟨9,sn (.store 6 (t 9) (t 28)),[]⟩]) (.seq (.dregion [⟨0,m 29 0,[]⟩,⟨1,s 30 (.nilck (t 29)),[]⟩,⟨2,fa 31 2 30,[]⟩,⟨3,l 32 31,[]⟩,⟨4,m 33 7,[]⟩,⟨5,s 34 (.idxA 1 (t 32) (t 33)),[]⟩,⟨6,l 35 34,[]⟩,⟨7,s 36 (.conv .u64 (t 35)),[]⟩,⟨9,s 38 (.load 6 true (t 9)),[]⟩,⟨10,fa 39 1 8,[]⟩,⟨11,l 40 39,[]⟩,⟨12,s 41 (.bin .quo (t 40) (i 16)),[]⟩,⟨13,s 42 (.conv .u64 (t 41)),[]⟩,⟨8,c 37 41 [(i 32),(t 36)],[9,10,11,12,13]⟩,⟨14,c 43 41 [(i 32),(t 42)],[9]⟩,⟨15,s 44 (.buildF [(.int .u8 0),(.int .i64 0),(.int .u64 0),(.str []),(.int .i64 0),.nilS] 2 [(0,(t 38)),(1,(t 43))]),[]⟩,⟨16,c 45 43 [(.const (.int .u8 11)),(i 32),(t 44)],[]⟩,⟨17,s 46 (.buildF [(.int .u8 0),(.int .i64 0),(.int .u64 0),(.str []),(.int .i64 0),.nilS] 2 [(0,(t 37)),(1,(t 45))]),[]⟩,⟨18,c 47 43 [(.const (.int .u8 5)),(i 32),(t 46)],[]⟩,⟨19,sn (.store 6 (t 6) (t 47)),[]⟩]) .ret))))):=⟨_,by simp only [QQ];rfl⟩
def A45:ak:=FY.1
def R45:List RV:=[.cell 6 6 true]
theorem is45:Is Tryz.prog (fun _ _=>false) 45 48 A45 R45:=⟨Tryz.f45,Tryz.func45,rfl,by kernel_rfl,by kernel_rfl,Tryz.call45⟩
def FX:CX (.seq (r [s 1 (.box (t 0)),s 2 (.move b0)]) (.seq (r [s 3 (.load 6 true (t 1)),c 4 94 [(t 3)],s 5 (.bin .gtr (t 4) (i 50)),m 6 5,gf 7 6 (.load 6 true (t 1)),fc 8 6 95 [(t 7)],gf 9 6 (.bin .gtr (t 8) (i 14)),s 10 (.pick (t 6) b1 (t 9)),m 2 10]) .ret)):=⟨_,by simp only [QQ];rfl⟩
def A46:ak:=FX.1
def R46:List RV:=[.tmp 2]
theorem is46:Is Tryz.prog (fun _ _=>false) 46 11 A46 R46:=⟨Tryz.f46,Tryz.func46,rfl,by kernel_rfl,by kernel_rfl,Tryz.call46⟩
def dp:CX (.seq (.seq (r [m 6 3,fa 7 5 1,l 8 7,s 9 (.len (t 8)),s 10 (.bin .lss (t 6) (t 9))]) (.cond (t 10) .skip (.exit 0))) (.seq (.block 1 (.seq (r [fa 13 5 1,l 14 13,m 15 3,s 16 (.idxA 6 (t 14) (t 15)),s 17 (.load 6 true (t 16)),c 18 47 [(t 17)],s 19 (.un .not (t 18))]) (.cond (t 19) (.seq (r [s 2 (.move b0)]) .ret) .skip))) (r [m 11 3,s 12 (.bin .add (t 11) (i 1)),m 3 12]))):=⟨_,by simp only [QQ];rfl⟩
def eM:ak:=dp.1
def nk:CX (.seq (r [s 1 (.box (t 0)),s 2 (.move b0)]) (.seq (.seq (r [s 3 (.move (i 0))]) (.block 0 (.loop eM))) (.seq (r [fa 20 5 1,l 21 20,s 22 (.len (t 21)),m 4 22]) (.seq (r [fa 23 1 1,l 24 23,s 25 (.bin .eql (t 24) (i 0)),m 26 25,ta 27 26 2 1,tl 28 26 27,gt 29 26 (.bin .eql (t 28) (.const (.int .u64 0))),s 30 (.pick (t 26) (t 29) b0),m 31 30,ta 32 31 4 1,tl 33 31 32,gt 34 31 (.bin .eql (t 33) (.const (.int .u8 0))),s 35 (.pick (t 31) (t 34) b0),m 5 35]) (.seq (.seq (r [fa 36 0 1,l 37 36]) (.block 2 (.seq (r [s 39 (.bin .eql (t 37) (.const (.int .u8 1))),m 38 39]) (.cond (t 38) (.seq (r [fa 40 1 1,l 41 40,c 42 96 [(t 41)],m 43 42,ta 44 43 2 1,tl 45 43 44,ta 46 43 1 1,tl 47 43 46,gt 48 43 (.conv .u64 (t 47)),gt 49 43 (.bin .shl (.const (.int .u64 1)) (t 48)),gt 50 43 (.bin .lss (t 45) (t 49)),s 51 (.pick (t 43) (t 50) b0),m 52 51,ta 53 52 3 1,tl 54 52 53,gt 55 52 (.bin .eql (t 54) (.const (.string ⟨#[]⟩))),s 56 (.pick (t 52) (t 55) b0),m 57 56,ta 58 57 4 1,tl 59 57 58,gt 60 57 (.bin .eql (t 59) (.const (.int .u8 0))),s 61 (.pick (t 57) (t 60) b0),m 62 61,gt 63 62 (.move (t 4)),gt 64 62 (.bin .eql (t 63) (i 0)),s 65 (.pick (t 62) (t 64) b0),m 2 65]) .ret) (.seq (r [s 67 (.bin .eql (t 37) (.const (.int .u8 2))),m 66 67]) (.cond (t 66) (.seq (r [m 68 5,m 69 68,ta 70 69 3 1,tl 71 69 70,tc 72 69 97 [(t 71)],s 73 (.pick (t 69) (t 72) b0),m 74 73,gt 75 74 (.move (t 4)),gt 76 74 (.bin .eql (t 75) (i 0)),s 77 (.pick (t 74) (t 76) b0),m 2 77]) .ret) (.seq (r [s 79 (.bin .eql (t 37) (.const (.int .u8 3))),m 78 79]) (.cond (t 78) (.seq (r [m 80 5,m 81 80,ta 82 81 3 1,tl 83 81 82,tc 84 81 97 [(t 83)],s 85 (.pick (t 81) (t 84) b0),m 86 85,gt 87 86 (.move (t 4)),gt 88 86 (.bin .eql (t 87) (i 1)),s 89 (.pick (t 86) (t 88) b0),m 2 89]) .ret) (.seq (.seq (r [s 91 (.bin .eql (t 37) (.const (.int .u8 4))),m 90 91]) (.cond (t 90) .skip (r [s 92 (.bin .eql (t 37) (.const (.int .u8 5))),m 90 92]))) (.cond (t 90) (.seq (r [m 93 5,m 94 93,ta 95 94 3 1,tl 96 94 95,gt 97 94 (.bin .eql (t 96) (.const (.string ⟨#[]⟩))),s 98 (.pick (t 94) (t 97) b0),m 99 98,gt 100 99 (.move (t 4)),gt 101 99 (.bin .eql (t 100) (i 1)),s 102 (.pick (t 99) (t 101) b0),m 2 102]) .ret) (.seq (r [s 104 (.bin .eql (t 37) (.const (.int .u8 6))),m 103 104]) (.cond (t 103) (.seq (r [fa 105 1 1,l 106 105,s 107 (.bin .eql (t 106) (i 0)),m 108 107,ta 109 108 2 1,tl 110 108 109,gt 111 108 (.bin .eql (t 110) (.const (.int .u64 0))),s 112 (.pick (t 108) (t 111) b0),m 113 112,ta 114 113 3 1,tl 115 113 114,gt 116 113 (.bin .eql (t 115) (.const (.string ⟨#[]⟩))),s 117 (.pick (t 113) (t 116) b0),m 118 117,ta 119 118 4 1,tl 120 118 119,tc 121 118 98 [(t 120)],gt 122 118 (.bin .neq (t 121) (.const (.string ⟨#[]⟩))),s 123 (.pick (t 118) (t 122) b0),m 124 123,gt 125 124 (.move (t 4)),gt 126 124 (.bin .eql (t 125) (i 2)),s 127 (.pick (t 124) (t 126) b0),m 2 127]) .ret) (.seq (.seq (r [s 129 (.bin .eql (t 37) (.const (.int .u8 7))),m 128 129]) (.cond (t 128) .skip (r [s 130 (.bin .eql (t 37) (.const (.int .u8 8))),m 128 130]))) (.cond (t 128) (.seq (r [fa 131 1 1,l 132 131,c 133 96 [(t 132)],m 134 133,ta 135 134 2 1,tl 136 134 135,gt 137 134 (.bin .eql (t 136) (.const (.int .u64 0))),s 138 (.pick (t 134) (t 137) b0),m 139 138,ta 140 139 4 1,tl 141 139 140,gt 142 139 (.bin .eql (t 141) (.const (.int .u8 0))),s 143 (.pick (t 139) (t 142) b0),m 144 143,ta 145 144 3 1,tl 146 144 145,gt 147 144 (.bin .eql (t 146) (.const (.string ⟨#[]⟩))),s 148 (.pick (t 144) (t 147) b0),m 149 148,gt 150 149 (.move (t 4)),gt 151 149 (.bin .eql (t 150) (i 1)),s 152 (.pick (t 149) (t 151) b0),m 2 152]) .ret) .skip)))))))))))))) (.seq (r [s 2 (.move b0)]) .ret)))))):=⟨_,by simp only [QQ];rfl⟩
def A47:ak:=nk.1
def R47:List RV:=[.tmp 2]
theorem oL:Is Tryz.prog (fun _ _=>false) 47 153 A47 R47:=⟨Tryz.f47,Tryz.func47,rfl,by kernel_rfl,by kernel_rfl,Tryz.call47⟩
def iB:CX (.seq (.seq (r [m 8 6,fa 9 5 3,l 10 9,s 11 (.len (t 10)),s 12 (.bin .lss (t 8) (t 11))]) (.cond (t 12) .skip (.exit 0))) (.seq (.block 1 (r [m 15 5,m 16 0,fa 17 5 3,l 18 17,m 19 6,s 20 (.idxA 6 (t 18) (t 19)),s 21 (.load 6 true (t 20)),c 22 48 [(t 16),(t 21)],s 23 (.buildF [(.int .i64 0)] 1 [(0,(t 22))]),s 24 (.app 3 1 8 (t 15) (t 23)),m 5 24])) (r [m 13 6,s 14 (.bin .add (t 13) (i 1)),m 6 14]))):=⟨_,by simp only [QQ];rfl⟩
def kz:ak:=iB.1
def FW:CX (.seq (r [s 3 (.box (t 1)),s 4 (.move (i 0))]) (.seq (r [s 5 (.move ns)]) (.seq (.seq (r [s 6 (.move (i 0))]) (.block 0 (.loop kz))) (.seq (.seq (r [m 25 0,s 26 (.nilck (t 25)),fa 27 4 26,l 28 27,s 29 (.bin .neq (t 28) (i 0))]) (.cond (t 29) (.seq (r [s 4 (.move (i 0))]) .ret) .skip)) (.seq (.seq (r [fa 30 0 3,l 31 30]) (.block 2 (.seq (r [s 33 (.bin .eql (t 31) (.const (.int .u8 2))),m 32 33]) (.cond (t 32) (.seq (r [m 34 0,m 35 0,fa 36 3 3,l 37 36,c 38 100 [(t 35),(t 37)],s 39 (.bin .eql (t 38) (i 0)),c 40 99 [(t 34),(t 39),(i 16)]]) (.seq (r [m 41 0,fa 42 3 3,l 43 42,c 44 100 [(t 41),(t 43)],m 4 44]) .ret)) (.seq (r [s 46 (.bin .eql (t 31) (.const (.int .u8 3))),m 45 46]) (.cond (t 45) (.seq (.dregion [⟨0,m 47 0,[]⟩,⟨1,s 48 (.nilck (t 47)),[]⟩,⟨2,fa 49 0 48,[]⟩,⟨3,s 50 (.load 2 true (t 49)),[]⟩,⟨4,fa 51 3 3,[]⟩,⟨5,l 52 51,[]⟩,⟨6,c 53 53 [(t 50),(t 52)],[]⟩,⟨7,m 7 53,[]⟩]) (.seq (.seq (r [m 54 7,s 55 (.bin .lss (t 54) (i 0))]) (.cond (t 55) (.seq (r [m 56 0,c 57 99 [(t 56),b1,(i 16)]]) (.seq (r [s 4 (.move (i 0))]) .ret)) .skip)) (.seq (r [m 58 0,m 59 5,s 60 (.idxA 1 (t 59) (i 0)),l 61 60,s 62 (.bin .neq (t 61) (i 32)),c 63 99 [(t 58),(t 62),(i 14)]]) (.seq (r [m 64 0,s 65 (.nilck (t 64)),fa 66 0 65,fa 67 0 66,l 68 67,m 69 7,s 70 (.idxA 3 (t 68) (t 69)),fa 71 1 70,l 72 71,m 4 72]) .ret)))) (.seq (.seq (r [s 74 (.bin .eql (t 31) (.const (.int .u8 4))),m 73 74]) (.cond (t 73) .skip (r [s 75 (.bin .eql (t 31) (.const (.int .u8 5))),m 73 75]))) (.cond (t 73) (.seq (r [m 76 5,s 77 (.idxA 1 (t 76) (i 0)),l 78 77,m 4 78]) .ret) (.seq (r [s 80 (.bin .eql (t 31) (.const (.int .u8 6))),m 79 80]) (.cond (t 79) (.seq (.dregion [⟨0,m 81 0,[]⟩,⟨1,m 82 5,[]⟩,⟨2,s 83 (.idxA 1 (t 82) (i 0)),[]⟩,⟨3,l 84 83,[]⟩,⟨4,m 85 5,[]⟩,⟨5,s 86 (.idxA 1 (t 85) (i 1)),[]⟩,⟨6,l 87 86,[]⟩,⟨7,s 88 (.bin .neq (t 84) (t 87)),[]⟩,⟨8,c 89 99 [(t 81),(t 88),(i 14)],[]⟩]) (.seq (.seq (r [fa 90 4 3,l 91 90,s 92 (.bin .geq (t 91) (.const (.int .u8 16)))]) (.cond (t 92) (.seq (r [s 4 (.move (i 1))]) .ret) .skip)) (.seq (r [m 93 5,s 94 (.idxA 1 (t 93) (i 0)),l 95 94,m 4 95]) .ret))) .skip)))))))))) (.seq (r [fa 96 1 3,l 97 96,m 4 97]) .ret)))))):=⟨_,by simp only [QQ];rfl⟩
def A48:ak:=FW.1
def R48:List RV:=[.tmp 4]
theorem is48:Is Tryz.prog (fun _ _=>false) 48 98 A48 R48:=⟨Tryz.f48,Tryz.func48,rfl,by kernel_rfl,by kernel_rfl,Tryz.call48⟩
def sj:CX (.seq (.seq (r [m 12 7,fa 13 1 2,l 14 13,m 15 1,s 16 (.idxA 4 (t 14) (t 15)),fa 17 1 16,l 18 17,s 19 (.len (t 18)),s 20 (.bin .lss (t 12) (t 19))]) (.cond (t 20) .skip (.exit 0))) (.seq (.block 1 (r [m 23 6,fa 24 1 2,l 25 24,m 26 1,s 27 (.idxA 4 (t 25) (t 26)),fa 28 1 27,l 29 28,m 30 7,s 31 (.idxA 2 (t 29) (t 30)),s 32 (.load 2 true (t 31)),c 33 101 [(t 23),(t 32)]])) (r [m 21 7,s 22 (.bin .add (t 21) (i 1)),m 7 22]))):=⟨_,by simp only [QQ];rfl⟩
def x7:ak:=sj.1
def FV:CX (.seq (r [s 2 (.box (t 0)),s 4 (.move ns),s 5 (.move (i 0))]) (.seq (r [s 8 (.load 2 true (t 2)),m 9 1,s 10 (.build [.nilS,.nilS,(.int .i64 0),.nilS,(.int .i64 0)] [(0,2,(t 8)),(2,1,(t 9))]),s 11 (.box (t 10)),m 6 11]) (.seq (.seq (r [s 7 (.move (i 0))]) (.block 0 (.loop x7))) (.seq (r [m 34 6,fa 35 1 2,l 36 35,m 37 1,s 38 (.idxA 4 (t 36) (t 37)),fa 39 3 38,l 40 39,c 41 102 [(t 34),(t 40),b0]]) (.seq (.dregion [⟨0,m 42 6,[]⟩,⟨1,s 43 (.nilck (t 42)),[]⟩,⟨2,fa 44 3 43,[]⟩,⟨3,l 45 44,[]⟩,⟨4,m 46 6,[]⟩,⟨5,s 47 (.nilck (t 46)),[]⟩,⟨6,fa 48 4 47,[]⟩,⟨7,l 49 48,[]⟩,⟨8,m 4 45,[]⟩,⟨9,m 5 49,[]⟩]) .ret))))):=⟨_,by simp only [QQ];rfl⟩
def A49:ak:=FV.1
def R49:List RV:=[.tmp 4,.tmp 5]
theorem is49:Is Tryz.prog (fun _ _=>false) 49 50 A49 R49:=⟨Tryz.f49,Tryz.func49,rfl,by kernel_rfl,by kernel_rfl,Tryz.call49⟩
def FU:CX (.seq (r [s 4 (.alloc [(.int .u8 0),(.int .i64 0),(.int .u64 0),(.str []),(.int .i64 0),.nilS])]) (.seq (r [m 5 0,m 6 1,s 7 (.build [(.int .u8 0),(.int .i64 0),(.int .u64 0),(.str []),(.int .i64 0),.nilS] [(0,1,(.const (.int .u8 1))),(1,1,(t 5)),(2,1,(t 6))]),sn (.store 6 (t 4) (t 7))]) .ret)):=⟨_,by simp only [QQ];rfl⟩
def A50:ak:=FU.1
def R50:List RV:=[.cell 4 6 true]
theorem is50:Is Tryz.prog (fun _ _=>false) 50 8 A50 R50:=⟨Tryz.f50,Tryz.func50,rfl,by kernel_rfl,by kernel_rfl,Tryz.call50⟩
def po:CX (.seq (.seq (r [m 6 5,m 7 0,s 8 (.nilck (t 7)),fa 9 2 8,l 10 9,s 11 (.len (t 10)),s 12 (.bin .lss (t 6) (t 11))]) (.cond (t 12) .skip (.exit 0))) (.seq (.block 1 (.seq (r [m 15 0,s 16 (.nilck (t 15)),fa 17 2 16,l 18 17,m 19 5,s 20 (.idxA 2 (t 18) (t 19)),fa 21 0 20,l 22 21,m 23 1,s 24 (.bin .eql (t 22) (t 23))]) (.cond (t 24) (.seq (r [m 25 0,s 26 (.nilck (t 25)),fa 27 2 26,l 28 27,m 29 5,s 30 (.idxA 2 (t 28) (t 29)),fa 31 1 30,l 32 31,m 4 32]) .ret) .skip))) (r [m 13 5,s 14 (.bin .add (t 13) (i 1)),m 5 14]))):=⟨_,by simp only [QQ];rfl⟩
def tY:ak:=po.1
def FT:CX (.seq (r [s 4 (.move (i 0))]) (.seq (.seq (r [s 5 (.move (i 0))]) (.block 0 (.loop tY))) (.seq (r [s 4 (.move (i 0))]) .ret))):=⟨_,by simp only [QQ];rfl⟩
def A51:ak:=FT.1
def R51:List RV:=[.tmp 4]
theorem is51:Is Tryz.prog (fun _ _=>false) 51 33 A51 R51:=⟨Tryz.f51,Tryz.func51,rfl,by kernel_rfl,by kernel_rfl,Tryz.call51⟩
def FS:CX (.seq (r [s 6 (.alloc [(.int .u8 0),(.int .i64 0),(.int .u64 0),(.str []),(.int .i64 0),.nilS])]) (.seq (r [m 7 0,m 8 1,m 9 2,s 10 (.build [(.int .u8 0),(.int .i64 0),(.int .u64 0),(.str []),(.int .i64 0),.nilS] [(0,1,(t 7)),(1,1,(t 8)),(5,1,(t 9))]),sn (.store 6 (t 6) (t 10))]) .ret)):=⟨_,by simp only [QQ];rfl⟩
def A52:ak:=FS.1
def R52:List RV:=[.cell 6 6 true]
theorem is52:Is Tryz.prog (fun _ _=>false) 52 11 A52 R52:=⟨Tryz.f52,Tryz.func52,rfl,by kernel_rfl,by kernel_rfl,Tryz.call52⟩
def pm:CX (.seq (.seq (r [m 6 5,fa 7 0 2,l 8 7,s 9 (.len (t 8)),s 10 (.bin .lss (t 6) (t 9))]) (.cond (t 10) .skip (.exit 0))) (.seq (.block 1 (.seq (r [fa 13 0 2,l 14 13,m 15 5,s 16 (.idxA 3 (t 14) (t 15)),fa 17 0 16,l 18 17,m 19 1,s 20 (.bin .eql (t 18) (t 19))]) (.cond (t 20) (.seq (r [m 21 5,m 4 21]) .ret) .skip))) (r [m 11 5,s 12 (.bin .add (t 11) (i 1)),m 5 12]))):=⟨_,by simp only [QQ];rfl⟩
def tX:ak:=pm.1
def FR:CX (.seq (r [s 2 (.box (t 0)),s 4 (.move (i 0))]) (.seq (.seq (r [s 5 (.move (i 0))]) (.block 0 (.loop tX))) (.seq (r [s 4 (.move (.const (.int .i64 (-1))))]) .ret))):=⟨_,by simp only [QQ];rfl⟩
def A53:ak:=FR.1
def R53:List RV:=[.tmp 4]
theorem is53:Is Tryz.prog (fun _ _=>false) 53 22 A53 R53:=⟨Tryz.f53,Tryz.func53,rfl,by kernel_rfl,by kernel_rfl,Tryz.call53⟩
def FQ:CX (.seq (r [s 5 (.box (t 2)),s 6 (.alloc [(.int .u8 0),(.int .i64 0),(.int .u64 0),(.str []),(.int .i64 0),.nilS])]) (.seq (r [m 11 0,s 12 (.nilck (t 11)),fa 13 0 12,s 14 (.load 2 true (t 13)),m 15 1,c 16 53 [(t 14),(t 15)],m 7 16]) (.seq (r [m 17 0,s 18 (.nilck (t 17)),fa 19 0 18,fa 20 0 19,l 21 20,m 22 7,s 23 (.idxA 3 (t 21) (t 22)),s 24 (.load 3 true (t 23)),s 8 (.alloc [(.str []),(.int .i64 0),(.int .i64 0)]),sn (.store 3 (t 8) (t 24))]) (.seq (r [s 9 (.move (.const (.int .u64 0)))]) (.seq (.seq (r [fa 25 1 8,l 26 25,s 27 (.bin .eql (t 26) (i 16))]) (.cond (t 27) (r [s 9 (.move (.const (.int .u64 1)))]) .skip)) (.seq (.seq (r [fa 28 1 8,l 29 28,s 30 (.bin .eql (t 29) (i 32))]) (.cond (t 30) (r [s 9 (.move (.const (.int .u64 2)))]) .skip)) (.seq (.dregion [⟨0,s 31 (.load 6 true (t 5)),[]⟩,⟨1,fa 32 2 8,[]⟩,⟨2,l 33 32,[]⟩,⟨3,s 34 (.bin .sub (t 33) (i 1)),[]⟩,⟨4,s 35 (.conv .u64 (t 34)),[]⟩,⟨5,⟨(some 36),none,.callZ (.func 50) [(i 32),(t 35)]⟩,[0]⟩,⟨6,s 37 (.buildF [(.int .u8 0),(.int .i64 0),(.int .u64 0),(.str []),(.int .i64 0),.nilS] 2 [(0,(t 31)),(1,(t 36))]),[]⟩,⟨7,⟨(some 38),none,.callZ (.func 52) [(.const (.int .u8 8)),(i 32),(t 37)]⟩,[]⟩,⟨8,s 10 (.alloc [(.int .u8 0),(.int .i64 0),(.int .u64 0),(.str []),(.int .i64 0),.nilS]),[0,1,2,3,4,6]⟩,⟨9,sn (.store 6 (t 10) (t 38)),[]⟩]) (.seq (.dregion [⟨0,m 39 0,[]⟩,⟨1,s 40 (.nilck (t 39)),[]⟩,⟨2,fa 41 0 40,[]⟩,⟨3,s 42 (.load 2 true (t 41)),[]⟩,⟨5,m 44 7,[]⟩,⟨10,s 49 (.load 6 true (t 10)),[]⟩,⟨11,m 50 9,[]⟩,⟨4,c 43 26 [(t 42)],[5,10,11]⟩,⟨6,s 45 (.idxA 1 (t 43) (t 44)),[]⟩,⟨7,l 46 45,[]⟩,⟨8,s 47 (.conv .u64 (t 46)),[]⟩,⟨9,c 48 50 [(i 32),(t 47)],[10,11]⟩,⟨12,c 51 50 [(i 32),(t 50)],[10]⟩,⟨13,s 52 (.buildF [(.int .u8 0),(.int .i64 0),(.int .u64 0),(.str []),(.int .i64 0),.nilS] 2 [(0,(t 49)),(1,(t 51))]),[]⟩,⟨14,c 53 52 [(.const (.int .u8 11)),(i 32),(t 52)],[]⟩,⟨15,s 54 (.buildF [(.int .u8 0),(.int .i64 0),(.int .u64 0),(.str []),(.int .i64 0),.nilS] 2 [(0,(t 48)),(1,(t 53))]),[]⟩,⟨16,c 55 52 [(.const (.int .u8 5)),(i 32),(t 54)],[]⟩,⟨17,sn (.store 6 (t 6) (t 55)),[]⟩]) .ret)))))))):=⟨_,by simp only [QQ];rfl⟩
def A54:ak:=FQ.1
def R54:List RV:=[.cell 6 6 true]
theorem is54:Is Tryz.prog (fun _ _=>false) 54 56 A54 R54:=⟨Tryz.f54,Tryz.func54,rfl,by kernel_rfl,by kernel_rfl,Tryz.call54⟩
def Ak:CX (.seq (r [s 3 (.box (t 0)),s 6 (.alloc [(.int .u8 0),(.int .i64 0),(.int .u64 0),(.str []),(.int .i64 0),.nilS])]) (.seq (.seq (r [m 7 1,fa 8 1 3,l 9 8,s 10 (.bin .gtr (t 7) (t 9))]) (.cond (t 10) (.seq (r [m 11 2,m 12 1,s 13 (.load 6 true (t 3)),s 14 (.buildF [(.int .u8 0),(.int .i64 0),(.int .u64 0),(.str []),(.int .i64 0),.nilS] 1 [(0,(t 13))]),c 15 52 [(t 11),(t 12),(t 14)],sn (.store 6 (t 6) (t 15))]) .ret) .skip)) (.seq (.seq (r [m 16 1,fa 17 1 3,l 18 17,s 19 (.bin .lss (t 16) (t 18))]) (.cond (t 19) (.seq (r [m 20 1,s 21 (.load 6 true (t 3)),s 22 (.buildF [(.int .u8 0),(.int .i64 0),(.int .u64 0),(.str []),(.int .i64 0),.nilS] 1 [(0,(t 21))]),c 23 52 [(.const (.int .u8 21)),(t 20),(t 22)],sn (.store 6 (t 6) (t 23))]) .ret) .skip)) (.seq (r [s 24 (.load 6 true (t 3)),sn (.store 6 (t 6) (t 24))]) .ret)))):=⟨_,by simp only [QQ];rfl⟩
def A55:ak:=Ak.1
def R55:List RV:=[.cell 6 6 true]
theorem is55:Is Tryz.prog (fun _ _=>false) 55 25 A55 R55:=⟨Tryz.f55,Tryz.func55,rfl,by kernel_rfl,by kernel_rfl,Tryz.call55⟩
def jd:CX (.seq (.seq (r [m 19 3,fa 20 1 1,l 21 20,s 22 (.len (t 21)),s 23 (.bin .lss (t 19) (t 22))]) (.cond (t 23) .skip (.exit 0))) (.seq (.block 1 (.seq (r [fa 26 1 1,l 27 26,m 28 3,s 29 (.idxA 4 (t 27) (t 28)),s 30 (.load 4 true (t 29)),s 4 (.alloc [(.str []),.nilS,(.int .i64 0),.nilS]),sn (.store 4 (t 4) (t 30))]) (.seq (r [fa 32 3 4,l 33 32,c 34 103 [(t 33)],m 31 34,e 35 31 0,e 36 31 1,e 37 31 2,e 38 31 3,m 5 35,m 6 36,m 7 37,m 8 38]) (.seq (r [fa 39 1 4,l 40 39,s 41 (.len (t 40)),s 42 (.bin .gtr (t 41) (i 8)),m 43 42,fb 44 43 1 4,fl 45 43 44,gf 46 43 (.len (t 45)),gf 47 43 (.move (t 6)),gf 48 43 (.bin .add (t 46) (t 47)),gf 49 43 (.bin .gtr (t 48) (i 40)),s 50 (.pick (t 43) b1 (t 49)),m 51 50,gf 52 51 (.move (t 5)),gf 53 51 (.bin .gtr (t 52) (i 100)),s 54 (.pick (t 51) b1 (t 53)),m 55 54,gf 56 55 (.move (t 7)),gf 57 55 (.bin .gtr (t 56) (i 8)),s 58 (.pick (t 55) b1 (t 57)),m 59 58,gf 60 59 (.move (t 8)),s 61 (.pick (t 59) b1 (t 60))]) (.cond (t 61) (.seq (r [s 2 (.move b1)]) .ret) .skip))))) (r [m 24 3,s 25 (.bin .add (t 24) (i 1)),m 3 25]))):=⟨_,by simp only [QQ];rfl⟩
def lC:ak:=jd.1
def Aj:CX (.seq (r [s 1 (.box (t 0)),s 2 (.move b0)]) (.seq (.seq (r [fa 9 0 1,l 10 9,s 11 (.len (t 10)),s 12 (.bin .gtr (t 11) (i 8)),m 13 12,fb 14 13 1 1,fl 15 13 14,gf 16 13 (.len (t 15)),gf 17 13 (.bin .gtr (t 16) (i 16)),s 18 (.pick (t 13) b1 (t 17))]) (.cond (t 18) (.seq (r [s 2 (.move b1)]) .ret) .skip)) (.seq (.seq (r [s 3 (.move (i 0))]) (.block 0 (.loop lC))) (.seq (r [s 2 (.move b0)]) .ret)))):=⟨_,by simp only [QQ];rfl⟩
def A56:ak:=Aj.1
def R56:List RV:=[.tmp 2]
theorem is56:Is Tryz.prog (fun _ _=>false) 56 62 A56 R56:=⟨Tryz.f56,Tryz.func56,rfl,by kernel_rfl,by kernel_rfl,Tryz.call56⟩
def iA:CX (.seq (.seq (r [m 8 3,fa 9 0 1,l 10 9,s 11 (.len (t 10)),s 12 (.bin .lss (t 8) (t 11))]) (.cond (t 12) .skip (.exit 0))) (.seq (.block 1 (.seq (r [fa 15 0 1,l 16 15,m 17 3,s 18 (.idxA 3 (t 16) (t 17)),s 19 (.load 3 true (t 18)),s 4 (.alloc [(.str []),(.int .i64 0),(.int .i64 0)]),sn (.store 3 (t 4) (t 19))]) (.seq (r [fa 20 0 4,l 21 20,c 22 97 [(t 21)],s 23 (.un .not (t 22)),m 24 23,fb 25 24 1 4,fl 26 24 25,gf 27 24 (.bin .eql (t 26) (i 1)),s 28 (.pick (t 24) b1 (t 27)),m 29 28,fb 30 29 1 4,fl 31 29 30,fc 32 29 96 [(t 31)],gf 33 29 (.un .not (t 32)),s 34 (.pick (t 29) b1 (t 33)),m 35 34,fb 36 35 2 4,fl 37 35 36,gf 38 35 (.bin .lss (t 37) (i 1)),s 39 (.pick (t 35) b1 (t 38)),m 40 39,fb 41 40 2 4,fl 42 40 41,gf 43 40 (.bin .gtr (t 42) (i 64)),s 44 (.pick (t 40) b1 (t 43)),m 45 44,fb 46 45 2 4,fl 47 45 46,fb 48 45 2 4,fl 49 45 48,gf 50 45 (.bin .sub (t 49) (i 1)),gf 51 45 (.bin .and (t 47) (t 50)),gf 52 45 (.bin .neq (t 51) (i 0)),s 53 (.pick (t 45) b1 (t 52))]) (.cond (t 53) (.seq (r [s 2 (.move b0)]) .ret) .skip)))) (r [m 13 3,s 14 (.bin .add (t 13) (i 1)),m 3 14]))):=⟨_,by simp only [QQ];rfl⟩
def kv:ak:=iA.1
def gL:CX (.seq (.seq (r [m 66 7,fa 67 1 6,l 68 67,s 69 (.len (t 68)),s 70 (.bin .lss (t 66) (t 69))]) (.cond (t 70) .skip (.exit 4))) (.seq (.block 5 (.seq (r [fa 73 1 6,l 74 73,m 75 7,s 76 (.idxA 2 (t 74) (t 75)),fa 77 0 76,l 78 77,c 79 97 [(t 78)],s 80 (.un .not (t 79)),m 81 80,fb 82 81 1 6,fl 83 81 82,gf 84 81 (.move (t 7)),gf 85 81 (.idxA 2 (t 83) (t 84)),fb 86 81 1 85,fl 87 81 86,fc 88 81 96 [(t 87)],gf 89 81 (.un .not (t 88)),s 90 (.pick (t 81) b1 (t 89))]) (.cond (t 90) (.seq (r [s 2 (.move b0)]) .ret) .skip))) (r [m 71 7,s 72 (.bin .add (t 71) (i 1)),m 7 72]))):=⟨_,by simp only [QQ];rfl⟩
def jB:ak:=gL.1
def si:CX (.seq (.seq (r [m 54 5,fa 55 1 1,l 56 55,s 57 (.len (t 56)),s 58 (.bin .lss (t 54) (t 57))]) (.cond (t 58) .skip (.exit 2))) (.seq (.block 3 (.seq (r [fa 61 1 1,l 62 61,m 63 5,s 64 (.idxA 4 (t 62) (t 63)),s 65 (.load 4 true (t 64)),s 6 (.alloc [(.str []),.nilS,(.int .i64 0),.nilS]),sn (.store 4 (t 6) (t 65))]) (.seq (.seq (r [s 7 (.move (i 0))]) (.block 4 (.loop jB))) (.seq (r [fa 91 0 6,l 92 91,c 93 97 [(t 92)],s 94 (.un .not (t 93)),m 95 94,fb 96 95 2 6,fl 97 95 96,gf 98 95 (.bin .neq (t 97) (i 0)),gf 99 95 (.move (t 98)),ta 100 99 2 6,tl 101 99 100,tc 102 99 96 [(t 101)],gt 103 99 (.un .not (t 102)),gf 104 95 (.pick (t 99) (t 103) b0),s 105 (.pick (t 95) b1 (t 104)),m 106 105,fb 107 106 3 6,fl 108 106 107,fc 109 106 104 [(t 108)],gf 110 106 (.un .not (t 109)),s 111 (.pick (t 106) b1 (t 110))]) (.cond (t 111) (.seq (r [s 2 (.move b0)]) .ret) .skip))))) (r [m 59 5,s 60 (.bin .add (t 59) (i 1)),m 5 60]))):=⟨_,by simp only [QQ];rfl⟩
def x6:ak:=si.1
def FP:CX (.seq (r [s 1 (.box (t 0)),s 2 (.move b0)]) (.seq (.seq (r [s 3 (.move (i 0))]) (.block 0 (.loop kv))) (.seq (.seq (r [s 5 (.move (i 0))]) (.block 2 (.loop x6))) (.seq (r [fa 112 1 1,l 113 112,s 114 (.len (t 113)),s 115 (.bin .gtr (t 114) (i 0)),m 2 115]) .ret)))):=⟨_,by simp only [QQ];rfl⟩
def A57:ak:=FP.1
def R57:List RV:=[.tmp 2]
theorem is57:Is Tryz.prog (fun _ _=>false) 57 116 A57 R57:=⟨Tryz.f57,Tryz.func57,rfl,by kernel_rfl,by kernel_rfl,Tryz.call57⟩
def sb:CX (.seq (r [s 19 (.bin .lss (t 18) (t 17))]) (.seq (.cond (t 19) .skip (.exit 0)) (.seq (.block 1 (.seq (r [s 20 (.idxA 2 (t 16) (t 18)),s 21 (.load 2 true (t 20)),s 8 (.alloc [(.str []),(.int .i64 0)]),sn (.store 2 (t 8) (t 21))]) (.seq (r [m 22 6,fa 23 0 8,l 24 23,fa 25 1 8,l 26 25,c 27 108 [(t 22),(t 24),(t 26)],m 9 27]) (.seq (r [m 28 9,s 29 (.bin .neq (t 28) (i 0))]) (.cond (t 29) (.seq (r [m 30 9,s 4 (.move ns),m 5 30]) .ret) .skip))))) (r [s 31 (.bin .add (t 18) (i 1)),m 18 31])))):=⟨_,by simp only [QQ];rfl⟩
def xU:ak:=sb.1
def Fz:CX (.seq (r [s 2 (.box (t 0)),s 3 (.box (t 1)),s 4 (.move ns),s 5 (.move (i 0))]) (.seq (r [s 11 (.load 2 true (t 2)),s 12 (.load 4 true (t 3)),s 13 (.build [.nilS,.nilS,(.str []),.nilS,(.int .i64 0),.nilS,.nilS] [(0,2,(t 11)),(2,4,(t 12))]),s 14 (.box (t 13)),m 6 14]) (.seq (.seq (r [fa 15 1 3,l 16 15,s 17 (.len (t 16)),s 18 (.move (i 0))]) (.block 0 (.loop xU))) (.seq (r [m 32 6,fa 33 3 3,l 34 33,c 35 109 [(t 32),(t 34),b0],m 10 35]) (.seq (r [m 36 6,s 37 (.nilck (t 36)),fa 38 6 37,l 39 38,m 40 10,m 4 39,m 5 40]) .ret))))):=⟨_,by simp only [QQ];rfl⟩
def A76:ak:=Fz.1
def R76:List RV:=[.tmp 4,.tmp 5]
theorem is76:Is Tryz.prog (fun _ _=>false) 76 41 A76 R76:=⟨Tryz.f76,Tryz.func76,rfl,by kernel_rfl,by kernel_rfl,Tryz.call76⟩
def r9:CX (.seq (r [s 12 (.bin .lss (t 11) (t 10))]) (.seq (.cond (t 12) .skip (.exit 0)) (.seq (.block 1 (.seq (r [s 13 (.idxA 6 (t 9) (t 11)),s 14 (.load 6 true (t 13)),s 5 (.alloc [(.int .u8 0),(.int .i64 0),(.int .u64 0),(.str []),(.int .u8 0),.nilS]),sn (.store 6 (t 5) (t 14))]) (.seq (r [s 16 (.load 6 true (t 5)),c 17 77 [(t 16)],m 15 17,e 18 15 0,e 19 15 1,m 6 18,m 7 19]) (r [m 20 2,m 21 6,s 22 (.bin .add (t 20) (t 21)),m 23 3,m 24 7,s 25 (.mx (t 23) (t 24)),m 2 22,m 3 25])))) (r [s 26 (.bin .add (t 11) (i 1)),m 11 26])))):=⟨_,by simp only [QQ];rfl⟩
def xT:ak:=r9.1
def Fy:CX (.seq (r [s 1 (.box (t 0)),s 2 (.move (i 0)),s 3 (.move (i 0))]) (.seq (.seq (r [fa 8 5 1,l 9 8,s 10 (.len (t 9)),s 11 (.move (i 0))]) (.block 0 (.loop xT))) (.seq (r [m 27 2,s 28 (.bin .add (t 27) (i 1)),m 29 3,s 30 (.bin .add (t 29) (i 1)),m 2 28,m 3 30]) .ret))):=⟨_,by simp only [QQ];rfl⟩
def A77:ak:=Fy.1
def R77:List RV:=[.tmp 2,.tmp 3]
theorem is77:Is Tryz.prog (fun _ _=>false) 77 31 A77 R77:=⟨Tryz.f77,Tryz.func77,rfl,by kernel_rfl,by kernel_rfl,Tryz.call77⟩
def Fx:CX (.seq (r [s 2 (.move b0)]) (.seq (r [m 3 0,c 4 110 [(t 3)],s 5 (.bin .neq (t 4) (.const (.string ⟨#[]⟩))),m 2 5]) .ret)):=⟨_,by simp only [QQ];rfl⟩
def A78:ak:=Fx.1
def R78:List RV:=[.tmp 2]
theorem is78:Is Tryz.prog (fun _ _=>false) 78 6 A78 R78:=⟨Tryz.f78,Tryz.func78,rfl,by kernel_rfl,by kernel_rfl,Tryz.call78⟩
def Fw:CX (.seq (r [s 4 (.move b0)]) (.seq (r [m 5 0,c 6 111 [(t 5)],m 7 6,gt 8 7 (.move (t 1)),gt 9 7 (.move (t 0)),tc 10 7 112 [(t 9)],gt 11 7 (.bin .leq (t 8) (t 10)),s 12 (.pick (t 7) (t 11) b0),m 4 12]) .ret)):=⟨_,by simp only [QQ];rfl⟩
def A79:ak:=Fw.1
def R79:List RV:=[.tmp 4]
theorem is79:Is Tryz.prog (fun _ _=>false) 79 13 A79 R79:=⟨Tryz.f79,Tryz.func79,rfl,by kernel_rfl,by kernel_rfl,Tryz.call79⟩
def Fv:CX (.seq (r [s 2 (.move b0)]) (.seq (r [m 3 0,c 4 113 [(t 3)],m 5 4,tc 6 5 115 [],gt 7 5 (.move (t 0)),tc 8 5 114 [(t 6),(t 7)],gt 9 5 (.un .not (t 8)),s 10 (.pick (t 5) (t 9) b0),m 2 10]) .ret)):=⟨_,by simp only [QQ];rfl⟩
def A80:ak:=Fv.1
def R80:List RV:=[.tmp 2]
theorem is80:Is Tryz.prog (fun _ _=>false) 80 11 A80 R80:=⟨Tryz.f80,Tryz.func80,rfl,by kernel_rfl,by kernel_rfl,Tryz.call80⟩
def Ft:CX (.seq (r [s 3 (.box (t 1)),s 4 (.move b0)]) (.seq (r [m 5 0,s 6 (.mkfn (.func 117) [(t 3)]),c 7 116 [(t 5),(t 6)],s 8 (.un .not (t 7)),m 4 8]) .ret)):=⟨_,by simp only [QQ];rfl⟩
def A81:ak:=Ft.1
def R81:List RV:=[.tmp 4]
theorem is81:Is Tryz.prog (fun _ _=>false) 81 9 A81 R81:=⟨Tryz.f81,Tryz.func81,rfl,by kernel_rfl,by kernel_rfl,Tryz.call81⟩
def ph:CX (.seq (r [s 13 (.bin .lss (t 12) (t 11))]) (.seq (.cond (t 13) .skip (.exit 0)) (.seq (.block 1 (.seq (r [s 14 (.idxA 2 (t 10) (t 12)),s 15 (.load 2 true (t 14)),s 6 (.alloc [(.str []),(.int .i64 0)]),sn (.store 2 (t 6) (t 15))]) (.seq (r [fa 16 0 6,l 17 16,m 18 1,s 19 (.bin .eql (t 17) (t 18))]) (.cond (t 19) (.seq (r [fa 20 1 6,l 21 20,m 4 21]) .ret) .skip)))) (r [s 22 (.bin .add (t 12) (i 1)),m 12 22])))):=⟨_,by simp only [QQ];rfl⟩
def tT:ak:=ph.1
def Fs:CX (.seq (r [s 4 (.move (i 0))]) (.seq (.seq (r [m 7 0,s 8 (.nilck (t 7)),fa 9 6 8,l 10 9,s 11 (.len (t 10)),s 12 (.move (i 0))]) (.block 0 (.loop tT))) (.seq (r [s 4 (.move (i 0))]) .ret))):=⟨_,by simp only [QQ];rfl⟩
def A82:ak:=Fs.1
def R82:List RV:=[.tmp 4]
theorem is82:Is Tryz.prog (fun _ _=>false) 82 23 A82 R82:=⟨Tryz.f82,Tryz.func82,rfl,by kernel_rfl,by kernel_rfl,Tryz.call82⟩
def Fq:CX (.seq (r [s 2 (.box (t 0)),s 3 (.box (t 1)),s 4 (.move (i 0))]) (.seq (r [fa 5 0 2,l 6 5,s 7 (.mkfn (.func 118) [(t 3)]),c 8 92 [(t 6),(t 7)],m 4 8]) .ret)):=⟨_,by simp only [QQ];rfl⟩
def A83:ak:=Fq.1
def R83:List RV:=[.tmp 4]
theorem is83:Is Tryz.prog (fun _ _=>false) 83 9 A83 R83:=⟨Tryz.f83,Tryz.func83,rfl,by kernel_rfl,by kernel_rfl,Tryz.call83⟩
def Fo:CX (.seq (r [s 0 (.move (.const (.map none)))]) (.seq (r [s 1 (.m .mk),sn (.m (.set .str (t 1) (.const (.string ⟨#[98,105,116]⟩)) (i 1))),sn (.m (.set .str (t 1) (.const (.string ⟨#[98,121,116,101]⟩)) (i 8))),sn (.m (.set .str (t 1) (.const (.string ⟨#[104,97,108,102]⟩)) (i 16))),sn (.m (.set .str (t 1) (.const (.string ⟨#[119,111,114,100]⟩)) (i 32))),m 2 1,m 0 2]) .ret)):=⟨_,by simp only [QQ];rfl⟩
def A84:ak:=Fo.1
def R84:List RV:=[.tmp 0]
theorem is84:Is Tryz.prog (fun _ _=>false) 84 3 A84 R84:=⟨Tryz.f84,Tryz.func84,rfl,by kernel_rfl,by kernel_rfl,Tryz.call84⟩
def jc:CX (.seq (r [s 20 (.bin .lss (t 19) (t 18))]) (.seq (.cond (t 20) .skip (.exit 0)) (.seq (.block 1 (.seq (r [s 21 (.idxA 4 (t 17) (t 19)),s 22 (.load 4 true (t 21)),s 4 (.alloc [(.str []),.nilS,(.int .i64 0),.nilS]),sn (.store 4 (t 4) (t 22))]) (.seq (r [s 5 (.alloc [(.int .i64 0),(.int .i64 0),(.int .i64 0),(.bool false)])]) (.seq (r [fa 23 3 4,l 24 23,c 25 119 [(t 5),(t 24),(i 1)]]) (.seq (r [fa 26 1 4,l 27 26,s 28 (.len (t 27)),s 29 (.bin .gtr (t 28) (i 8)),m 30 29,fb 31 30 1 4,fl 32 30 31,gf 33 30 (.len (t 32)),fb 34 30 1 5,fl 35 30 34,gf 36 30 (.bin .add (t 33) (t 35)),gf 37 30 (.bin .gtr (t 36) (i 40)),s 38 (.pick (t 30) b1 (t 37)),m 39 38,fb 40 39 0 5,fl 41 39 40,gf 42 39 (.bin .gtr (t 41) (i 100)),s 43 (.pick (t 39) b1 (t 42)),m 44 43,fb 45 44 2 5,fl 46 44 45,gf 47 44 (.bin .gtr (t 46) (i 8)),s 48 (.pick (t 44) b1 (t 47)),m 49 48,fb 50 49 3 5,fl 51 49 50,s 52 (.pick (t 49) b1 (t 51))]) (.cond (t 52) (.seq (r [s 2 (.move b1)]) .ret) .skip)))))) (r [s 53 (.bin .add (t 19) (i 1)),m 19 53])))):=⟨_,by simp only [QQ];rfl⟩
def lB:ak:=jc.1
def Ah:CX (.seq (r [s 1 (.box (t 0)),s 2 (.move b0)]) (.seq (.seq (r [fa 6 0 1,l 7 6,s 8 (.len (t 7)),s 9 (.bin .gtr (t 8) (i 8)),m 10 9,fb 11 10 1 1,fl 12 10 11,gf 13 10 (.len (t 12)),gf 14 10 (.bin .gtr (t 13) (i 16)),s 15 (.pick (t 10) b1 (t 14))]) (.cond (t 15) (.seq (r [s 2 (.move b1)]) .ret) .skip)) (.seq (.seq (r [fa 16 1 1,l 17 16,s 18 (.len (t 17)),s 19 (.move (i 0))]) (.block 0 (.loop lB))) (.seq (r [s 2 (.move b0)]) .ret)))):=⟨_,by simp only [QQ];rfl⟩
def A85:ak:=Ah.1
def R85:List RV:=[.tmp 2]
theorem is85:Is Tryz.prog (fun _ _=>false) 85 54 A85 R85:=⟨Tryz.f85,Tryz.func85,rfl,by kernel_rfl,by kernel_rfl,Tryz.call85⟩
def Fl:CX (.seq (r [s 3 (.box (t 1)),s 4 (.move b0)]) (.seq (r [m 5 0,s 6 (.mkfn (.func 121) [(t 3)]),c 7 120 [(t 5),(t 6)],s 8 (.un .not (t 7)),m 4 8]) .ret)):=⟨_,by simp only [QQ];rfl⟩
def A86:ak:=Fl.1
def R86:List RV:=[.tmp 4]
theorem is86:Is Tryz.prog (fun _ _=>false) 86 9 A86 R86:=⟨Tryz.f86,Tryz.func86,rfl,by kernel_rfl,by kernel_rfl,Tryz.call86⟩
def qU:CX (.seq (r [s 1 (.box (t 0)),s 2 (.move b0)]) (.seq (r [fa 3 0 1,l 4 3,c 5 80 [(t 4)],m 6 5,ta 7 6 1 1,tl 8 6 7,tc 9 6 78 [(t 8)],s 10 (.pick (t 6) (t 9) b0),m 11 10,ta 12 11 1 1,tl 13 11 12,gt 14 11 (.bin .gtr (t 13) (i 1)),s 15 (.pick (t 11) (t 14) b0),m 16 15,ta 17 16 2 1,tl 18 16 17,gt 19 16 (.bin .geq (t 18) (i 1)),s 20 (.pick (t 16) (t 19) b0),m 21 20,ta 22 21 2 1,tl 23 21 22,gt 24 21 (.bin .leq (t 23) (i 64)),s 25 (.pick (t 21) (t 24) b0),m 26 25,ta 27 26 2 1,tl 28 26 27,ta 29 26 2 1,tl 30 26 29,gt 31 26 (.bin .sub (t 30) (i 1)),gt 32 26 (.bin .and (t 28) (t 31)),gt 33 26 (.bin .eql (t 32) (i 0)),s 34 (.pick (t 26) (t 33) b0),m 2 34]) .ret)):=⟨_,by simp only [QQ];rfl⟩
def A87:ak:=qU.1
def R87:List RV:=[.tmp 2]
theorem is87:Is Tryz.prog (fun _ _=>false) 87 35 A87 R87:=⟨Tryz.f87,Tryz.func87,rfl,by kernel_rfl,by kernel_rfl,Tryz.call87⟩
def Fk:CX (.seq (r [s 3 (.box (t 1)),s 4 (.move b0)]) (.seq (r [m 5 0,s 6 (.mkfn (.func 123) [(t 3)]),c 7 122 [(t 5),(t 6)],s 8 (.un .not (t 7)),m 4 8]) .ret)):=⟨_,by simp only [QQ];rfl⟩
def A88:ak:=Fk.1
def R88:List RV:=[.tmp 4]
theorem is88:Is Tryz.prog (fun _ _=>false) 88 9 A88 R88:=⟨Tryz.f88,Tryz.func88,rfl,by kernel_rfl,by kernel_rfl,Tryz.call88⟩
def qT:CX (.seq (r [s 1 (.box (t 0)),s 2 (.move b0)]) (.seq (r [fa 4 1 1,l 5 4,c 6 124 [(t 5),(.func 125)],m 3 6]) (.seq (r [fa 7 0 1,l 8 7,c 9 80 [(t 8)],m 10 9,gt 11 10 (.move (t 3)),s 12 (.pick (t 10) (t 11) b0),m 13 12,ta 14 13 2 1,tl 15 13 14,gt 16 13 (.bin .eql (t 15) (i 0)),gt 17 13 (.move (t 16)),fb 18 17 2 1,fl 19 17 18,fc 20 17 78 [(t 19)],gt 21 13 (.pick (t 17) b1 (t 20)),s 22 (.pick (t 13) (t 21) b0),m 23 22,ta 24 23 3 1,tl 25 23 24,tc 26 23 126 [(t 25),(.func 127)],s 27 (.pick (t 23) (t 26) b0),m 2 27]) .ret))):=⟨_,by simp only [QQ];rfl⟩
def A89:ak:=qT.1
def R89:List RV:=[.tmp 2]
theorem is89:Is Tryz.prog (fun _ _=>false) 89 28 A89 R89:=⟨Tryz.f89,Tryz.func89,rfl,by kernel_rfl,by kernel_rfl,Tryz.call89⟩
def r8:CX (.seq (r [s 9 (.bin .lss (t 8) (t 7))]) (.seq (.cond (t 9) .skip (.exit 0)) (.seq (.block 1 (.seq (r [m 10 8,m 5 10]) (.seq (r [m 11 1,m 12 0,m 13 5,s 14 (.idxA 2 (t 12) (t 13)),s 15 (.load 2 true (t 14)),⟨(some 16),none,.call (t 11) [(t 15)]⟩]) (.cond (t 16) (.seq (r [m 17 5,m 4 17]) .ret) .skip)))) (r [s 18 (.bin .add (t 8) (i 1)),m 8 18])))):=⟨_,by simp only [QQ];rfl⟩
def xS:ak:=r8.1
def Fj:CX (.seq (r [s 4 (.move (i 0))]) (.seq (.seq (r [m 6 0,s 7 (.len (t 6)),s 8 (.move (i 0))]) (.block 0 (.loop xS))) (.seq (r [s 4 (.move (.const (.int .i64 (-1))))]) .ret))):=⟨_,by simp only [QQ];rfl⟩
def A90:ak:=Fj.1
def R90:List RV:=[.tmp 4]
theorem is90:Is Tryz.prog (fun _ _=>false) 90 19 A90 R90:=⟨Tryz.f90,Tryz.func90,rfl,by kernel_rfl,by kernel_rfl,Tryz.call90⟩
def Fi:CX (.seq (r [s 2 (.box (t 0)),s 3 (.move b0)]) (.seq (r [fa 4 0 2,l 5 4,l 6 1,s 7 (.bin .eql (t 5) (t 6)),m 3 7]) .ret)):=⟨_,by simp only [QQ];rfl⟩
def A91:ak:=Fi.1
def R91:List RV:=[.tmp 3]
theorem is91:Is Tryz.prog (fun _ _=>false) 91 8 A91 R91:=⟨Tryz.f91,Tryz.func91,rfl,by kernel_rfl,by kernel_rfl,Tryz.call91⟩
def r7:CX (.seq (r [s 9 (.bin .lss (t 8) (t 7))]) (.seq (.cond (t 9) .skip (.exit 0)) (.seq (.block 1 (.seq (r [m 10 8,m 5 10]) (.seq (r [m 11 1,m 12 0,m 13 5,s 14 (.idxA 3 (t 12) (t 13)),s 15 (.load 3 true (t 14)),⟨(some 16),none,.call (t 11) [(t 15)]⟩]) (.cond (t 16) (.seq (r [m 17 5,m 4 17]) .ret) .skip)))) (r [s 18 (.bin .add (t 8) (i 1)),m 8 18])))):=⟨_,by simp only [QQ];rfl⟩
def xR:ak:=r7.1
def Fh:CX (.seq (r [s 4 (.move (i 0))]) (.seq (.seq (r [m 6 0,s 7 (.len (t 6)),s 8 (.move (i 0))]) (.block 0 (.loop xR))) (.seq (r [s 4 (.move (.const (.int .i64 (-1))))]) .ret))):=⟨_,by simp only [QQ];rfl⟩
def A92:ak:=Fh.1
def R92:List RV:=[.tmp 4]
theorem is92:Is Tryz.prog (fun _ _=>false) 92 19 A92 R92:=⟨Tryz.f92,Tryz.func92,rfl,by kernel_rfl,by kernel_rfl,Tryz.call92⟩
def Fg:CX (.seq (r [s 2 (.box (t 0)),s 3 (.move b0)]) (.seq (r [fa 4 0 2,l 5 4,l 6 1,s 7 (.bin .eql (t 5) (t 6)),m 3 7]) .ret)):=⟨_,by simp only [QQ];rfl⟩
def A93:ak:=Fg.1
def R93:List RV:=[.tmp 3]
theorem is93:Is Tryz.prog (fun _ _=>false) 93 8 A93 R93:=⟨Tryz.f93,Tryz.func93,rfl,by kernel_rfl,by kernel_rfl,Tryz.call93⟩
def r6:CX (.seq (.seq (r [m 5 4,fa 6 5 1,l 7 6,s 8 (.len (t 7)),s 9 (.bin .lss (t 5) (t 8))]) (.cond (t 9) .skip (.exit 0))) (.seq (.block 1 (r [m 12 3,fa 13 5 1,l 14 13,m 15 4,s 16 (.idxA 6 (t 14) (t 15)),s 17 (.load 6 true (t 16)),c 18 94 [(t 17)],s 19 (.bin .add (t 12) (t 18)),m 3 19])) (r [m 10 4,s 11 (.bin .add (t 10) (i 1)),m 4 11]))):=⟨_,by simp only [QQ];rfl⟩
def xQ:ak:=r6.1
def Ff:CX (.seq (r [s 1 (.box (t 0)),s 2 (.move (i 0))]) (.seq (r [s 3 (.move (i 1))]) (.seq (.seq (r [s 4 (.move (i 0))]) (.block 0 (.loop xQ))) (.seq (r [m 20 3,m 2 20]) .ret)))):=⟨_,by simp only [QQ];rfl⟩
def A94:ak:=Ff.1
def R94:List RV:=[.tmp 2]
theorem is94:Is Tryz.prog (fun _ _=>false) 94 21 A94 R94:=⟨Tryz.f94,Tryz.func94,rfl,by kernel_rfl,by kernel_rfl,Tryz.call94⟩
def r5:CX (.seq (.seq (r [m 5 4,fa 6 5 1,l 7 6,s 8 (.len (t 7)),s 9 (.bin .lss (t 5) (t 8))]) (.cond (t 9) .skip (.exit 0))) (.seq (.block 1 (r [m 12 3,fa 13 5 1,l 14 13,m 15 4,s 16 (.idxA 6 (t 14) (t 15)),s 17 (.load 6 true (t 16)),c 18 95 [(t 17)],s 19 (.mx (t 12) (t 18)),m 3 19])) (r [m 10 4,s 11 (.bin .add (t 10) (i 1)),m 4 11]))):=⟨_,by simp only [QQ];rfl⟩
def xP:ak:=r5.1
def Fe:CX (.seq (r [s 1 (.box (t 0)),s 2 (.move (i 0))]) (.seq (r [s 3 (.move (i 0))]) (.seq (.seq (r [s 4 (.move (i 0))]) (.block 0 (.loop xP))) (.seq (r [m 20 3,s 21 (.bin .add (t 20) (i 1)),m 2 21]) .ret)))):=⟨_,by simp only [QQ];rfl⟩
def A95:ak:=Fe.1
def R95:List RV:=[.tmp 2]
theorem is95:Is Tryz.prog (fun _ _=>false) 95 22 A95 R95:=⟨Tryz.f95,Tryz.func95,rfl,by kernel_rfl,by kernel_rfl,Tryz.call95⟩
def xO:CX (.seq (r [s 2 (.move b0)]) (.seq (r [m 3 0,s 4 (.bin .eql (t 3) (i 1)),m 5 4,gf 6 5 (.move (t 0)),gf 7 5 (.bin .eql (t 6) (i 8)),s 8 (.pick (t 5) b1 (t 7)),m 9 8,gf 10 9 (.move (t 0)),gf 11 9 (.bin .eql (t 10) (i 16)),s 12 (.pick (t 9) b1 (t 11)),m 13 12,gf 14 13 (.move (t 0)),gf 15 13 (.bin .eql (t 14) (i 32)),s 16 (.pick (t 13) b1 (t 15)),m 2 16]) .ret)):=⟨_,by simp only [QQ];rfl⟩
def A96:ak:=xO.1
def R96:List RV:=[.tmp 2]
theorem is96:Is Tryz.prog (fun _ _=>false) 96 17 A96 R96:=⟨Tryz.f96,Tryz.func96,rfl,by kernel_rfl,by kernel_rfl,Tryz.call96⟩
def Fd:CX (.seq (r [s 2 (.move b0)]) (.seq (r [m 3 0,c 4 128 [(t 3)],m 5 4,gt 6 5 (.move (t 0)),tc 7 5 129 [(t 6)],gt 8 5 (.un .not (t 7)),s 9 (.pick (t 5) (t 8) b0),m 2 9]) .ret)):=⟨_,by simp only [QQ];rfl⟩
def A97:ak:=Fd.1
def R97:List RV:=[.tmp 2]
theorem is97:Is Tryz.prog (fun _ _=>false) 97 10 A97 R97:=⟨Tryz.f97,Tryz.func97,rfl,by kernel_rfl,by kernel_rfl,Tryz.call97⟩
def ju:CX (.seq (r [s 2 (.move (.const (.string ⟨#[]⟩)))]) (.seq (.seq (r [m 3 0]) (.block 0 (.seq (r [s 5 (.bin .eql (t 3) (.const (.int .u8 5))),m 4 5]) (.cond (t 4) (.seq (r [s 2 (.move (.const (.string ⟨#[43]⟩)))]) .ret) (.seq (r [s 7 (.bin .eql (t 3) (.const (.int .u8 6))),m 6 7]) (.cond (t 6) (.seq (r [s 2 (.move (.const (.string ⟨#[45]⟩)))]) .ret) (.seq (r [s 9 (.bin .eql (t 3) (.const (.int .u8 7))),m 8 9]) (.cond (t 8) (.seq (r [s 2 (.move (.const (.string ⟨#[42]⟩)))]) .ret) (.seq (r [s 11 (.bin .eql (t 3) (.const (.int .u8 8))),m 10 11]) (.cond (t 10) (.seq (r [s 2 (.move (.const (.string ⟨#[38]⟩)))]) .ret) (.seq (r [s 13 (.bin .eql (t 3) (.const (.int .u8 9))),m 12 13]) (.cond (t 12) (.seq (r [s 2 (.move (.const (.string ⟨#[124]⟩)))]) .ret) (.seq (r [s 15 (.bin .eql (t 3) (.const (.int .u8 10))),m 14 15]) (.cond (t 14) (.seq (r [s 2 (.move (.const (.string ⟨#[94]⟩)))]) .ret) (.seq (r [s 17 (.bin .eql (t 3) (.const (.int .u8 11))),m 16 17]) (.cond (t 16) (.seq (r [s 2 (.move (.const (.string ⟨#[60,60]⟩)))]) .ret) (.seq (r [s 19 (.bin .eql (t 3) (.const (.int .u8 12))),m 18 19]) (.cond (t 18) (.seq (r [s 2 (.move (.const (.string ⟨#[62,62]⟩)))]) .ret) (.seq (r [s 21 (.bin .eql (t 3) (.const (.int .u8 13))),m 20 21]) (.cond (t 20) (.seq (r [s 2 (.move (.const (.string ⟨#[126,62]⟩)))]) .ret) (.seq (r [s 23 (.bin .eql (t 3) (.const (.int .u8 14))),m 22 23]) (.cond (t 22) (.seq (r [s 2 (.move (.const (.string ⟨#[47]⟩)))]) .ret) (.seq (r [s 25 (.bin .eql (t 3) (.const (.int .u8 15))),m 24 25]) (.cond (t 24) (.seq (r [s 2 (.move (.const (.string ⟨#[37]⟩)))]) .ret) (.seq (r [s 27 (.bin .eql (t 3) (.const (.int .u8 16))),m 26 27]) (.cond (t 26) (.seq (r [s 2 (.move (.const (.string ⟨#[61,61]⟩)))]) .ret) (.seq (r [s 29 (.bin .eql (t 3) (.const (.int .u8 17))),m 28 29]) (.cond (t 28) (.seq (r [s 2 (.move (.const (.string ⟨#[60]⟩)))]) .ret) (.seq (r [s 31 (.bin .eql (t 3) (.const (.int .u8 18))),m 30 31]) (.cond (t 30) (.seq (r [s 2 (.move (.const (.string ⟨#[60,126]⟩)))]) .ret) .skip)))))))))))))))))))))))))))))) (.seq (r [s 2 (.move (.const (.string ⟨#[]⟩)))]) .ret))):=⟨_,by simp only [QQ];rfl⟩
def A98:ak:=ju.1
def R98:List RV:=[.tmp 2]
theorem is98:Is Tryz.prog (fun _ _=>false) 98 32 A98 R98:=⟨Tryz.f98,Tryz.func98,rfl,by kernel_rfl,by kernel_rfl,Tryz.call98⟩
def Ag:CX (.seq (r [m 6 1,m 7 6,gt 8 7 (.move (t 0)),gt 9 7 (.nilck (t 8)),ta 10 7 4 9,tl 11 7 10,gt 12 7 (.bin .eql (t 11) (i 0)),s 13 (.pick (t 7) (t 12) b0)]) (.cond (t 13) (r [m 14 0,m 15 2,s 16 (.nilck (t 14)),fa 17 4 16,sn (.store 1 (t 17) (t 15))]) .skip)):=⟨_,by simp only [QQ];rfl⟩
def A99:ak:=Ag.1
def R99:List RV:=[]
theorem is99:Is Tryz.prog (fun _ _=>false) 99 18 A99 R99:=⟨Tryz.f99,Tryz.func99,rfl,by kernel_rfl,by kernel_rfl,Tryz.call99⟩
def ma:CX (.seq (.seq (r [m 6 5,m 7 0,s 8 (.nilck (t 7)),fa 9 3 8,l 10 9,s 11 (.len (t 10)),s 12 (.bin .lss (t 6) (t 11))]) (.cond (t 12) .skip (.exit 0))) (.seq (.block 1 (.seq (r [m 15 0,s 16 (.nilck (t 15)),fa 17 3 16,l 18 17,m 19 5,s 20 (.idxA 2 (t 18) (t 19)),fa 21 0 20,l 22 21,m 23 1,s 24 (.bin .eql (t 22) (t 23))]) (.cond (t 24) (.seq (r [m 25 0,s 26 (.nilck (t 25)),fa 27 3 26,l 28 27,m 29 5,s 30 (.idxA 2 (t 28) (t 29)),fa 31 1 30,l 32 31,m 4 32]) .ret) .skip))) (r [m 13 5,s 14 (.bin .add (t 13) (i 1)),m 5 14]))):=⟨_,by simp only [QQ];rfl⟩
def pT:ak:=ma.1
def Bt:CX (.seq (r [s 4 (.move (i 0))]) (.seq (.seq (r [s 5 (.move (i 0))]) (.block 0 (.loop pT))) (.seq (r [s 4 (.move (i 0))]) .ret))):=⟨_,by simp only [QQ];rfl⟩
def G5:ak:=Bt.1
def CJ:List RV:=[.tmp 4]
theorem Ep:Is Tryz.prog (fun _ _=>false) 100 33 G5 CJ:=⟨Tryz.f100,Tryz.func100,rfl,by kernel_rfl,by kernel_rfl,Tryz.call100⟩
def uj:CX (.seq (r [s 3 (.box (t 1))]) (.seq (.dregion [⟨0,m 4 0,[]⟩,⟨1,m 5 0,[]⟩,⟨2,fa 6 0 3,[]⟩,⟨3,l 7 6,[]⟩,⟨4,c 8 100 [(t 5),(t 7)],[0]⟩,⟨5,s 9 (.bin .gtr (t 8) (i 0)),[]⟩,⟨6,m 10 9,[]⟩,⟨7,gf 11 10 (.move (t 0)),[]⟩,⟨8,gf 12 10 (.nilck (t 11)),[]⟩,⟨9,fb 13 10 0 12,[]⟩,⟨10,gf 14 10 (.load 2 true (t 13)),[]⟩,⟨11,fb 15 10 0 3,[]⟩,⟨12,fl 16 10 15,[]⟩,⟨13,fc 17 10 53 [(t 14),(t 16)],[0]⟩,⟨14,gf 18 10 (.bin .geq (t 17) (i 0)),[]⟩,⟨15,s 19 (.pick (t 10) b1 (t 18)),[]⟩,⟨16,c 20 99 [(t 4),(t 19),(i 18)],[]⟩]) (.dregion [⟨0,m 21 0,[]⟩,⟨1,m 22 0,[]⟩,⟨2,s 23 (.nilck (t 22)),[]⟩,⟨3,fa 24 3 23,[]⟩,⟨4,l 25 24,[]⟩,⟨5,s 26 (.load 2 true (t 3)),[]⟩,⟨6,s 27 (.buildF [(.str []),(.int .i64 0)] 1 [(0,(t 26))]),[]⟩,⟨7,s 28 (.app 64 2 24 (t 25) (t 27)),[0]⟩,⟨8,s 29 (.nilck (t 21)),[]⟩,⟨9,fa 30 3 29,[]⟩,⟨10,sn (.store 1 (t 30) (t 28)),[]⟩]))):=⟨_,by simp only [QQ];rfl⟩
def Ap:ak:=uj.1
def zY:List RV:=[]
theorem Eo:Is Tryz.prog (fun _ _=>false) 101 31 Ap zY:=⟨Tryz.f101,Tryz.func101,rfl,by kernel_rfl,by kernel_rfl,Tryz.call101⟩
def l7:CX (.seq (.seq (r [m 7 6,m 8 1,s 9 (.len (t 8)),s 10 (.bin .lss (t 7) (t 9)),m 11 10,gt 12 11 (.move (t 0)),gt 13 11 (.nilck (t 12)),ta 14 11 4 13,tl 15 11 14,gt 16 11 (.bin .eql (t 15) (i 0)),s 17 (.pick (t 11) (t 16) b0)]) (.cond (t 17) .skip (.exit 0))) (.seq (.block 1 (r [m 20 0,m 21 1,m 22 6,s 23 (.idxA 7 (t 21) (t 22)),s 24 (.load 7 true (t 23)),m 25 2,c 26 130 [(t 20),(t 24),(t 25)]])) (r [m 18 6,s 19 (.bin .add (t 18) (i 1)),m 6 19]))):=⟨_,by simp only [QQ];rfl⟩
def pS:ak:=l7.1
def Bs:CX (.seq (r [s 6 (.move (i 0))]) (.block 0 (.loop pS))):=⟨_,by simp only [QQ];rfl⟩
def G4:ak:=Bs.1
def CI:List RV:=[]
theorem En:Is Tryz.prog (fun _ _=>false) 102 27 G4 CI:=⟨Tryz.f102,Tryz.func102,rfl,by kernel_rfl,by kernel_rfl,Tryz.call102⟩
def jq:CX (.seq (.seq (r [m 32 7,m 33 0,m 34 6,s 35 (.idxA 7 (t 33) (t 34)),fa 36 4 35,l 37 36,s 38 (.len (t 37)),s 39 (.bin .lss (t 32) (t 38))]) (.cond (t 39) .skip (.exit 2))) (.seq (.block 3 (r [m 42 5,m 43 42,gf 44 43 (.move (t 0)),gf 45 43 (.move (t 6)),gf 46 43 (.idxA 7 (t 44) (t 45)),fb 47 43 4 46,fl 48 43 47,gf 49 43 (.move (t 7)),gf 50 43 (.idxA 6 (t 48) (t 49)),gf 51 43 (.load 6 true (t 50)),fc 52 43 46 [(t 51)],s 53 (.pick (t 43) b1 (t 52)),m 5 53])) (r [m 40 7,s 41 (.bin .add (t 40) (i 1)),m 7 41]))):=⟨_,by simp only [QQ];rfl⟩
def kU:ak:=jq.1
def l6:CX (.seq (.seq (r [m 16 6,m 17 0,s 18 (.len (t 17)),s 19 (.bin .lss (t 16) (t 18))]) (.cond (t 19) .skip (.exit 0))) (.seq (.block 1 (.seq (r [m 22 2,s 23 (.bin .add (t 22) (i 1)),m 2 23]) (.seq (.seq (r [m 24 0,m 25 6,s 26 (.idxA 7 (t 24) (t 25)),fa 27 0 26,l 28 27,s 29 (.bin .eql (t 28) (.const (.int .u8 1)))]) (.cond (t 29) (r [m 30 3,s 31 (.bin .add (t 30) (i 1)),m 3 31]) .skip)) (.seq (.seq (r [s 7 (.move (i 0))]) (.block 2 (.loop kU))) (.seq (r [m 55 0,m 56 6,s 57 (.idxA 7 (t 55) (t 56)),fa 58 5 57,l 59 58,c 60 103 [(t 59)],m 54 60,e 61 54 0,e 62 54 1,e 63 54 2,e 64 54 3,m 8 61,m 9 62,m 10 63,m 11 64]) (.seq (r [m 66 0,m 67 6,s 68 (.idxA 7 (t 66) (t 67)),fa 69 6 68,l 70 69,c 71 103 [(t 70)],m 65 71,e 72 65 0,e 73 65 1,e 74 65 2,e 75 65 3,m 12 72,m 13 73,m 14 74,m 15 75]) (.seq (r [m 76 2,m 77 8,m 78 12,s 79 (.bin .add (t 77) (t 78)),s 80 (.bin .add (t 76) (t 79)),m 2 80]) (.seq (r [m 81 3,m 82 9,m 83 13,s 84 (.bin .add (t 82) (t 83)),s 85 (.bin .add (t 81) (t 84)),m 3 85]) (.seq (r [m 86 4,m 87 10,s 88 (.bin .add (i 1) (t 87)),m 89 14,s 90 (.bin .add (i 1) (t 89)),s 91 (.m (.mx3 (t 86) (t 88) (t 90))),m 4 91]) (r [m 92 5,m 93 92,gf 94 93 (.move (t 11)),s 95 (.pick (t 93) b1 (t 94)),m 96 95,gf 97 96 (.move (t 15)),s 98 (.pick (t 96) b1 (t 97)),m 5 98])))))))))) (r [m 20 6,s 21 (.bin .add (t 20) (i 1)),m 6 21]))):=⟨_,by simp only [QQ];rfl⟩
def pR:ak:=l6.1
def yM:CX (.seq (r [s 2 (.move (i 0)),s 3 (.move (i 0)),s 4 (.move (i 0)),s 5 (.move b0)]) (.seq (.seq (r [s 6 (.move (i 0))]) (.block 0 (.loop pR))) (.seq (r [m 99 2,m 100 3,m 101 4,m 102 5,m 2 99,m 3 100,m 4 101,m 5 102]) .ret))):=⟨_,by simp only [QQ];rfl⟩
def C3:ak:=yM.1
def CH:List RV:=[.tmp 2,.tmp 3,.tmp 4,.tmp 5]
theorem AA:Is Tryz.prog (fun _ _=>false) 103 103 C3 CH:=⟨Tryz.f103,Tryz.func103,rfl,by kernel_rfl,by kernel_rfl,Tryz.call103⟩
def pQ:CX (.seq (.seq (r [m 4 3,m 5 0,s 6 (.len (t 5)),s 7 (.bin .lss (t 4) (t 6))]) (.cond (t 7) .skip (.exit 0))) (.seq (.block 1 (.seq (r [m 10 0,m 11 3,s 12 (.idxA 7 (t 10) (t 11)),s 13 (.load 7 true (t 12)),c 14 131 [(t 13)],s 15 (.un .not (t 14))]) (.cond (t 15) (.seq (r [s 2 (.move b0)]) .ret) .skip))) (r [m 8 3,s 9 (.bin .add (t 8) (i 1)),m 3 9]))):=⟨_,by simp only [QQ];rfl⟩
def sZ:ak:=pQ.1
def Br:CX (.seq (r [s 2 (.move b0)]) (.seq (.seq (r [s 3 (.move (i 0))]) (.block 0 (.loop sZ))) (.seq (r [s 2 (.move b1)]) .ret))):=⟨_,by simp only [QQ];rfl⟩
def G3:ak:=Br.1
def CG:List RV:=[.tmp 2]
theorem Em:Is Tryz.prog (fun _ _=>false) 104 16 G3 CG:=⟨Tryz.f104,Tryz.func104,rfl,by kernel_rfl,by kernel_rfl,Tryz.call104⟩
def ui:CX (.seq (r [s 6 (.move (i 0))]) (.seq (.seq (r [m 7 0,m 8 1,c 9 82 [(t 7),(t 8)],s 10 (.bin .gtr (t 9) (i 0)),m 11 10,gf 12 11 (.move (t 0)),gf 13 11 (.nilck (t 12)),fb 14 11 0 13,gf 15 11 (.load 2 true (t 14)),gf 16 11 (.move (t 1)),fc 17 11 83 [(t 15),(t 16)],gf 18 11 (.bin .geq (t 17) (i 0)),s 19 (.pick (t 11) b1 (t 18))]) (.cond (t 19) (.seq (r [s 6 (.move (i 18))]) .ret) .skip)) (.seq (r [m 20 0,m 21 0,s 22 (.nilck (t 21)),fa 23 6 22,l 24 23,m 25 1,m 26 2,s 27 (.build [(.str []),(.int .i64 0)] [(0,1,(t 25)),(1,1,(t 26))]),s 28 (.buildF [(.str []),(.int .i64 0)] 1 [(0,(t 27))]),s 29 (.app 64 2 24 (t 24) (t 28)),s 30 (.nilck (t 20)),fa 31 6 30,sn (.store 1 (t 31) (t 29))]) (.seq (r [s 6 (.move (i 0))]) .ret)))):=⟨_,by simp only [QQ];rfl⟩
def Ao:ak:=ui.1
def zX:List RV:=[.tmp 6]
theorem Ei:Is Tryz.prog (fun _ _=>false) 108 32 Ao zX:=⟨Tryz.f108,Tryz.func108,rfl,by kernel_rfl,by kernel_rfl,Tryz.call108⟩
def pO:CX (.seq (r [s 25 (.bin .lss (t 24) (t 23))]) (.seq (.cond (t 25) .skip (.exit 2)) (.seq (.block 3 (.seq (r [s 26 (.idxA 6 (t 22) (t 24)),s 27 (.load 6 true (t 26)),s 11 (.alloc [(.int .u8 0),(.int .i64 0),(.int .u64 0),(.str []),(.int .u8 0),.nilS]),sn (.store 6 (t 11) (t 27))]) (.seq (r [m 29 0,s 30 (.load 6 true (t 11)),c 31 39 [(t 29),(t 30)],m 28 31,e 32 28 0,e 33 28 1,m 12 32,m 13 33]) (.seq (.seq (r [m 34 13,s 35 (.bin .neq (t 34) (i 0))]) (.cond (t 35) (.seq (r [m 36 13,m 6 36]) .ret) .skip)) (r [m 37 9,m 38 12,s 39 (.buildF [(.int .i64 0)] 1 [(0,(t 38))]),s 40 (.app 3 1 8 (t 37) (t 39)),m 9 40]))))) (r [s 41 (.bin .add (t 24) (i 1)),m 24 41])))):=⟨_,by simp only [QQ];rfl⟩
def sX:ak:=pO.1
def l0:CX (.seq (r [s 18 (.bin .lss (t 17) (t 16))]) (.seq (.cond (t 18) .skip (.exit 0)) (.seq (.block 1 (.seq (r [s 19 (.idxA 7 (t 15) (t 17)),s 20 (.load 7 true (t 19)),s 8 (.alloc [(.int .u8 0),(.str []),(.str []),(.int .i64 0),.nilS,.nilS,.nilS]),sn (.store 7 (t 8) (t 20))]) (.seq (r [s 9 (.move ns)]) (.seq (.seq (r [fa 21 4 8,l 22 21,s 23 (.len (t 22)),s 24 (.move (i 0))]) (.block 2 (.loop sX))) (.seq (r [m 42 0,s 43 (.load 7 true (t 8)),m 44 9,m 45 2,c 46 134 [(t 42),(t 43),(t 44),(t 45)],m 14 46]) (.seq (.seq (r [m 47 14,s 48 (.bin .eql (t 47) (i 0))]) (.cond (t 48) (r [m 49 0,fa 50 5 8,l 51 50,m 52 2,m 53 52,fb 54 53 0 8,fl 55 53 54,gf 56 53 (.bin .eql (t 55) (.const (.int .u8 5))),s 57 (.pick (t 53) b1 (t 56)),c 58 109 [(t 49),(t 51),(t 57)],m 14 58]) .skip)) (.seq (.seq (r [m 59 14,s 60 (.bin .eql (t 59) (i 0))]) (.cond (t 60) (r [m 61 0,fa 62 6 8,l 63 62,m 64 2,c 65 109 [(t 61),(t 63),(t 64)],m 14 65]) .skip)) (.seq (r [m 66 14,s 67 (.bin .neq (t 66) (i 0))]) (.cond (t 67) (.seq (r [m 68 14,m 6 68]) .ret) .skip))))))))) (r [s 69 (.bin .add (t 17) (i 1)),m 17 69])))):=⟨_,by simp only [QQ];rfl⟩
def pN:ak:=l0.1
def yL:CX (.seq (r [s 6 (.move (i 0))]) (.seq (.seq (r [m 15 1,s 16 (.len (t 15)),s 17 (.move (i 0))]) (.block 0 (.loop pN))) (.seq (r [s 6 (.move (i 0))]) .ret))):=⟨_,by simp only [QQ];rfl⟩
def C2:ak:=yL.1
def pf:List RV:=[.tmp 6]
theorem Az:Is Tryz.prog (fun _ _=>false) 109 70 C2 pf:=⟨Tryz.f109,Tryz.func109,rfl,by kernel_rfl,by kernel_rfl,Tryz.call109⟩
def uh:CX (.seq (r [⟨(some 7),none,.call (t 6) [(.const (.tuple #[]))]⟩,e 8 7 0]) (.seq (.cond (t 8) .skip (.exit 0)) (.block 1 (.seq (r [s 9 (.m (.ent (t 6))),e 10 9 0,e 11 9 1,m 3 10,m 4 11]) (.seq (r [m 12 4,m 13 0,s 14 (.bin .eql (t 12) (t 13))]) (.cond (t 14) (.seq (r [m 15 3,m 2 15]) .ret) .skip)))))):=⟨_,by simp only [QQ];rfl⟩
def yK:ak:=uh.1
def Bn:CX (.seq (r [s 2 (.move (.const (.string ⟨#[]⟩)))]) (.seq (.seq (r [c 5 84 [],s 6 (.m (.rng (t 5)))]) (.block 0 (.loop yK))) (.seq (r [s 2 (.move (.const (.string ⟨#[]⟩)))]) .ret))):=⟨_,by simp only [QQ];rfl⟩
def GY:ak:=Bn.1
def CF:List RV:=[.tmp 2]
theorem Eh:Is Tryz.prog (fun _ _=>false) 110 16 GY CF:=⟨Tryz.f110,Tryz.func110,rfl,by kernel_rfl,by kernel_rfl,Tryz.call110⟩
def yJ:CX (.seq (r [s 2 (.move b0)]) (.seq (r [m 3 0,s 4 (.bin .geq (t 3) (i 1)),m 5 4,gt 6 5 (.move (t 0)),gt 7 5 (.bin .leq (t 6) (i 64)),s 8 (.pick (t 5) (t 7) b0),m 2 8]) .ret)):=⟨_,by simp only [QQ];rfl⟩
def C1:ak:=yJ.1
def CE:List RV:=[.tmp 2]
theorem Eg:Is Tryz.prog (fun _ _=>false) 111 9 C1 CE:=⟨Tryz.f111,Tryz.func111,rfl,by kernel_rfl,by kernel_rfl,Tryz.call111⟩
def Bm:CX (.seq (r [s 2 (.move (.const (.int .u64 0)))]) (.seq (.seq (r [m 3 0,c 4 111 [(t 3)],s 5 (.un .not (t 4))]) (.cond (t 5) (.seq (r [s 2 (.move (.const (.int .u64 0)))]) .ret) .skip)) (.seq (r [m 6 0,s 7 (.bin .sub (i 64) (t 6)),s 8 (.bin .shr (.const (.int .u64 18446744073709551615)) (t 7)),m 2 8]) .ret))):=⟨_,by simp only [QQ];rfl⟩
def GX:ak:=Bm.1
def CD:List RV:=[.tmp 2]
theorem Ef:Is Tryz.prog (fun _ _=>false) 112 9 GX CD:=⟨Tryz.f112,Tryz.func112,rfl,by kernel_rfl,by kernel_rfl,Tryz.call112⟩
def lZ:CX (.seq (r [s 17 (.bin .lss (t 16) (t 15))]) (.seq (.cond (t 17) .skip (.exit 0)) (.seq (.block 1 (.seq (r [m 18 16,m 3 18]) (.seq (r [m 19 0,m 20 3,s 21 (.idxs (t 19) (t 20)),m 4 21]) (.seq (r [m 22 4,s 23 (.bin .geq (t 22) (.const (.int .u8 97))),m 24 23,gt 25 24 (.move (t 4)),gt 26 24 (.bin .leq (t 25) (.const (.int .u8 122))),s 27 (.pick (t 24) (t 26) b0),m 28 27,gf 29 28 (.move (t 4)),gf 30 28 (.bin .geq (t 29) (.const (.int .u8 65))),gf 31 28 (.move (t 30)),gt 32 31 (.move (t 4)),gt 33 31 (.bin .leq (t 32) (.const (.int .u8 90))),gf 34 28 (.pick (t 31) (t 33) b0),s 35 (.pick (t 28) b1 (t 34)),m 5 35]) (.seq (r [m 36 5,s 37 (.un .not (t 36)),m 38 37,gt 39 38 (.move (t 3)),gt 40 38 (.bin .eql (t 39) (i 0)),gt 41 38 (.move (t 40)),gf 42 41 (.move (t 4)),gf 43 41 (.bin .neq (t 42) (.const (.int .u8 95))),gf 44 41 (.move (t 43)),gt 45 44 (.move (t 4)),gt 46 44 (.bin .lss (t 45) (.const (.int .u8 48))),gt 47 44 (.move (t 46)),gf 48 47 (.move (t 4)),gf 49 47 (.bin .gtr (t 48) (.const (.int .u8 57))),gt 50 44 (.pick (t 47) b1 (t 49)),gf 51 41 (.pick (t 44) (t 50) b0),gt 52 38 (.pick (t 41) b1 (t 51)),s 53 (.pick (t 38) (t 52) b0)]) (.cond (t 53) (.seq (r [s 2 (.move b0)]) .ret) .skip)))))) (r [s 54 (.bin .add (t 16) (i 1)),m 16 54])))):=⟨_,by simp only [QQ];rfl⟩
def pM:ak:=lZ.1
def ug:CX (.seq (r [s 2 (.move b0)]) (.seq (.seq (r [m 6 0,s 7 (.lens (t 6)),s 8 (.bin .lss (t 7) (i 1)),m 9 8,gf 10 9 (.move (t 0)),gf 11 9 (.lens (t 10)),gf 12 9 (.bin .gtr (t 11) (i 24)),s 13 (.pick (t 9) b1 (t 12))]) (.cond (t 13) (.seq (r [s 2 (.move b0)]) .ret) .skip)) (.seq (.seq (r [m 14 0,s 15 (.lens (t 14)),s 16 (.move (i 0))]) (.block 0 (.loop pM))) (.seq (r [s 2 (.move b1)]) .ret)))):=⟨_,by simp only [QQ];rfl⟩
def An:ak:=ug.1
def xH:List RV:=[.tmp 2]
theorem Ee:Is Tryz.prog (fun _ _=>false) 113 55 An xH:=⟨Tryz.f113,Tryz.func113,rfl,by kernel_rfl,by kernel_rfl,Tryz.call113⟩
def Bl:CX (.seq (r [s 4 (.move b0)]) (.seq (r [m 5 0,m 6 1,c 7 135 [(t 5),(t 6)],s 8 (.bin .geq (t 7) (i 0)),m 4 8]) .ret)):=⟨_,by simp only [QQ];rfl⟩
def GW:ak:=Bl.1
def E9:List RV:=[.tmp 4]
theorem Ed:Is Tryz.prog (fun _ _=>false) 114 9 GW E9:=⟨Tryz.f114,Tryz.func114,rfl,by kernel_rfl,by kernel_rfl,Tryz.call114⟩
def Bj:CX (.seq (r [s 0 (.move ns)]) (.seq (r [s 1 (.buildF [(.str [])] 14 [(0,(.const (.string ⟨#[97,114,114,97,121]⟩))),(1,(.const (.string ⟨#[102,117,110,99]⟩))),(2,(.const (.string ⟨#[118,97,114]⟩))),(3,(.const (.string ⟨#[105,102]⟩))),(4,(.const (.string ⟨#[101,108,115,101]⟩))),(5,(.const (.string ⟨#[119,104,105,108,101]⟩))),(6,(.const (.string ⟨#[98,114,101,97,107]⟩))),(7,(.const (.string ⟨#[116,101,108,108]⟩))),(8,(.const (.string ⟨#[114,101,116,117,114,110]⟩))),(9,(.const (.string ⟨#[115,105,103,110,101,100]⟩))),(10,(.const (.string ⟨#[98,105,116]⟩))),(11,(.const (.string ⟨#[98,121,116,101]⟩))),(12,(.const (.string ⟨#[104,97,108,102]⟩))),(13,(.const (.string ⟨#[119,111,114,100]⟩)))]),m 0 1]) .ret)):=⟨_,by simp only [QQ];rfl⟩
def GV:ak:=Bj.1
def E8:List RV:=[.tmp 0]
theorem Ec:Is Tryz.prog (fun _ _=>false) 115 2 GV E8:=⟨Tryz.f115,Tryz.func115,rfl,by kernel_rfl,by kernel_rfl,Tryz.call115⟩
def Bi:CX (.seq (r [s 4 (.move b0)]) (.seq (r [m 5 0,m 6 1,c 7 136 [(t 5),(t 6)],s 8 (.bin .geq (t 7) (i 0)),m 4 8]) .ret)):=⟨_,by simp only [QQ];rfl⟩
def GU:ak:=Bi.1
def E7:List RV:=[.tmp 4]
theorem Eb:Is Tryz.prog (fun _ _=>false) 116 9 GU E7:=⟨Tryz.f116,Tryz.func116,rfl,by kernel_rfl,by kernel_rfl,Tryz.call116⟩
def Bh:CX (.seq (r [s 2 (.box (t 0)),s 3 (.move b0)]) (.seq (r [l 4 1,s 5 (.load 6 true (t 2)),⟨(some 6),none,.call (t 4) [(t 5)]⟩,s 7 (.un .not (t 6)),m 3 7]) .ret)):=⟨_,by simp only [QQ];rfl⟩
def GT:ak:=Bh.1
def E6:List RV:=[.tmp 3]
theorem Ea:Is Tryz.prog (fun _ _=>false) 117 8 GT E6:=⟨Tryz.f117,Tryz.func117,rfl,by kernel_rfl,by kernel_rfl,Tryz.call117⟩
def Bg:CX (.seq (r [s 2 (.box (t 0)),s 3 (.move b0)]) (.seq (r [fa 4 0 2,l 5 4,l 6 1,s 7 (.bin .eql (t 5) (t 6)),m 3 7]) .ret)):=⟨_,by simp only [QQ];rfl⟩
def GS:ak:=Bg.1
def E5:List RV:=[.tmp 3]
theorem D9:Is Tryz.prog (fun _ _=>false) 118 8 GS E5:=⟨Tryz.f118,Tryz.func118,rfl,by kernel_rfl,by kernel_rfl,Tryz.call118⟩
def kA:CX (.seq (r [s 11 (.bin .lss (t 10) (t 9))]) (.seq (.cond (t 11) .skip (.exit 0)) (.seq (.block 1 (.seq (r [s 12 (.idxA 7 (t 8) (t 10)),s 13 (.load 7 true (t 12)),s 7 (.alloc [(.int .u8 0),(.str []),(.str []),(.int .i64 0),.nilS,.nilS,.nilS]),sn (.store 7 (t 7) (t 13))]) (.seq (r [m 14 0,s 15 (.nilck (t 14)),fa 16 0 15,l 17 16,s 18 (.bin .add (t 17) (i 1)),s 19 (.nilck (t 14)),fa 20 0 19,sn (.store 1 (t 20) (t 18))]) (.seq (r [m 21 0,m 22 0,s 23 (.nilck (t 22)),fa 24 2 23,l 25 24,m 26 2,s 27 (.mx (t 25) (t 26)),s 28 (.nilck (t 21)),fa 29 2 28,sn (.store 1 (t 29) (t 27))]) (.seq (.seq (r [fa 30 0 7,l 31 30,s 32 (.bin .eql (t 31) (.const (.int .u8 1)))]) (.cond (t 32) (r [m 33 0,s 34 (.nilck (t 33)),fa 35 1 34,l 36 35,s 37 (.bin .add (t 36) (i 1)),s 38 (.nilck (t 33)),fa 39 1 38,sn (.store 1 (t 39) (t 37))]) .skip)) (.seq (r [m 40 0,m 41 0,s 42 (.nilck (t 41)),fa 43 3 42,l 44 43,m 45 44,fb 46 45 4 7,fl 47 45 46,fc 48 45 116 [(t 47),(.func 37)],s 49 (.pick (t 45) b1 (t 48)),s 50 (.nilck (t 40)),fa 51 3 50,sn (.store 1 (t 51) (t 49))]) (.seq (r [m 52 0,fa 53 5 7,l 54 53,m 55 2,s 56 (.bin .add (t 55) (i 1)),c 57 119 [(t 52),(t 54),(t 56)]]) (r [m 58 0,fa 59 6 7,l 60 59,m 61 2,s 62 (.bin .add (t 61) (i 1)),c 63 119 [(t 58),(t 60),(t 62)]])))))))) (r [s 64 (.bin .add (t 10) (i 1)),m 10 64])))):=⟨_,by simp only [QQ];rfl⟩
def m5:ak:=kA.1
def yI:CX (.seq (r [m 8 1,s 9 (.len (t 8)),s 10 (.move (i 0))]) (.block 0 (.loop m5))):=⟨_,by simp only [QQ];rfl⟩
def C0:ak:=yI.1
def CC:List RV:=[]
theorem Ay:Is Tryz.prog (fun _ _=>false) 119 65 C0 CC:=⟨Tryz.f119,Tryz.func119,rfl,by kernel_rfl,by kernel_rfl,Tryz.call119⟩
def Bf:CX (.seq (r [s 4 (.move b0)]) (.seq (r [m 5 0,m 6 1,c 7 92 [(t 5),(t 6)],s 8 (.bin .geq (t 7) (i 0)),m 4 8]) .ret)):=⟨_,by simp only [QQ];rfl⟩
def GQ:ak:=Bf.1
def E4:List RV:=[.tmp 4]
theorem D8:Is Tryz.prog (fun _ _=>false) 120 9 GQ E4:=⟨Tryz.f120,Tryz.func120,rfl,by kernel_rfl,by kernel_rfl,Tryz.call120⟩
def Bd:CX (.seq (r [s 2 (.box (t 0)),s 3 (.move b0)]) (.seq (r [l 4 1,s 5 (.load 3 true (t 2)),⟨(some 6),none,.call (t 4) [(t 5)]⟩,s 7 (.un .not (t 6)),m 3 7]) .ret)):=⟨_,by simp only [QQ];rfl⟩
def GP:ak:=Bd.1
def E3:List RV:=[.tmp 3]
theorem D7:Is Tryz.prog (fun _ _=>false) 121 8 GP E3:=⟨Tryz.f121,Tryz.func121,rfl,by kernel_rfl,by kernel_rfl,Tryz.call121⟩
def Bc:CX (.seq (r [s 4 (.move b0)]) (.seq (r [m 5 0,m 6 1,c 7 137 [(t 5),(t 6)],s 8 (.bin .geq (t 7) (i 0)),m 4 8]) .ret)):=⟨_,by simp only [QQ];rfl⟩
def GO:ak:=Bc.1
def E2:List RV:=[.tmp 4]
theorem D6:Is Tryz.prog (fun _ _=>false) 122 9 GO E2:=⟨Tryz.f122,Tryz.func122,rfl,by kernel_rfl,by kernel_rfl,Tryz.call122⟩
def Bb:CX (.seq (r [s 2 (.box (t 0)),s 3 (.move b0)]) (.seq (r [l 4 1,s 5 (.load 4 true (t 2)),⟨(some 6),none,.call (t 4) [(t 5)]⟩,s 7 (.un .not (t 6)),m 3 7]) .ret)):=⟨_,by simp only [QQ];rfl⟩
def GN:ak:=Bb.1
def E1:List RV:=[.tmp 3]
theorem D5:Is Tryz.prog (fun _ _=>false) 123 8 GN E1:=⟨Tryz.f123,Tryz.func123,rfl,by kernel_rfl,by kernel_rfl,Tryz.call123⟩
def Ba:CX (.seq (r [s 3 (.box (t 1)),s 4 (.move b0)]) (.seq (r [m 5 0,s 6 (.mkfn (.func 139) [(t 3)]),c 7 138 [(t 5),(t 6)],s 8 (.un .not (t 7)),m 4 8]) .ret)):=⟨_,by simp only [QQ];rfl⟩
def GM:ak:=Ba.1
def E0:List RV:=[.tmp 4]
theorem D4:Is Tryz.prog (fun _ _=>false) 124 9 GM E0:=⟨Tryz.f124,Tryz.func124,rfl,by kernel_rfl,by kernel_rfl,Tryz.call124⟩
def uf:CX (.seq (r [s 1 (.box (t 0)),s 2 (.move b0)]) (.seq (r [fa 3 0 1,l 4 3,c 5 80 [(t 4)],m 6 5,ta 7 6 1 1,tl 8 6 7,tc 9 6 78 [(t 8)],s 10 (.pick (t 6) (t 9) b0),m 2 10]) .ret)):=⟨_,by simp only [QQ];rfl⟩
def Am:ak:=uf.1
def zW:List RV:=[.tmp 2]
theorem D3:Is Tryz.prog (fun _ _=>false) 125 11 Am zW:=⟨Tryz.f125,Tryz.func125,rfl,by kernel_rfl,by kernel_rfl,Tryz.call125⟩
def A9:CX (.seq (r [s 3 (.box (t 1)),s 4 (.move b0)]) (.seq (r [m 5 0,s 6 (.mkfn (.func 141) [(t 3)]),c 7 140 [(t 5),(t 6)],s 8 (.un .not (t 7)),m 4 8]) .ret)):=⟨_,by simp only [QQ];rfl⟩
def GK:ak:=A9.1
def EZ:List RV:=[.tmp 4]
theorem D2:Is Tryz.prog (fun _ _=>false) 126 9 GK EZ:=⟨Tryz.f126,Tryz.func126,rfl,by kernel_rfl,by kernel_rfl,Tryz.call126⟩
def jf:CX (.seq (r [s 1 (.box (t 0)),s 2 (.move b0)]) (.seq (r [s 3 (.move b0),s 4 (.move (i 1))]) (.seq (.seq (r [fa 7 0 1,l 8 7]) (.block 0 (.seq (.seq (r [s 10 (.bin .eql (t 8) (.const (.int .u8 1))),m 9 10]) (.cond (t 9) .skip (r [s 11 (.bin .eql (t 8) (.const (.int .u8 2))),m 9 11]))) (.cond (t 9) (r [s 3 (.move b1)]) (.seq (r [s 13 (.bin .eql (t 8) (.const (.int .u8 3))),m 12 13]) (.cond (t 12) (r [s 3 (.move b1),s 4 (.move (i 2))]) (.seq (.seq (r [s 15 (.bin .eql (t 8) (.const (.int .u8 4))),m 14 15]) (.cond (t 14) .skip (.seq (r [s 16 (.bin .eql (t 8) (.const (.int .u8 5))),m 14 16]) (.cond (t 14) .skip (r [s 17 (.bin .eql (t 8) (.const (.int .u8 7))),m 14 17]))))) (.cond (t 14) .skip (.seq (r [s 19 (.bin .eql (t 8) (.const (.int .u8 6))),m 18 19]) (.cond (t 18) (r [s 4 (.move (i 0))]) (.seq (r [s 21 (.bin .eql (t 8) (.const (.int .u8 8))),m 20 21]) (.cond (t 20) (r [fa 22 4 1,l 23 22,s 24 (.len (t 23)),s 25 (.mn (t 24) (i 1)),m 4 25]) (.seq (r [s 27 (.bin .eql (t 8) (.const (.int .u8 9))),m 26 27]) (.cond (t 26) (.dregion [⟨0,fa 28 1 1,[]⟩,⟨1,l 29 28,[]⟩,⟨2,s 30 (.bin .neq (t 29) (.const (.string ⟨#[]⟩))),[]⟩,⟨3,fa 31 4 1,[]⟩,⟨4,l 32 31,[]⟩,⟨5,s 33 (.len (t 32)),[]⟩,⟨6,m 3 30,[]⟩,⟨7,m 4 33,[]⟩]) (.seq (r [s 2 (.move b0)]) .ret))))))))))))))) (.seq (.dregion [⟨0,fa 34 0 1,[]⟩,⟨1,l 35 34,[]⟩,⟨2,s 36 (.bin .eql (t 35) (.const (.int .u8 4))),[]⟩,⟨3,m 37 36,[]⟩,⟨4,fb 38 37 0 1,[]⟩,⟨5,fl 39 37 38,[]⟩,⟨6,gf 40 37 (.bin .eql (t 39) (.const (.int .u8 5))),[]⟩,⟨7,s 41 (.pick (t 37) b1 (t 40)),[]⟩,⟨8,fa 42 0 1,[]⟩,⟨9,l 43 42,[]⟩,⟨10,s 44 (.bin .eql (t 43) (.const (.int .u8 4))),[]⟩,⟨11,m 5 41,[]⟩,⟨12,m 6 44,[]⟩]) (.seq (.seq (r [m 45 3,m 46 45,ta 47 46 1 1,tl 48 46 47,tc 49 46 80 [(t 48)],gt 50 46 (.un .not (t 49)),s 51 (.pick (t 46) (t 50) b0),m 52 51,gf 53 52 (.move (t 3)),gf 54 52 (.un .not (t 53)),gf 55 52 (.move (t 54)),ta 56 55 1 1,tl 57 55 56,gt 58 55 (.bin .neq (t 57) (.const (.string ⟨#[]⟩))),gf 59 52 (.pick (t 55) (t 58) b0),s 60 (.pick (t 52) b1 (t 59)),m 61 60,fb 62 61 4 1,fl 63 61 62,gf 64 61 (.len (t 63)),gf 65 61 (.move (t 4)),gf 66 61 (.bin .neq (t 64) (t 65)),s 67 (.pick (t 61) b1 (t 66)),m 68 67,gf 69 68 (.move (t 5)),gf 70 68 (.un .not (t 69)),gf 71 68 (.move (t 70)),ta 72 71 5 1,tl 73 71 72,gt 74 71 (.len (t 73)),gt 75 71 (.bin .gtr (t 74) (i 0)),gf 76 68 (.pick (t 71) (t 75) b0),s 77 (.pick (t 68) b1 (t 76)),m 78 77,gf 79 78 (.move (t 6)),gf 80 78 (.un .not (t 79)),gf 81 78 (.move (t 80)),ta 82 81 6 1,tl 83 81 82,gt 84 81 (.len (t 83)),gt 85 81 (.bin .gtr (t 84) (i 0)),gf 86 78 (.pick (t 81) (t 85) b0),s 87 (.pick (t 78) b1 (t 86))]) (.cond (t 87) (.seq (r [s 2 (.move b0)]) .ret) .skip)) (.seq (.seq (r [fa 88 0 1,l 89 88,s 90 (.bin .eql (t 89) (.const (.int .u8 9))),m 91 90,ta 92 91 2 1,tl 93 91 92,tc 94 91 80 [(t 93)],gt 95 91 (.un .not (t 94)),s 96 (.pick (t 91) (t 95) b0),m 97 96,fb 98 97 0 1,fl 99 97 98,gf 100 97 (.bin .neq (t 99) (.const (.int .u8 9))),gf 101 97 (.move (t 100)),ta 102 101 2 1,tl 103 101 102,gt 104 101 (.bin .neq (t 103) (.const (.string ⟨#[]⟩))),gf 105 97 (.pick (t 101) (t 104) b0),s 106 (.pick (t 97) b1 (t 105))]) (.cond (t 106) (.seq (r [s 2 (.move b0)]) .ret) .skip)) (.seq (.seq (r [fa 107 0 1,l 108 107,s 109 (.bin .eql (t 108) (.const (.int .u8 1))),m 110 109,ta 111 110 3 1,tl 112 110 111,tc 113 110 78 [(t 112)],gt 114 110 (.un .not (t 113)),s 115 (.pick (t 110) (t 114) b0),m 116 115,fb 117 116 0 1,fl 118 116 117,gf 119 116 (.bin .neq (t 118) (.const (.int .u8 1))),gf 120 116 (.move (t 119)),ta 121 120 3 1,tl 122 120 121,gt 123 120 (.bin .neq (t 122) (i 0)),gf 124 116 (.pick (t 120) (t 123) b0),s 125 (.pick (t 116) b1 (t 124))]) (.cond (t 125) (.seq (r [s 2 (.move b0)]) .ret) .skip)) (.seq (r [fa 126 4 1,l 127 126,c 128 81 [(t 127),(.func 38)],m 129 128,ta 130 129 5 1,tl 131 129 130,tc 132 129 126 [(t 131),(.func 127)],s 133 (.pick (t 129) (t 132) b0),m 134 133,ta 135 134 6 1,tl 136 134 135,tc 137 134 126 [(t 136),(.func 127)],s 138 (.pick (t 134) (t 137) b0),m 2 138]) .ret)))))))):=⟨_,by simp only [QQ];rfl⟩
def m4:ak:=jf.1
def gJ:List RV:=[.tmp 2]
theorem jz:Is Tryz.prog (fun _ _=>false) 127 139 m4 gJ:=⟨Tryz.f127,Tryz.func127,rfl,by kernel_rfl,by kernel_rfl,Tryz.call127⟩
def lY:CX (.seq (.seq (r [m 15 3,m 16 0,s 17 (.lens (t 16)),s 18 (.bin .lss (t 15) (t 17))]) (.cond (t 18) .skip (.exit 0))) (.seq (.block 1 (.seq (r [m 21 0,m 22 3,s 23 (.idxs (t 21) (t 22)),m 4 23]) (.seq (r [m 24 4,s 25 (.bin .geq (t 24) (.const (.int .u8 97))),m 26 25,gt 27 26 (.move (t 4)),gt 28 26 (.bin .leq (t 27) (.const (.int .u8 122))),s 29 (.pick (t 26) (t 28) b0),m 30 29,gf 31 30 (.move (t 4)),gf 32 30 (.bin .geq (t 31) (.const (.int .u8 65))),gf 33 30 (.move (t 32)),gt 34 33 (.move (t 4)),gt 35 33 (.bin .leq (t 34) (.const (.int .u8 90))),gf 36 30 (.pick (t 33) (t 35) b0),s 37 (.pick (t 30) b1 (t 36)),m 5 37]) (.seq (r [m 38 4,s 39 (.bin .geq (t 38) (.const (.int .u8 48))),m 40 39,gt 41 40 (.move (t 4)),gt 42 40 (.bin .leq (t 41) (.const (.int .u8 57))),s 43 (.pick (t 40) (t 42) b0),m 44 43,gf 45 44 (.move (t 4)),gf 46 44 (.bin .eql (t 45) (.const (.int .u8 95))),s 47 (.pick (t 44) b1 (t 46)),m 6 47]) (.seq (r [m 48 5,s 49 (.un .not (t 48)),m 50 49,gt 51 50 (.move (t 3)),gt 52 50 (.bin .eql (t 51) (i 0)),gt 53 50 (.move (t 52)),gf 54 53 (.move (t 6)),gf 55 53 (.un .not (t 54)),gt 56 50 (.pick (t 53) b1 (t 55)),s 57 (.pick (t 50) (t 56) b0)]) (.cond (t 57) (.seq (r [s 2 (.move b0)]) .ret) .skip)))))) (r [m 19 3,s 20 (.bin .add (t 19) (i 1)),m 3 20]))):=⟨_,by simp only [QQ];rfl⟩
def pL:ak:=lY.1
def ue:CX (.seq (r [s 2 (.move b0)]) (.seq (.seq (r [m 7 0,s 8 (.lens (t 7)),s 9 (.bin .eql (t 8) (i 0)),m 10 9,gf 11 10 (.move (t 0)),gf 12 10 (.lens (t 11)),gf 13 10 (.bin .gtr (t 12) (i 24)),s 14 (.pick (t 10) b1 (t 13))]) (.cond (t 14) (.seq (r [s 2 (.move b0)]) .ret) .skip)) (.seq (.seq (r [s 3 (.move (i 0))]) (.block 0 (.loop pL))) (.seq (r [s 2 (.move b1)]) .ret)))):=⟨_,by simp only [QQ];rfl⟩
def Al:ak:=ue.1
def xG:List RV:=[.tmp 2]
theorem D1:Is Tryz.prog (fun _ _=>false) 128 58 Al xG:=⟨Tryz.f128,Tryz.func128,rfl,by kernel_rfl,by kernel_rfl,Tryz.call128⟩
def lX:CX (.seq (.seq (r [m 4 3,s 5 (.m (.glb (.lst 1 [[(.str [97,114,114,97,121])],[(.str [102,117,110,99])],[(.str [118,97,114])],[(.str [105,102])],[(.str [101,108,115,101])],[(.str [119,104,105,108,101])],[(.str [98,114,101,97,107])],[(.str [116,101,108,108])],[(.str [114,101,116,117,114,110])],[(.str [115,105,103,110,101,100])],[(.str [98,105,116])],[(.str [98,121,116,101])],[(.str [104,97,108,102])],[(.str [119,111,114,100])]]))),s 6 (.len (t 5)),s 7 (.bin .lss (t 4) (t 6))]) (.cond (t 7) .skip (.exit 0))) (.seq (.block 1 (.seq (r [s 10 (.m (.glb (.lst 1 [[(.str [97,114,114,97,121])],[(.str [102,117,110,99])],[(.str [118,97,114])],[(.str [105,102])],[(.str [101,108,115,101])],[(.str [119,104,105,108,101])],[(.str [98,114,101,97,107])],[(.str [116,101,108,108])],[(.str [114,101,116,117,114,110])],[(.str [115,105,103,110,101,100])],[(.str [98,105,116])],[(.str [98,121,116,101])],[(.str [104,97,108,102])],[(.str [119,111,114,100])]]))),m 11 3,s 12 (.idxA 1 (t 10) (t 11)),l 13 12,m 14 0,s 15 (.bin .eql (t 13) (t 14))]) (.cond (t 15) (.seq (r [s 2 (.move b1)]) .ret) .skip))) (r [m 8 3,s 9 (.bin .add (t 8) (i 1)),m 3 9]))):=⟨_,by simp only [QQ];rfl⟩
def pK:ak:=lX.1
def A8:CX (.seq (r [s 2 (.move b0)]) (.seq (.seq (r [s 3 (.move (i 0))]) (.block 0 (.loop pK))) (.seq (r [s 2 (.move b0)]) .ret))):=⟨_,by simp only [QQ];rfl⟩
def GJ:ak:=A8.1
def CB:List RV:=[.tmp 2]
theorem D0:Is Tryz.prog (fun _ _=>false) 129 16 GJ CB:=⟨Tryz.f129,Tryz.func129,rfl,by kernel_rfl,by kernel_rfl,Tryz.call129⟩
end Go.Proofs.YtgeieafamocnhaaGreatDoor
