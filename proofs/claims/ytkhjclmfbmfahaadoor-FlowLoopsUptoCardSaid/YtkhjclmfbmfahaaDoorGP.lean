/- Codes of the seat of FlowLoops (its own numbers; the names are these plus 200). -/
import Derived.Test.YtkhjclmfbmfahaaDoorGO
import Derived.Test.YtkhjclmfbmfahaaDoorRows
import Derived.KernelRfl
namespace Go.Proofs.YtkhjclmfbmfahaaDoor
open List renaming getElem?_eq_getElem → D9, mem_of_getElem? → Ea, map_append → Em, mem_append → Eo, mem_singleton → Ep, append_nil → Eu
open Bool renaming and_eq_true → EU, and_true → EZ
open Nat renaming le_refl → E5
set_option maxHeartbeats 64000000
open Go Go.Ab Go.Sa Go.Proofs
open Nat renaming reduceEqDiff → zp, reduceAdd → zq, reduceLeDiff → zr, reduceLT → zs, reduceBEq → zt
set_option maxRecDepth 100000
def zk:CX (.seq (r [s 2 (.box (t 0)),s 4 (.move b0)]) (.seq (.seq (r [s 9 (.load 1 true (t 2)),c 10 4 [(t 9)]]) (.cond (t 10) (.seq (r [s 4 (.move b1)]) .ret) .skip)) (.seq (r [s 12 (.load 1 true (t 2)),m 13 1,c 14 5 [(t 12),(t 13)],m 11 14,e 15 11 0,e 16 11 1,m 5 15,m 6 16]) (.seq (r [s 18 (.load 1 true (t 2)),m 19 1,c 20 6 [(t 18),(t 19)],m 17 20,e 21 17 0,e 22 17 1,m 7 21,m 8 22]) (.seq (r [m 23 5,m 24 7,c 25 7 [(t 23),(t 24)],m 26 25,gt 27 26 (.move (t 6)),gt 28 26 (.move (t 8)),gt 29 26 (.bin .eql (t 27) (t 28)),s 30 (.pick (t 26) (t 29) b0),m 4 30]) .ret))))):=⟨_,by simp only [QQ];rfl⟩
def DG:aF:=zk.1
def AN:List RV:=[.tmp 4]
theorem BK:Is Tryd.prog (fun _ _=>false) 3 31 DG AN:=⟨Tryd.f3,Tryd.func3,rfl,by kernel_rfl,by kernel_rfl,Tryd.call3⟩
def sB:CX (r [m 12 48]):=⟨_,by simp only [QQ];rfl⟩
def qU:aF:=sB.1
def sA:CX (.block 3 (.seq (r [l 49 8,l 50 11,s 51 (.idxA 1 (t 49) (t 50)),s 52 (.load 1 true (t 51)),m 53 12,c 54 13 [(t 52),(t 53)]]) (.cond (t 54) (.dregion [⟨0,l 55 10,[]⟩,⟨1,m 56 12,[]⟩,⟨2,l 57 10,[]⟩,⟨3,m 58 12,[]⟩,⟨4,s 59 (.idxA 1 (t 57) (t 58)),[]⟩,⟨5,s 60 (.load 1 true (t 59)),[]⟩,⟨6,l 61 11,[]⟩,⟨7,c 62 14 [(t 60),(t 61)],[0,1]⟩,⟨8,s 63 (.idxA 1 (t 55) (t 56)),[]⟩,⟨9,sn (.store 1 (t 63) (t 62)),[]⟩]) .skip))):=⟨_,by simp only [QQ];rfl⟩
def qT:aF:=sA.1
def nG:CX (.seq (r [s 35 (.bin .lss (t 34) (t 33))]) (.seq (.cond (t 35) .skip (.exit 0)) (.seq (.block 1 (.seq (r [m 36 34,s 11 (.alloc [(.int .i64 0)]),sn (.store 1 (t 11) (t 36))]) (.seq (.seq (r [l 37 8,l 38 11,s 39 (.idxA 1 (t 37) (t 38)),s 40 (.load 1 true (t 39)),c 41 13 [(t 40),(i 0)]]) (.cond (t 41) (r [s 42 (.load 1 true (t 9)),l 43 11,c 44 14 [(t 42),(t 43)],sn (.store 1 (t 9) (t 44))]) .skip)) (.seq (r [s 45 (.load 5 true (t 6)),l 46 11,c 47 15 [(t 45),(t 46)]]) (.block 2 (.rangeF (t 47) #[48] qU qT)))))) (r [s 64 (.bin .add (t 34) (i 1)),m 34 64])))):=⟨_,by simp only [QQ];rfl⟩
def qS:aF:=nG.1
def nF:CX (.seq (r [s 89 (.bin .lss (t 88) (t 87))]) (.seq (.cond (t 89) .skip (.exit 6)) (.seq (.block 7 (.seq (r [m 90 88,m 17 90]) (.seq (r [s 91 (.load 1 true (t 16)),m 92 17,c 93 13 [(t 91),(t 92)]]) (.cond (t 93) (r [fa 94 1 15,l 95 94,m 96 17,s 97 (.buildF [(.int .i64 0)] 1 [(0,(t 96))]),s 98 (.app 3 1 8 (t 95) (t 97)),fa 99 1 15,sn (.store 1 (t 99) (t 98))]) .skip)))) (r [s 100 (.bin .add (t 88) (i 1)),m 88 100])))):=⟨_,by simp only [QQ];rfl⟩
def qR:aF:=nF.1
def kw:CX (.seq (r [s 68 (.bin .lss (t 67) (t 66))]) (.seq (.cond (t 68) .skip (.exit 4)) (.seq (.block 5 (.seq (r [m 69 67,m 14 69]) (.seq (.seq (r [l 70 10,m 71 14,s 72 (.idxA 1 (t 70) (t 71)),s 73 (.load 1 true (t 72)),s 74 (.build [(.int .u64 0)] []),s 75 (.eqS false [.int] (t 73) (t 74))]) (.cond (t 75) (.exit 5) .skip)) (.seq (r [m 76 14,s 77 (.build [(.int .i64 0),.nilS] [(0,1,(t 76))]),s 15 (.alloc [(.int .i64 0),.nilS]),sn (.store 2 (t 15) (t 77))]) (.seq (.dregion [⟨0,s 78 (.load 5 true (t 6)),[]⟩,⟨1,m 79 14,[]⟩,⟨2,l 80 10,[]⟩,⟨3,m 81 14,[]⟩,⟨4,s 82 (.idxA 1 (t 80) (t 81)),[]⟩,⟨5,s 83 (.load 1 true (t 82)),[]⟩,⟨6,s 84 (.load 1 true (t 9)),[]⟩,⟨7,⟨(some 85),none,.callZ (.func 16) [(t 78),(t 79),(t 83),(t 84)]⟩,[]⟩,⟨8,s 16 (.alloc [(.int .u64 0)]),[0,1,2,3,4,5,6]⟩,⟨9,sn (.store 1 (t 16) (t 85)),[]⟩]) (.seq (.seq (r [l 86 8,s 87 (.len (t 86)),s 88 (.move (i 0))]) (.block 6 (.loop qR))) (r [m 101 13,s 102 (.load 2 true (t 15)),s 103 (.buildF [(.int .i64 0),.nilS] 1 [(0,(t 102))]),s 104 (.app 65 2 32 (t 101) (t 103)),m 13 104]))))))) (r [s 105 (.bin .add (t 67) (i 1)),m 67 105])))):=⟨_,by simp only [QQ];rfl⟩
def lj:aF:=kw.1
def zj:CX (.seq (r [s 2 (.box (t 0)),s 4 (.move ns),s 5 (.move (i 0))]) (.seq (r [s 19 (.load 1 true (t 2)),m 20 1,c 21 11 [(t 19),(t 20)],m 18 21,e 22 18 0,e 23 18 1,s 6 (.alloc [(.str []),.nilS,(.int .i64 0),.nilS,.nilS]),sn (.store 5 (t 6) (t 22)),m 7 23]) (.seq (.seq (r [m 24 7,s 25 (.bin .neq (t 24) (i 0))]) (.cond (t 25) (.seq (r [m 26 7,s 4 (.move ns),m 5 26]) .ret) .skip)) (.seq (r [s 27 (.load 5 true (t 6)),c 28 12 [(t 27)],s 8 (.alloc [.nilS]),sn (.store 1 (t 8) (t 28))]) (.seq (r [s 9 (.alloc [(.int .u64 0)])]) (.seq (r [l 29 8,s 30 (.len (t 29)),s 31 (.mksl 58 [(.int .u64 0)] 8 (t 30) (t 30)),s 10 (.alloc [.nilS]),sn (.store 1 (t 10) (t 31))]) (.seq (.seq (r [l 32 8,s 33 (.len (t 32)),s 34 (.move (i 0))]) (.block 0 (.loop qS))) (.seq (r [s 13 (.move ns)]) (.seq (.seq (r [l 65 8,s 66 (.len (t 65)),s 67 (.move (i 0))]) (.block 4 (.loop lj))) (.seq (r [m 106 13,m 4 106,s 5 (.move (i 0))]) .ret)))))))))):=⟨_,by simp only [QQ];rfl⟩
def DF:aF:=zj.1
def AM:List RV:=[.tmp 4,.tmp 5]
theorem BJ:Is Tryd.prog (fun _ _=>false) 5 107 DF AM:=⟨Tryd.f5,Tryd.func5,rfl,by kernel_rfl,by kernel_rfl,Tryd.call5⟩
def jA:CX (.seq (.seq (r [m 46 14,m 47 6,m 48 13,s 49 (.idxA 1 (t 47) (t 48)),l 50 49,s 51 (.len (t 50)),s 52 (.bin .lss (t 46) (t 51))]) (.cond (t 52) .skip (.exit 4))) (.seq (.block 5 (.seq (r [m 55 6,m 56 13,s 57 (.idxA 1 (t 55) (t 56)),l 58 57,m 59 14,s 60 (.idxA 1 (t 58) (t 59)),l 61 60,m 62 10,s 63 (.bin .eql (t 61) (t 62)),m 64 63,gt 65 64 (.move (t 8)),gt 66 64 (.move (t 10)),gt 67 64 (.idxA 1 (t 65) (t 66)),tl 68 64 67,gt 69 64 (.move (t 13)),gt 70 64 (.idxA 1 (t 68) (t 69)),tl 71 64 70,s 72 (.pick (t 64) (t 71) b0)]) (.cond (t 72) (.seq (r [m 73 11,m 74 13,s 75 (.idxA 1 (t 73) (t 74)),sn (.store 1 (t 75) b1)]) (r [s 12 (.move b1)])) .skip))) (r [m 53 14,s 54 (.bin .add (t 53) (i 1)),m 14 54]))):=⟨_,by simp only [QQ];rfl⟩
def lh:aF:=jA.1
def nD:CX (.seq (.seq (r [m 40 13,m 41 6,s 42 (.len (t 41)),s 43 (.bin .lss (t 40) (t 42))]) (.cond (t 43) .skip (.exit 2))) (.seq (.block 3 (.seq (r [s 14 (.move (i 0))]) (.block 4 (.loop lh)))) (r [m 44 13,s 45 (.bin .add (t 44) (i 1)),m 13 45]))):=⟨_,by simp only [QQ];rfl⟩
def nE:aF:=nD.1
def iF:CX (.seq (.seq (r [m 93 19,m 94 6,s 95 (.len (t 94)),s 96 (.bin .lss (t 93) (t 95))]) (.cond (t 96) .skip (.exit 8))) (.seq (.block 9 (r [m 99 17,m 100 99,gf 101 100 (.move (t 11)),gf 102 100 (.move (t 19)),gf 103 100 (.idxA 1 (t 101) (t 102)),fl 104 100 103,gf 105 100 (.move (t 104)),gt 106 105 (.move (t 18)),gt 107 105 (.move (t 19)),gt 108 105 (.idxA 1 (t 106) (t 107)),tl 109 105 108,gf 110 100 (.pick (t 105) (t 109) b0),gf 111 100 (.move (t 110)),gt 112 111 (.move (t 8)),gt 113 111 (.idxA 1 (t 112) (i 0)),tl 114 111 113,gt 115 111 (.move (t 16)),gt 116 111 (.idxA 1 (t 114) (t 115)),tl 117 111 116,gf 118 100 (.pick (t 111) (t 117) b0),s 119 (.pick (t 100) b1 (t 118)),m 17 119])) (r [m 97 19,s 98 (.bin .add (t 97) (i 1)),m 19 98]))):=⟨_,by simp only [QQ];rfl⟩
def iW:aF:=iF.1
def nC:CX (.seq (.seq (r [m 80 16,m 81 6,s 82 (.len (t 81)),s 83 (.bin .lss (t 80) (t 82))]) (.cond (t 83) .skip (.exit 6))) (.seq (.block 7 (.seq (r [m 86 16,m 87 10,s 88 (.bin .eql (t 86) (t 87)),m 17 88]) (.seq (r [m 89 6,m 90 16,m 91 10,c 92 19 [(t 89),(t 90),(t 91)],m 18 92]) (.seq (.seq (r [s 19 (.move (i 0))]) (.block 8 (.loop iW))) (.seq (r [m 120 17]) (.cond (t 120) (r [fa 121 1 15,l 122 121,m 123 16,s 124 (.buildF [(.int .i64 0)] 1 [(0,(t 123))]),s 125 (.app 3 1 8 (t 122) (t 124)),fa 126 1 15,sn (.store 1 (t 126) (t 125))]) .skip)))))) (r [m 84 16,s 85 (.bin .add (t 84) (i 1)),m 16 85]))):=⟨_,by simp only [QQ];rfl⟩
def qQ:aF:=nC.1
def nB:CX (.seq (.seq (r [m 31 10,m 32 6,s 33 (.len (t 32)),s 34 (.bin .lss (t 31) (t 33))]) (.cond (t 34) .skip (.exit 0))) (.seq (.block 1 (.seq (r [m 37 6,s 38 (.len (t 37)),s 39 (.mksl 4 [(.bool false)] 1 (t 38) (t 38)),m 11 39]) (.seq (r [s 12 (.move b0)]) (.seq (.seq (r [s 13 (.move (i 0))]) (.block 2 (.loop nE))) (.seq (.seq (r [m 76 12,s 77 (.un .not (t 76))]) (.cond (t 77) (.exit 1) .skip)) (.seq (r [m 78 10,s 79 (.build [(.int .i64 0),.nilS] [(0,1,(t 78))]),s 15 (.alloc [(.int .i64 0),.nilS]),sn (.store 2 (t 15) (t 79))]) (.seq (.seq (r [s 16 (.move (i 0))]) (.block 6 (.loop qQ))) (r [m 127 9,s 128 (.load 2 true (t 15)),s 129 (.buildF [(.int .i64 0),.nilS] 1 [(0,(t 128))]),s 130 (.app 65 2 32 (t 127) (t 129)),m 9 130])))))))) (r [m 35 10,s 36 (.bin .add (t 35) (i 1)),m 10 36]))):=⟨_,by simp only [QQ];rfl⟩
def qP:aF:=nB.1
def zi:CX (.seq (r [s 2 (.box (t 0)),s 4 (.move ns),s 5 (.move (i 0))]) (.seq (r [s 21 (.load 1 true (t 2)),m 22 1,c 23 17 [(t 21),(t 22)],m 20 23,e 24 20 0,e 25 20 1,m 6 24,m 7 25]) (.seq (.seq (r [m 26 7,s 27 (.bin .neq (t 26) (i 0))]) (.cond (t 27) (.seq (r [m 28 7,s 4 (.move ns),m 5 28]) .ret) .skip)) (.seq (r [m 29 6,c 30 18 [(t 29)],m 8 30]) (.seq (r [s 9 (.move ns)]) (.seq (.seq (r [s 10 (.move (i 0))]) (.block 0 (.loop qP))) (.seq (r [m 131 9,m 4 131,s 5 (.move (i 0))]) .ret))))))):=⟨_,by simp only [QQ];rfl⟩
def DE:aF:=zi.1
def AL:List RV:=[.tmp 4,.tmp 5]
theorem BH:Is Tryd.prog (fun _ _=>false) 6 132 DE AL:=⟨Tryd.f6,Tryd.func6,rfl,by kernel_rfl,by kernel_rfl,Tryd.call6⟩
def nA:CX (.seq (.seq (r [m 11 5,m 12 0,s 13 (.len (t 12)),s 14 (.bin .lss (t 11) (t 13))]) (.cond (t 14) .skip (.exit 0))) (.seq (.block 1 (.seq (.dregion [⟨0,m 17 0,[]⟩,⟨1,m 18 5,[]⟩,⟨2,s 19 (.idxA 2 (t 17) (t 18)),[]⟩,⟨3,fa 20 0 19,[]⟩,⟨4,l 21 20,[]⟩,⟨5,m 22 1,[]⟩,⟨6,m 23 5,[]⟩,⟨7,s 24 (.idxA 2 (t 22) (t 23)),[]⟩,⟨8,fa 25 0 24,[]⟩,⟨9,l 26 25,[]⟩,⟨10,s 27 (.bin .neq (t 21) (t 26)),[]⟩,⟨11,m 28 27,[]⟩,⟨12,gf 29 28 (.move (t 0)),[]⟩,⟨13,gf 30 28 (.move (t 5)),[]⟩,⟨14,gf 31 28 (.idxA 2 (t 29) (t 30)),[]⟩,⟨15,fb 32 28 1 31,[]⟩,⟨16,fl 33 28 32,[]⟩,⟨17,gf 34 28 (.move (t 1)),[]⟩,⟨18,gf 35 28 (.move (t 5)),[]⟩,⟨19,gf 36 28 (.idxA 2 (t 34) (t 35)),[]⟩,⟨20,fb 37 28 1 36,[]⟩,⟨21,fl 38 28 37,[]⟩,⟨22,fc 39 28 20 [(t 33),(t 38)],[]⟩,⟨23,gf 40 28 (.un .not (t 39)),[]⟩,⟨24,s 41 (.pick (t 28) b1 (t 40)),[]⟩]) (.cond (t 41) (.seq (r [s 4 (.move b0)]) .ret) .skip))) (r [m 15 5,s 16 (.bin .add (t 15) (i 1)),m 5 16]))):=⟨_,by simp only [QQ];rfl⟩
def qO:aF:=nA.1
def zh:CX (.seq (r [s 4 (.move b0)]) (.seq (.seq (r [m 6 0,s 7 (.len (t 6)),m 8 1,s 9 (.len (t 8)),s 10 (.bin .neq (t 7) (t 9))]) (.cond (t 10) (.seq (r [s 4 (.move b0)]) .ret) .skip)) (.seq (.seq (r [s 5 (.move (i 0))]) (.block 0 (.loop qO))) (.seq (r [s 4 (.move b1)]) .ret)))):=⟨_,by simp only [QQ];rfl⟩
def DD:aF:=zh.1
def CG:List RV:=[.tmp 4]
theorem BG:Is Tryd.prog (fun _ _=>false) 7 42 DD CG:=⟨Tryd.f7,Tryd.func7,rfl,by kernel_rfl,by kernel_rfl,Tryd.call7⟩
def sy:CX (r [m 12 27]):=⟨_,by simp only [QQ];rfl⟩
def qM:aF:=sy.1
def sx:CX (.block 5 (.seq (r [s 28 (.load 1 true (t 7)),l 29 11,c 30 13 [(t 28),(t 29)],m 31 30,gt 32 31 (.load 1 true (t 9)),gt 33 31 (.move (t 12)),tc 34 31 13 [(t 32),(t 33)],s 35 (.pick (t 31) (t 34) b0),m 36 35,gt 37 36 (.move (t 12)),tl 38 36 5,gt 39 36 (.bin .neq (t 37) (t 38)),s 40 (.pick (t 36) (t 39) b0)]) (.cond (t 40) (r [s 41 (.load 1 true (t 9)),l 42 11,c 43 14 [(t 41),(t 42)],sn (.store 1 (t 9) (t 43))]) .skip))):=⟨_,by simp only [QQ];rfl⟩
def qL:aF:=sx.1
def kv:CX (.seq (r [s 22 (.bin .lss (t 21) (t 20))]) (.seq (.cond (t 22) .skip (.exit 2)) (.seq (.block 3 (.seq (r [m 23 21,s 11 (.alloc [(.int .i64 0)]),sn (.store 1 (t 11) (t 23))]) (.seq (r [s 24 (.load 5 true (t 4)),l 25 11,c 26 15 [(t 24),(t 25)]]) (.block 4 (.rangeF (t 26) #[27] qM qL))))) (r [s 44 (.bin .add (t 21) (i 1)),m 21 44])))):=⟨_,by simp only [QQ];rfl⟩
def nz:aF:=kv.1
def sw:CX (.block 1 (.seq (r [s 16 (.load 1 true (t 9)),s 10 (.alloc [(.int .u64 0)]),sn (.store 1 (t 10) (t 16))]) (.seq (.seq (r [fa 17 0 4,fa 18 4 17,l 19 18,s 20 (.len (t 19)),s 21 (.move (i 0))]) (.block 2 (.loop nz))) (.seq (r [s 45 (.load 1 true (t 9)),s 46 (.load 1 true (t 10)),s 47 (.eqS false [.int] (t 45) (t 46))]) (.cond (t 47) (.seq (r [s 48 (.load 1 true (t 9)),sn (.store 1 (t 8) (t 48))]) .ret) .skip))))):=⟨_,by simp only [QQ];rfl⟩
def wL:aF:=sw.1
def zg:CX (.seq (r [s 4 (.box (t 0)),s 5 (.box (t 1)),s 6 (.box (t 2)),s 7 (.box (t 3)),s 8 (.alloc [(.int .u64 0)])]) (.seq (r [s 13 (.load 1 true (t 6)),l 14 5,c 15 14 [(t 13),(t 14)],s 9 (.alloc [(.int .u64 0)]),sn (.store 1 (t 9) (t 15))]) (.block 0 (.loop wL)))):=⟨_,by simp only [QQ];rfl⟩
def DC:aF:=zg.1
def CF:List RV:=[.cell 8 1 true]
theorem BF:Is Tryd.prog (fun _ _=>false) 16 49 DC CF:=⟨Tryd.f16,Tryd.func16,rfl,by kernel_rfl,by kernel_rfl,Tryd.call16⟩
open Go Go.Ab Go.Proofs
set_option linter.unusedVariables false
set_option linter.unusedSimpArgs false
set_option maxRecDepth 20000
def inF (R h b:Nat) (l:List Nat) (m:Nat):Nat:=l.foldl (fun m c=>if R.testBit b=true∧m.testBit c=true∧c≠h then m ||| 2 ^ b else m) m
theorem ve (R h b:Nat) (l:List Nat) (c m:Nat):inF R h b (l++[c]) m=if R.testBit b=true∧(inF R h b l m).testBit c=true∧c≠h then inF R h b l m ||| 2 ^ b else inF R h b l m:=by
 unfold inF;rw [List.foldl_append];rfl
theorem pO {G:Nat→List Nat} {n h b R:Nat} (hn:n≤60) (hb:b<n) (hR:R.testBit b=true→Rch G b):∀ (l:List Nat) (m:Nat),(∀ c∈l,c∈G b)→LP G n h m →
  LP G n h (inF R h b l m)∧m≤inF R h b l m∧(inF R h b l m=m→∀ c∈l,R.testBit b=true→m.testBit c=true→c≠h→m.testBit b=true)
 | [],m,_,lp=>⟨lp,E5 _,fun _ c hc=>by simp at hc⟩
 | c::l,m,hl,lp=>by
  obtain ⟨m1,hm1⟩:∃ m1,m1=if R.testBit b=true∧m.testBit c=true∧c≠h then m ||| 2 ^ b else m:=⟨_,rfl⟩
  have e:inF R h b (c::l) m=inF R h b l m1:=by rw [hm1];rfl
  have lp1:LP G n h m1:=by
   rw [hm1];split
   ·rename_i k;exact lp.add hn hb (hR k.1) (hl c (by simp)) k.2.1 k.2.2
   ·exact lp
  have le1:m≤m1:=by
   rw [hm1];split
   ·exact By m b
   ·exact E5 _
  obtain ⟨i1,i2,i3⟩:=pO hn hb hR l m1 (fun x hx=>hl x (List.mem_cons_of_mem _ hx)) lp1
  rw [e]
  refine ⟨i1,by omega,fun he=>?_⟩
  have e1:m1=m:=by omega
  rw [e1] at i3 he
  intro x hx
  rcases List.mem_cons.1 hx with rfl|hx
  ·intro k1 k2 k3
   rw [if_pos ⟨k1,k2,k3⟩] at hm1
   exact xw (by omega)
  ·exact i3 he x hx
structure MS (h:Heap) (nx:Nat) (dm:List Nat):Prop where
 d1:∀ d∈dm,d<nx∧ay h d=some .dfd
 d2:dm.Nodup
theorem MS.ext {h h':Heap} {nx nx':Nat} {dm:List Nat} (S:MS h nx dm) (hn:nx≤nx') (hk:∀ k o,k<nx→ay h k=some o→o=.dfd→ay h' k=some o):MS h' nx' dm :=
 ⟨fun d hd=>⟨by have:=(S.d1 d hd).1;omega,hk _ _ (S.d1 d hd).1 (S.d1 d hd).2 rfl⟩,S.d2⟩
theorem MS.mark {h h':Heap} {nx nx' d:Nat} {dm:List Nat} (S:MS h nx dm) (hn:nx≤d) (hd:d<nx') (hk:∀ k o,k<nx→ay h k=some o→o=.dfd→ay h' k=some o) (hh:ay h' d=some .dfd):MS h' nx' (d::dm):=by
 have S':=S.ext (nx':=nx') (by omega) hk
 refine ⟨fun e he=>?_,List.nodup_cons.2 ⟨fun hm=>?_,S.d2⟩⟩
 ·rcases List.mem_cons.1 he with e1|e1
  ·subst e1;exact ⟨hd,hh⟩
  ·exact S'.d1 e e1
 ·have:=(S.d1 d hm).1;omega
theorem MS.ok {h:Heap} {nx:Nat} {dm:List Nat} (S:MS h nx dm):kf h dm:=mU dm h S.d2 fun d hd=>(S.d1 d hd).2
theorem MS.get {h:Heap} {nx k:Nat} {dm:List Nat} {o:AO} (S:MS h nx dm) (hk:ay h k=some o) (ho:o≠.dfd):ay (eK h dm) k=some o:=by
 rw [iC _ _ _ fun hm=>?_]
 ·exact hk
 ·have:=(S.d1 k hm).2
  rw [hk] at this;injection this with this;exact ho this
theorem yj {P:Pi} {g:Fn} (G:GdF P g) {cI cb c1 c2 c5 c7 b h R m n0:Nat} {blk:Bk} {st:ASt} {Q:AX→ASt→Prop} (hblk:g.blocks[b]?=some blk) (hn0:n0=g.blocks.length) (hb:b<n0) (hh:h<n0)
  (hR:R.testBit b=true→Rch (nbG g) b) (hRl:R<18446744073709551616) (lp:LP (nbG g) n0 h m)
  (g5:ah st.env 5=some (.op c5 0)) (g7:ah st.env 7=some (.op c7 0)) (gh:ay st.heap c5=some (.cells [.int .i64 h])) (gR:ay st.heap c7=some (.cells [.int .u64 R])) (g9:ah st.env 9=some (.op cI 0)) (g11:ah st.env 11=some (.op cb 0)) (g26:ah st.env 26=some (.fn (.func 28) [.op c1 0,.op c2 0]))
  (gI:ay st.heap cI=some (.cells [.int .u64 m])) (gb:ay st.heap cb=some (.cells [.int .i64 b]))
  (gc1:ay st.heap c1=some (.cells (fnE g))) (gc2:ay st.heap c2=some (.cells [.int .i64 b])) (l:cI<st.nx∧cb<st.nx∧c1<st.nx∧c2<st.nx∧c5<st.nx∧c7<st.nx)
  (d:cI≠cb∧cI≠c1∧cI≠c2∧cI≠c5∧cI≠c7)
  (hQ:∀ h' n',st.nx+2≤n'→(∀ k o,k<st.nx→k≠cI→ay st.heap k=some o→ay h' k=some o)→ay h' st.nx=some .dfd→ay h' cI=some (.cells [.int .u64 (inF R h b (nbG g b) m:Nat)])→Q .normal { st with heap:=h',nx:=n',dm:=st.nx::st.dm }) :
  AW Tryd.prog (fun _ _=>false) none 49 (.rangeF (.tmp 26) #[27] qM qL) Q st:=by
 obtain ⟨l1,l2,l3,l4,l5,l6⟩:=l
 obtain ⟨d1,d2,d3,d4,d5⟩:=d
 have hn60:=G.n2
 refine ku hblk (by have:=G.to2 blk (Ea hblk);omega) (c1:=c1) (c2:=c2) g26 (by decide)
  (fun pre h2 n2=>ay h2 cI=some (.cells [.int .u64 (inF R h b (pre.map Int.toNat) m:Nat)])∧st.nx+2≤n2∧∀ k o,k<st.nx→k≠cI→ay st.heap k=some o→ay h2 k=some o)
  (fun x=>(12,.int .i64 x)::(27,.int .i64 x)::st.env) ?_ ?_ ?_ ?_ ?_ ?_ ?_
 ·rintro pre h2 n2 n3 ⟨a1,a2,a3⟩ hn
  exact ⟨a1,by omega,a3⟩
 ·rintro pre h2 h3 n2 ⟨a1,a2,a3⟩ hk
  exact ⟨by rw [hk _ (by omega)];exact a1,a2,fun k o e1 e2 e3=>by rw [hk _ (by omega)];exact a3 k o e1 e2 e3⟩
 ·rintro pre h2 n2 ⟨a1,a2,a3⟩
  exact ⟨a3 _ _ l3 (fun e=>d2 e.symm) gc1,a3 _ _ l4 (fun e=>d3 e.symm) gc2⟩
 ·intro L
  refine ⟨by rw [af,if_neg (by omega),af,if_neg (by omega)];exact gI,E5 _,fun k o e1 e2 e3=>by rw [af,if_neg (by omega),af,if_neg (by omega)];exact e3⟩
 ·intro x h2 n2 l
  refine dH aI ?_
  simp -implicitDefEqProofs only [RA,ae,zp,↓reduceIte,reduceCtorEq,zq,zr,zs,zt,↓az,↓aA,↓ar,↓aq,↓aw,↓au,↓ak,↓aj,↓aC,↓aB,↓aE,↓aD,unA,ne_eq,not_true_eq_false,not_false_eq_true,qM,sy]
 ·rintro pre x suf h2 n2 l hsp hn ⟨a1,a2,a3⟩
  have hxr:=gY G hblk (c:=x) (by rw [hsp];simp)
  obtain ⟨c,rfl⟩:∃ c:Nat,x=(c:Int):=⟨x.toNat,by omega⟩
  have hf:=ve R h b (pre.map Int.toNat) c m
  rw [show (pre.map Int.toNat)++[c]=(pre++[(c:Int)]).map Int.toNat by rw [Em];rfl] at hf
  have hsub:∀ y∈pre.map Int.toNat,y∈nbG g b:=fun y hy=>by
   rw [e8 hblk,hsp,Em];exact List.mem_append_left _ hy
  have lpq:=(pO (R:=R) (by omega) hb hR (pre.map Int.toNat) m hsub lp).1
  generalize inF R h b (pre.map Int.toNat) m=q at a1 hf lpq
  rw [hf]
  have bb:=a3 _ _ l2 (fun e=>d1 e.symm) gb
  have bh:=a3 _ _ l5 (fun e=>d4 e.symm) gh
  have bR:=a3 _ _ l6 (fun e=>d5 e.symm) gR
  have w1:=w30 R b hRl (by omega)
  have w2:=w30 q c lpq.lt (by omega)
  have w3:=w40 q b lpq.lt (by omega)
  refine dH aI ?_
  simp -implicitDefEqProofs only [RA,ae,zp,↓reduceIte,reduceCtorEq,zq,zr,zs,zt,↓az,↓aA,↓ar,↓aq,↓aw,↓au,↓ak,↓aj,↓aC,↓aB,↓aE,↓aD,unA,ne_eq,not_true_eq_false,not_false_eq_true,qL,sx,g5,g7,g9,g11,bb,bh,bR,a1]
  refine w1.use fun n3 hn3=>?_
  cases h1:R.testBit b
  ·rw [if_neg (by simp)]
   simp -implicitDefEqProofs only [RA,ae,zp,↓reduceIte,reduceCtorEq,zq,zr,zs,zt,↓az,↓aA,↓ar,↓aq,↓aw,↓au,↓ak,↓aj,↓aC,↓aB,↓aE,↓aD,unA,ne_eq,not_true_eq_false,not_false_eq_true,g5,g7,g9,g11,bb,bh,bR,a1]
   exact ⟨by omega,fun k o _ e=>e,by omega,a3⟩
  simp -implicitDefEqProofs only [RA,ae,zp,↓reduceIte,reduceCtorEq,zq,zr,zs,zt,↓az,↓aA,↓ar,↓aq,↓aw,↓au,↓ak,↓aj,↓aC,↓aB,↓aE,↓aD,unA,ne_eq,not_true_eq_false,not_false_eq_true,g5,g7,g9,g11,bb,bh,bR,a1]
  refine w2.use fun n4 hn4=>?_
  cases h2:q.testBit c
  ·rw [if_neg (by simp)]
   simp -implicitDefEqProofs only [RA,ae,zp,↓reduceIte,reduceCtorEq,zq,zr,zs,zt,↓az,↓aA,↓ar,↓aq,↓aw,↓au,↓ak,↓aj,↓aC,↓aB,↓aE,↓aD,unA,ne_eq,not_true_eq_false,not_false_eq_true,g5,g7,g9,g11,bb,bh,bR,a1]
   exact ⟨by omega,fun k o _ e=>e,by omega,a3⟩
  rcases ai ((c:Int)=(h:Int)) with ⟨k1,j1⟩|⟨k1,j1⟩
  ·rw [if_neg (by omega)]
   simp -implicitDefEqProofs only [RA,ae,zp,↓reduceIte,reduceCtorEq,zq,zr,zs,zt,↓az,↓aA,↓ar,↓aq,↓aw,↓au,↓ak,↓aj,↓aC,↓aB,↓aE,↓aD,unA,ne_eq,not_true_eq_false,not_false_eq_true,g5,g7,g9,g11,bb,bh,bR,a1,j1]
   exact ⟨by omega,fun k o _ e=>e,by omega,a3⟩
  ·rw [if_pos (show true=true∧¬ c=h from ⟨rfl,by omega⟩)]
   simp -implicitDefEqProofs only [RA,ae,zp,↓reduceIte,reduceCtorEq,zq,zr,zs,zt,↓az,↓aA,↓ar,↓aq,↓aw,↓au,↓ak,↓aj,↓aC,↓aB,↓aE,↓aD,unA,ne_eq,not_true_eq_false,not_false_eq_true,g5,g7,g9,g11,bb,bh,bR,a1,j1]
   refine w3.use fun n5 hn5=>?_
   simp -implicitDefEqProofs only [RA,ae,zp,↓reduceIte,reduceCtorEq,zq,zr,zs,zt,↓az,↓aA,↓ar,↓aq,↓aw,↓au,↓ak,↓aj,↓aC,↓aB,↓aE,↓aD,unA,ne_eq,not_true_eq_false,not_false_eq_true,g5,g7,g9,g11,bb,bh,bR,a1,j1]
   refine ⟨by omega,fun k o e1 e2=>by rw [if_neg (by omega)];exact e2,by omega,fun k o e1 e2 e3=>?_⟩
   rw [if_neg (fun e=>e2 e.symm)];exact a3 k o e1 e2 e3
 ·rintro h2 n2 hn hd ⟨a1,a2,a3⟩
  rw [← e8 hblk] at a1
  exact hQ h2 n2 hn a3 hd a1
structure BS (g:Fn) (h R c4 c5 c7 c8 cI m:Nat) (H:Heap) (nx:Nat) (dm:List Nat):Prop where
 g4:ay H c4=some (.cells (fnE g))
 g5:ay H c5=some (.cells [.int .i64 h])
 g7:ay H c7=some (.cells [.int .u64 R])
 g8:ay H c8=some (.cells [.int .u64 0])
 gI:ay H cI=some (.cells [.int .u64 m])
 lt:c4<nx∧c5<nx∧c7<nx∧c8<nx∧cI<nx
 ne:cI≠c4∧cI≠c5∧cI≠c7∧cI≠c8
 ms:MS H nx dm
theorem BS.ext {g:Fn} {h R c4 c5 c7 c8 cI m:Nat} {H H':Heap} {nx nx':Nat} {dm:List Nat} (S:BS g h R c4 c5 c7 c8 cI m H nx dm) (hn:nx≤nx') (hk:∀ k o,k<nx→ay H k=some o→ay H' k=some o):BS g h R c4 c5 c7 c8 cI m H' nx' dm :=
 ⟨hk _ _ S.lt.1 S.g4,hk _ _ S.lt.2.1 S.g5,hk _ _ S.lt.2.2.1 S.g7,hk _ _ S.lt.2.2.2.1 S.g8,hk _ _ S.lt.2.2.2.2 S.gI,by have:=S.lt;omega,S.ne,S.ms.ext hn fun k o h1 h2 _=>hk k o h1 h2⟩
theorem w216 {P:Pi} {g:Fn} (G:GdF P g) (h:Nat) (hh:h<g.blocks.length):Pure Tryd.prog 16 [.agg (fnE g),.int .i64 h,.agg [.int .u64 (bkN (nbG g) g.blocks.length h)],.agg [.int .u64 (mkP g.blocks.length fun x=>Rch (nbG g) x)]] (.agg [.int .u64 (mkP g.blocks.length fun x=>LI (nbG g) h x)]):=by
 refine Pure.of fun nx=>AC.go aI BF (by simp) ?_
 have ff:=bK g
 have fl:=jL g
 have ft:=iD g
 have lb:=ec g.blocks
 have hn1:=G.n1
 have hn60:=G.n2
 have hG:=jE G
 have hb1:bkN (nbG g) g.blocks.length h<18446744073709551616:=gZ (by omega)
 have w1:=w40 (bkN (nbG g) g.blocks.length h) h hb1 (by omega)
 have lp1:=LP.first (G:=nbG g) hn60 hh hG
 obtain ⟨R,hRe⟩:∃ R,R=mkP g.blocks.length fun x=>Rch (nbG g) x:=⟨_,rfl⟩
 have hR:∀ b,R.testBit b=true→Rch (nbG g) b:=fun b hb=>by
  rw [hRe,cu,EU,cT] at hb;exact hb.2
 have hR2:∀ b,Rch (nbG g) b→R.testBit b=true:=fun b hb=>by
  rw [hRe,cu,decide_eq_true (hG b hb),pV hb];rfl
 have hRl:R<18446744073709551616:=by rw [hRe];exact gZ (by omega)
 rw [← hRe]
 obtain ⟨m1,hm1⟩:∃ m,m=bkN (nbG g) g.blocks.length h ||| 2 ^ h:=⟨_,rfl⟩
 rw [← hm1] at w1 lp1
 rw [ff] at fl ft ⊢
 have z1:(nx+1=nx)=False:=eq_false (by omega)
 have z2:(nx+1+1=nx)=False:=eq_false (by omega)
 have z3:(nx+2=nx)=False:=eq_false (by omega)
 have z4:(nx+3=nx)=False:=eq_false (by omega)
 have z5:(nx+4=nx)=False:=eq_false (by omega)
 simp -implicitDefEqProofs only [RA,ae,zp,↓reduceIte,reduceCtorEq,zq,zr,zs,zt,↓az,↓aA,↓ar,↓aq,↓aw,↓au,↓ak,↓aj,↓aC,↓aB,↓aE,↓aD,unA,ne_eq,not_true_eq_false,not_false_eq_true,DC,zg,z1,z2,z3,z4,z5]
 refine w1.use fun k1 hk1=>?_
 have z6:(k1=nx)=False:=eq_false (by omega)
 have z7:(k1=nx+1)=False:=eq_false (by omega)
 simp -implicitDefEqProofs only [RA,ae,zp,↓reduceIte,reduceCtorEq,zq,zr,zs,zt,↓az,↓aA,↓ar,↓aq,↓aw,↓au,↓ak,↓aj,↓aC,↓aB,↓aE,↓aD,unA,ne_eq,not_true_eq_false,not_false_eq_true,z1,z2,z3,z4,z5,z6,z7]
 have S1:BS g h R nx (nx+1) (nx+1+1+1) (nx+1+1+1+1) k1 m1 [(k1,AO.cells [.int .u64 m1]),(k1,.cells [.int .u64 0]),(nx+1+1+1+1,.cells [.int .u64 0]),(nx+1+1+1,.cells [.int .u64 R]),(nx+1+1,.cells [.int .u64 (bkN (nbG g) g.blocks.length h)]),(nx+1,.cells [.int .i64 h]),(nx,.cells [.str g.name,bj g.params,.int .i64 g.result,bj g.locals,cg g.blocks])] (k1+1) []:=by
  refine ⟨?_,?_,?_,?_,?_,by omega,by omega,⟨fun d hd=>by simp at hd,.nil⟩⟩
  ·repeat (first|rw [af,if_pos rfl]|rw [af,if_neg (by omega)])
   rw [ff]
  all_goals repeat (first|rw [af,if_pos rfl]|rw [af,if_neg (by omega)])
 obtain ⟨c5,hc5⟩:∃ c,c=nx+1:=⟨_,rfl⟩
 obtain ⟨c7,hc7⟩:∃ c,c=nx+1+1+1:=⟨_,rfl⟩
 obtain ⟨c8,hc8⟩:∃ c,c=nx+1+1+1+1:=⟨_,rfl⟩
 obtain ⟨c4,hc4⟩:∃ c,c=nx:=⟨_,rfl⟩
 rw [← hc8] at S1 ⊢
 rw [← hc7] at S1 ⊢
 rw [← hc5] at S1 ⊢
 rw [← hc4] at S1 ⊢
 refine aJ (fun q st=>∃ m:Nat,q=18446744073709551616-m∧ah st.env 4=some (.op c4 0)∧ah st.env 5=some (.op c5 0)∧ah st.env 7=some (.op c7 0)∧ah st.env 8=some (.op c8 0)∧ah st.env 9=some (.op k1 0)∧LP (nbG g) g.blocks.length h m∧BS g h R c4 c5 c7 c8 k1 m st.heap st.nx st.dm) (n:=18446744073709551616-m1) aI
  ⟨m1,rfl,by simp [ah],by simp [ah],by simp [ah],by simp [ah],by simp [ah],lp1,S1⟩ ?_
 clear S1
 rintro q ⟨env,heap,nx',dm⟩ ⟨m0,rfl,g4,g5,g7,g8,g9,lp0,S0⟩
 simp only at g4 g5 g7 g8 g9 S0
 have s4:=S0.g4
 rw [ff] at s4
 have s1:=S0.gI
 have s2:=S0.lt
 have e1:(nx'=k1)=False:=eq_false (by omega)
 have e2:(nx'=c4)=False:=eq_false (by omega)
 simp -implicitDefEqProofs only [RA,ae,zp,↓reduceIte,reduceCtorEq,zq,zr,zs,zt,↓az,↓aA,↓ar,↓aq,↓aw,↓au,↓ak,↓aj,↓aC,↓aB,↓aE,↓aD,unA,ne_eq,not_true_eq_false,not_false_eq_true,wL,sw,g4,g5,g7,g8,g9,s1,s4,lb,e1,e2]
 obtain ⟨cW,hcW⟩:∃ k,k=nx':=⟨_,rfl⟩
 refine aJ (fun q st=>∃ (j m:Nat),q=g.blocks.length-j∧j≤g.blocks.length∧ah st.env 4=some (.op c4 0)∧ah st.env 5=some (.op c5 0)∧ah st.env 7=some (.op c7 0)∧ah st.env 8=some (.op c8 0)∧ah st.env 9=some (.op k1 0)∧ah st.env 10=some (.op cW 0)∧ah st.env 20=some (.int .i64 g.blocks.length)∧ah st.env 21=some (.int .i64 j) ∧
   LP (nbG g) g.blocks.length h m∧BS g h R c4 c5 c7 c8 k1 m st.heap st.nx st.dm∧ay st.heap cW=some (.cells [.int .u64 m0])∧cW<st.nx∧cW≠k1∧cW≠c8∧m0≤m∧(m=m0→∀ b,b<j→∀ c∈nbG g b,R.testBit b=true→m0.testBit c=true→c≠h→m0.testBit b=true)) (n:=g.blocks.length) aI
  ⟨0,m0,rfl,by omega,by simp [ah,g4],by simp [ah,g5],by simp [ah,g7],by simp [ah,g8],by simp [ah,g9],by simp [ah,hcW],by simp [ah],by simp [ah],lp0,?_,?_,by simp only;omega,by omega,by omega,E5 _,fun _ b hb=>by omega⟩ ?_
 ·refine S0.ext (by simp only;omega) fun k o h1 h2=>?_
  simp only
  rw [af,if_neg (by omega),af,if_neg (by omega)];exact h2
 ·simp only;rw [af,if_pos hcW.symm]
 clear g4 g5 g7 g8 g9 s1 s2 s4 S0 e1 e2
 rintro q ⟨env,heap,nx',dm⟩ ⟨j,m,rfl,hj,g4,g5,g7,g8,g9,g10,g20,g21,lp,S,gW,hWlt,hWk,hW8,hle,hfix⟩
 simp only at g4 g5 g7 g8 g9 g10 g20 g21 S gW hWlt
 have f1:=wS (i:=j) (by omega)
 have s1:=S.gI
 have s2:=S.lt
 have s3:=S.ne
 have s4:=S.g4
 have s5:=S.g5
 have s7:=S.g7
 have s8:=S.g8
 by_cases hc:(j:Int)<(g.blocks.length:Int)
 case neg =>
  have ej:j=g.blocks.length:=by omega
  rcases ai ((m:Int)=(m0:Int)) with ⟨c1,d1⟩|⟨c1,d1⟩
  ·have em:m=m0:=by omega
   have hend:=lp.done hG hh fun b hb c hc hr ht hne=>by
    rw [em] at ht ⊢
    exact hfix em b (by omega) c hc (hR2 b hr) ht hne
   simp -implicitDefEqProofs only [RA,ae,zp,↓reduceIte,reduceCtorEq,zq,zr,zs,zt,↓az,↓aA,↓ar,↓aq,↓aw,↓au,↓ak,↓aj,↓aC,↓aB,↓aE,↓aD,unA,ne_eq,not_true_eq_false,not_false_eq_true,nz,kv,g4,g5,g7,g8,g9,g10,g20,g21,hc,s1,s8,gW,eqL,eqC,d1,EZ,kT,CF]
   have S':MS ((c8,AO.cells [.int .u64 m])::heap) nx' dm:=S.ms.ext (E5 _) fun k o h1 h2 h3=>by
    rw [af,if_neg (fun e=>by rw [← e,s8] at h2;injection h2 with h2;rw [← h2] at h3;cases h3)];exact h2
   have g0:=S'.get (k:=c8) (o:=.cells [.int .u64 m]) (by rw [af,if_pos rfl]) (by simp)
   refine ⟨S'.ok,?_⟩
   rw [g0,← hend]
   exact ⟨_,rfl,rfl⟩
  ·have hlt:m0<m:=by omega
   have ltm:=lp.lt
   simp -implicitDefEqProofs only [RA,ae,zp,↓reduceIte,reduceCtorEq,zq,zr,zs,zt,↓az,↓aA,↓ar,↓aq,↓aw,↓au,↓ak,↓aj,↓aC,↓aB,↓aE,↓aD,unA,ne_eq,not_true_eq_false,not_false_eq_true,nz,kv,g4,g5,g7,g8,g9,g10,g20,g21,hc,s1,s8,gW,eqL,eqC,d1,EZ]
   exact ⟨18446744073709551616-m,by omega,m,rfl,lp,S⟩
 have hbl:=D9 (l:=g.blocks) (i:=j) (by omega)
 generalize g.blocks[j]=blk at hbl
 have hj':j<g.blocks.length:=by omega
 have w2:=w25 g j ((nx',.cells [.int .i64 j])::(nx',.cells [.int .i64 0])::heap) (nx'+1)
 rw [ff] at w2 s4
 have e2:(nx'=c4)=False:=eq_false (by omega)
 simp -implicitDefEqProofs only [RA,ae,zp,↓reduceIte,reduceCtorEq,zq,zr,zs,zt,↓az,↓aA,↓ar,↓aq,↓aw,↓au,↓ak,↓aj,↓aC,↓aB,↓aE,↓aD,unA,ne_eq,not_true_eq_false,not_false_eq_true,nz,kv,g4,g5,g7,g8,g9,g10,g20,g21,hc,s4,fl,ft,e2]
 refine w2.mono ?_
 rintro y hh2 nn ⟨rfl,rfl,rfl⟩
 simp -implicitDefEqProofs only [RA,ae,zp,↓reduceIte,reduceCtorEq,zq,zr,zs,zt,↓az,↓aA,↓ar,↓aq,↓aw,↓au,↓ak,↓aj,↓aC,↓aB,↓aE,↓aD,unA,ne_eq,not_true_eq_false,not_false_eq_true,cN]
 have get6:∀ k,k<nx'→ay ((nx'+1+1,AO.cells [.int .i64 j])::(nx'+1,.cells [.str g.name,bj g.params,.int .i64 g.result,bj g.locals,cg g.blocks])::(nx',.cells [.int .i64 j])::(nx',.cells [.int .i64 0])::heap) k=ay heap k:=fun k hk=>by
  rw [af,if_neg (by omega),af,if_neg (by omega),af,if_neg (by omega),af,if_neg (by omega)]
 refine yj G (cI:=k1) (cb:=nx') (c1:=nx'+1) (c2:=nx'+1+1) (c5:=c5) (c7:=c7) (b:=j) (h:=h) (R:=R) (m:=m) (n0:=g.blocks.length) hbl rfl hj' hh (hR j) hRl lp
  (by simp [ah,g5]) (by simp [ah,g7]) (by simp only;rw [get6 _ s2.2.1];exact s5) (by simp only;rw [get6 _ s2.2.2.1];exact s7) (by simp [ah,g9]) (by simp [ah]) (by simp [ah]) (by simp only;rw [get6 _ s2.2.2.2.2];exact s1)
  (by simp only;rw [af,if_neg (by omega),af,if_neg (by omega),af,if_pos rfl]) (by simp only;rw [af,if_neg (by omega),af,if_pos rfl,ff]) (by simp only;rw [af,if_pos rfl]) (by simp only;omega) (by omega) ?_
 intro h5 n5 hn5 hk5 hd5 hM5
 simp only at hn5 hk5 hd5
 obtain ⟨q1,q2,q3⟩:=pO (G:=nbG g) (R:=R) hn60 hj' (hR j) (nbG g j) m (fun _ h=>h) lp
 have hk6:∀ k o,k<nx'→k≠k1→ay heap k=some o→ay h5 k=some o:=fun k o h1 h2 h3=>hk5 k o (by omega) h2 (by rw [get6 k h1];exact h3)
 simp -implicitDefEqProofs only [RA,ae,zp,↓reduceIte,reduceCtorEq,zq,zr,zs,zt,↓az,↓aA,↓ar,↓aq,↓aw,↓au,↓ak,↓aj,↓aC,↓aB,↓aE,↓aD,unA,ne_eq,not_true_eq_false,not_false_eq_true,g4,g5,g7,g8,g9,g10,g20,g21,f1]
 refine ⟨g.blocks.length-(j+1),by omega,j+1,_,rfl,by omega,rfl,q1,⟨hk6 _ _ s2.1 (by omega) (by rw [ff];exact s4),hk6 _ _ s2.2.1 (by omega) s5,hk6 _ _ s2.2.2.1 (by omega) s7,hk6 _ _ s2.2.2.2.1 (by omega) s8,hM5,by omega,s3,S.ms.mark (d:=nx'+1+1+1) (by omega) (by omega) (fun k o h1 h2 h3=>hk6 k o h1 (fun e=>by rw [e,s1] at h2;injection h2 with h2;rw [← h2] at h3;cases h3) h2) hd5⟩,hk6 _ _ hWlt hWk gW,by omega,hWk,hW8,by omega,fun e b hb=>?_⟩
 have em:m=m0:=by omega
 by_cases hbj:b=j
 ·subst hbj
  intro c hc kr kt kn
  rw [em] at q3 e
  exact q3 e c hc kr kt kn
 ·exact hfix em b (by omega)
structure BI (G:Nat→List Nat) (n j:Nat) (pre:List Nat) (B:List Nat):Prop where
 len:B.length=n
 lt:∀ c,B.getD c 0<18446744073709551616
 tb:∀ c u,c<n→((B.getD c 0).testBit u=true↔(u<j∧Bw G c u)∨(u=j∧c∈pre∧Dm G c j))
theorem BI.first {G:Nat→List Nat} {n:Nat}:BI G n 0 [] (List.replicate n 0):=by
 have h0:∀ c,(List.replicate n 0).getD c 0=0:=fun c=>by
  simp [List.getD_eq_getElem?_getD,List.getElem?_replicate];split <;> rfl
 refine ⟨by simp,fun c=>by rw [h0];omega,fun c u _=>by rw [h0];simp⟩
theorem BI.next {G:Nat→List Nat} {n j:Nat} {B:List Nat} (b:BI G n j (G j) B):BI G n (j+1) [] B:=by
 refine ⟨b.len,b.lt,fun c u hc=>?_⟩
 rw [b.tb c u hc]
 constructor
 ·rintro (⟨h1,h2⟩|⟨h1,h2,h3⟩)
  ·exact .inl ⟨by omega,h2⟩
  ·subst h1;exact .inl ⟨by omega,h2,h3⟩
 ·rintro (⟨h1,h2⟩|⟨_,h2,_⟩)
  ·by_cases e:u=j
   ·subst e;exact .inr ⟨rfl,h2.1,h2.2⟩
   ·exact .inl ⟨by omega,h2⟩
  ·simp at h2
theorem BI.skip {G:Nat→List Nat} {n j c:Nat} {pre B:List Nat} (b:BI G n j pre B) (h:¬ Dm G c j):BI G n j (pre++[c]) B:=by
 refine ⟨b.len,b.lt,fun d u hd=>?_⟩
 rw [b.tb d u hd,Eo,Ep]
 constructor
 ·rintro (h1|⟨h1,h2,h3⟩)
  ·exact .inl h1
  ·exact .inr ⟨h1,.inl h2,h3⟩
 ·rintro (h1|⟨h1,h2|h2,h3⟩)
  ·exact .inl h1
  ·exact .inr ⟨h1,h2,h3⟩
  ·subst h2;exact absurd h3 h
theorem BI.put {G:Nat→List Nat} {n j c:Nat} {pre B:List Nat} (b:BI G n j pre B) (hc:c<n) (hj:j<64) (h:Dm G c j):BI G n j (pre++[c]) (B.set c (B.getD c 0 ||| 2 ^ j)):=by
 have gs:=fh B c (B.getD c 0 ||| 2 ^ j)
 have hl:c<B.length:=by rw [b.len];exact hc
 refine ⟨by rw [List.length_set];exact b.len,fun d=>?_,fun d u hd=>?_⟩
 ·rw [gs d hl];split
  ·exact n7 (b.lt c) (kE hj)
  ·exact b.lt d
 ·rw [gs d hl,Eo,Ep]
  split
  ·rename_i e
   subst e
   rw [Nat.testBit_or,Nat.testBit_two_pow,Bool.or_eq_true,decide_eq_true_eq,b.tb d u hd]
   constructor
   ·rintro ((h1|⟨h1,h2,h3⟩)|h1)
    ·exact .inl h1
    ·exact .inr ⟨h1,.inl h2,h3⟩
    ·exact .inr ⟨h1.symm,.inr rfl,h⟩
   ·rintro (h1|⟨h1,h2,h3⟩)
    ·exact .inl (.inl h1)
    ·exact .inr h1.symm
  ·rename_i e
   rw [b.tb d u hd]
   constructor
   ·rintro (h1|⟨h1,h2,h3⟩)
    ·exact .inl h1
    ·exact .inr ⟨h1,.inl h2,h3⟩
   ·rintro (h1|⟨h1,h2|h2,h3⟩)
    ·exact .inl h1
    ·exact .inr ⟨h1,h2,h3⟩
    ·exact absurd h2 e
theorem BI.at {G:Nat→List Nat} {n c:Nat} {B:List Nat} (b:BI G n n [] B) (hG:∀ x,Rch G x→x<n) (hc:c<n):B[c]?=some (bkN G n c):=by
 have hl:c<B.length:=by rw [b.len];exact hc
 rw [D9 hl]
 congr 1
 have e:B[c]=B.getD c 0:=by rw [List.getD_eq_getElem?_getD,D9 hl];rfl
 rw [e]
 apply eb
 intro u
 rw [bkN,cu,Bool.eq_iff_iff,b.tb c u hc,EU,decide_eq_true_eq,cT]
 constructor
 ·rintro (⟨h1,h2⟩|⟨_,h2,_⟩)
  ·exact ⟨h1,h2⟩
  ·simp at h2
 ·rintro ⟨h1,h2⟩;exact .inl ⟨h1,h2⟩
theorem ot {P:Pi} {g:Fn} (G:GdF P g) {cD cB bo c1 c2 cb b n0:Nat} {B:List Nat} {blk:Bk} {st:ASt} {Q:AX→ASt→Prop} (hblk:g.blocks[b]?=some blk) (hn0:n0=g.blocks.length) (hb:b<n0)
  (hB:BI (nbG g) n0 b [] B)
  (g8:ah st.env 8=some (.op cD 0)) (g10:ah st.env 10=some (.op cB 0)) (g11:ah st.env 11=some (.op cb 0)) (g47:ah st.env 47=some (.fn (.func 28) [.op c1 0,.op c2 0]))
  (hD:ay st.heap cD=some (.cells [.lst 1 ((ke (nbG g) n0).map iJ)])) (gO:ay st.heap cB=some (.cells [.os bo 0 58 1 n0])) (gB:ay st.heap bo=some (.cells (B.map ce))) (gb:ay st.heap cb=some (.cells [.int .i64 b]))
  (gc1:ay st.heap c1=some (.cells (fnE g))) (gc2:ay st.heap c2=some (.cells [.int .i64 b])) (l:cD<st.nx∧cB<st.nx∧bo<st.nx∧cb<st.nx∧c1<st.nx∧c2<st.nx)
  (d:bo≠cD∧bo≠cB∧bo≠cb∧bo≠c1∧bo≠c2)
  (hQ:∀ h' n' B',st.nx+2≤n'→(∀ k o,k<st.nx→k≠bo→ay st.heap k=some o→ay h' k=some o)→ay h' st.nx=some .dfd→BI (nbG g) n0 (b+1) [] B'→ay h' bo=some (.cells (B'.map ce))→Q .normal { st with heap:=h',nx:=n',dm:=st.nx::st.dm }) :
  AW Tryd.prog (fun _ _=>false) none 107 (.rangeF (.tmp 47) #[48] qU qT) Q st:=by
 obtain ⟨l1,l2,l3,l4,l5,l6⟩:=l
 obtain ⟨d1,d2,d3,d4,d5⟩:=d
 have hn60:=G.n2
 have hdb:(ke (nbG g) n0)[b]?=some (mkP n0 fun a=>Dm (nbG g) a b):=mT hb
 have hdl:=gZ (n:=n0) (p:=fun a=>Dm (nbG g) a b) (by omega)
 have ixd:=rN hdb
 refine ku hblk (by have:=G.to2 blk (Ea hblk);omega) (c1:=c1) (c2:=c2) g47 (by decide)
  (fun pre h2 n2=>(∃ B',BI (nbG g) n0 b (pre.map Int.toNat) B'∧ay h2 bo=some (.cells (B'.map ce)))∧st.nx+2≤n2∧∀ k o,k<st.nx→k≠bo→ay st.heap k=some o→ay h2 k=some o)
  (fun x=>(12,.int .i64 x)::(48,.int .i64 x)::st.env) ?_ ?_ ?_ ?_ ?_ ?_ ?_
 ·rintro pre h2 n2 n3 ⟨a1,a2,a3⟩ hn
  exact ⟨a1,by omega,a3⟩
 ·rintro pre h2 h3 n2 ⟨⟨B',a0,a1⟩,a2,a3⟩ hk
  exact ⟨⟨B',a0,by rw [hk _ (by omega)];exact a1⟩,a2,fun k o e1 e2 e3=>by rw [hk _ (by omega)];exact a3 k o e1 e2 e3⟩
 ·rintro pre h2 n2 ⟨a1,a2,a3⟩
  exact ⟨a3 _ _ l5 (fun e=>d4 e.symm) gc1,a3 _ _ l6 (fun e=>d5 e.symm) gc2⟩
 ·intro L
  refine ⟨⟨B,hB,by rw [af,if_neg (by omega),af,if_neg (by omega)];exact gB⟩,E5 _,fun k o e1 e2 e3=>by rw [af,if_neg (by omega),af,if_neg (by omega)];exact e3⟩
 ·intro x h2 n2 l
  refine dH aI ?_
  simp -implicitDefEqProofs only [RA,ae,zp,↓reduceIte,reduceCtorEq,zq,zr,zs,zt,↓az,↓aA,↓ar,↓aq,↓aw,↓au,↓ak,↓aj,↓aC,↓aB,↓aE,↓aD,unA,ne_eq,not_true_eq_false,not_false_eq_true,qU,sB]
 ·rintro pre x suf h2 n2 l hsp hn ⟨⟨B',a0,a1⟩,a2,a3⟩
  have hxr:=gY G hblk (c:=x) (by rw [hsp];simp)
  obtain ⟨c,rfl⟩:∃ c:Nat,x=(c:Int):=⟨x.toNat,by omega⟩
  have hcn:c<n0:=by omega
  rw [show (pre++[(c:Int)]).map Int.toNat=pre.map Int.toNat++[c] by rw [Em];rfl]
  have bD:=a3 _ _ l1 (fun e=>d1 e.symm) hD
  have bO:=a3 _ _ l2 (fun e=>d2 e.symm) gO
  have bb:=a3 _ _ l4 (fun e=>d3 e.symm) gb
  have w1:=w30 (mkP n0 fun a=>Dm (nbG g) a b) c hdl (by omega)
  rw [cu,decide_eq_true hcn,Bool.true_and] at w1
  generalize mkP n0 (fun a=>Dm (nbG g) a b)=DB at w1 ixd
  refine dH aI ?_
  simp -implicitDefEqProofs only [RA,ae,zp,↓reduceIte,reduceCtorEq,zq,zr,zs,zt,↓az,↓aA,↓ar,↓aq,↓aw,↓au,↓ak,↓aj,↓aC,↓aB,↓aE,↓aD,unA,ne_eq,not_true_eq_false,not_false_eq_true,qT,sA,g8,g10,g11,bD,bO,bb,ixd]
  refine w1.use fun n3 hn3=>?_
  cases h1:dc (Dm (nbG g) c b)
  ·simp -implicitDefEqProofs only [RA,ae,zp,↓reduceIte,reduceCtorEq,zq,zr,zs,zt,↓az,↓aA,↓ar,↓aq,↓aw,↓au,↓ak,↓aj,↓aC,↓aB,↓aE,↓aD,unA,ne_eq,not_true_eq_false,not_false_eq_true,g8,g10,g11,bD,bO,bb,ixd]
   refine ⟨by omega,fun k o _ e=>e,⟨B',a0.skip fun hd=>?_,a1⟩,by omega,a3⟩
   rw [pV hd] at h1;cases h1
  ·have ic:=eu (b:=bo) (e:=58) (n:=n0) (i:=c) hcn
   have hBc:=D9 (l:=B') (i:=c) (by rw [a0.len];exact hcn)
   have hBd:B'.getD c 0=B'[c]'(by rw [a0.len];exact hcn):=by rw [List.getD_eq_getElem?_getD,hBc];rfl
   have hBl:=a0.lt c
   have a9:=a0.put hcn (by omega) (cT.1 h1)
   rw [hBd] at hBl a9
   generalize B'[c]'(by rw [a0.len];exact hcn)=v at hBc hBl a9
   have hdr:=hO (f:=ce) hBc
   have w2:=w40 v b hBl (by omega)
   have hput:=fB (f:=ce) (l:=B') (i:=c) (by rw [a0.len];exact hcn) (v ||| 2 ^ b)
   have hle:=hE (f:=ce) (l:=B') (i:=c) (by rw [a0.len];exact hcn)
   have uc:AV.int .u64 ((v ||| 2 ^ b:Nat):Int)=ce (v ||| 2 ^ b):=rfl
   rw [← uc] at hput
   simp -implicitDefEqProofs only [RA,ae,zp,↓reduceIte,reduceCtorEq,zq,zr,zs,zt,↓az,↓aA,↓ar,↓aq,↓aw,↓au,↓ak,↓aj,↓aC,↓aB,↓aE,↓aD,unA,ne_eq,not_true_eq_false,not_false_eq_true,g8,g10,g11,bD,bO,bb,ixd,ic,a1,hdr,ce,dX]
   refine w2.use fun n4 hn4=>?_
   simp -implicitDefEqProofs only [RA,ae,zp,↓reduceIte,reduceCtorEq,zq,zr,zs,zt,↓az,↓aA,↓ar,↓aq,↓aw,↓au,↓ak,↓aj,↓aC,↓aB,↓aE,↓aD,unA,ne_eq,not_true_eq_false,not_false_eq_true,g8,g10,g11,bD,bO,bb,ixd,ic,a1,hdr,ce,dX,hput,hle]
   refine ⟨by omega,fun k o e1 e2=>by rw [if_neg (by omega)];exact e2,⟨_,a9,rfl⟩,by omega,fun k o e1 e2 e3=>?_⟩
   rw [if_neg (fun e=>e2 e.symm)];exact a3 k o e1 e2 e3
 ·rintro h2 n2 hn hd ⟨⟨B',a0,a1⟩,a2,a3⟩
  rw [← e8 hblk] at a0
  exact hQ h2 n2 B' hn a3 hd a0.next a1
def lpE (x:Nat × List Nat):List AV:=[.int .i64 x.1,fg x.2]
def lpA (l:List (Nat × List Nat)):AV:=.lst 2 (l.map lpE)
theorem km (l:List (Nat × List Nat)):∀ z∈l.map lpE,z.length=2:=fun z hz=>by
 obtain ⟨r,_,rfl⟩:=List.mem_map.1 hz;rfl
theorem xG (l:List (Nat × List Nat)):eB (lpA l)=some l.length:=by simp [lpA,dt]
theorem kj (G:Nat→List Nat) (n:Nat):∀ k,(lpF G n k).length≤k
 | 0=>by simp [lpF]
 | k+1=>by
  have:=kj G n k
  rw [lpF,List.length_append];split <;> simp <;> omega
theorem xK (G:Nat→List Nat) (n h:Nat):(lbF G n h).length≤n:=by
 have:=List.length_filter_le (fun b=>dc (LI G h b)) (List.range n)
 rw [List.length_range] at this;exact this
noncomputable def lbK (G:Nat→List Nat) (h k:Nat):List Nat:=(List.range k).filter fun b=>dc (LI G h b)
theorem oC (G:Nat→List Nat) (h k:Nat):lbK G h (k+1)=lbK G h k++(if dc (LI G h k)=true then [k] else []):=by
 unfold lbK
 rw [List.range_succ,List.filter_append]
 congr 1
 simp only [List.filter_cons,List.filter_nil]
theorem rD (G:Nat→List Nat) (h k:Nat):(lbK G h k).length≤k:=by
 have:=List.length_filter_le (fun b=>dc (LI G h b)) (List.range k)
 rw [List.length_range] at this;exact this
theorem xI {P:Pi} {g:Fn} (G:GdF P g) {c6 c8 c9 c10 bo n:Nat} {B:List Nat} {st:ASt} {Q:AX→ASt→Prop} (hn:n=g.blocks.length) (hB:BI (nbG g) n n [] B) {DA:AV} (hDA:eB DA=some n)
  (g6:ah st.env 6=some (.op c6 0)) (g8:ah st.env 8=some (.op c8 0)) (g9:ah st.env 9=some (.op c9 0)) (g10:ah st.env 10=some (.op c10 0)) (g13:ah st.env 13=some .nilS) (g66:ah st.env 66=some (.int .i64 n)) (g67:ah st.env 67=some (.int .i64 0))
  (h6:ay st.heap c6=some (.cells (fnE g))) (h8:ay st.heap c8=some (.cells [DA])) (h9:ay st.heap c9=some (.cells [.int .u64 (mkP n fun x=>Rch (nbG g) x)])) (h10:ay st.heap c10=some (.cells [.os bo 0 58 1 n])) (hbo:ay st.heap bo=some (.cells (B.map ce)))
  (l:c6<st.nx∧c8<st.nx∧c9<st.nx∧c10<st.nx∧bo<st.nx)
  (hQ:∀ env' h' n' v,ah env' 13=some v→aU 65 2 h' n' v ((lpF (nbG g) n n).map lpE)→(∀ b,aS v=some b→st.nx≤b)→(∀ k o,k<st.nx→ay st.heap k=some o→ay h' k=some o)→st.nx≤n'→Q (.exit 4) ⟨env',h',n',st.dm⟩) :
  AW Tryd.prog (fun _ _=>false) none 107 (.loop lj) Q st:=by
 obtain ⟨l6,l8,l9,l10,lb⟩:=l
 have hn60:=G.n2
 have hG:=jE G
 rw [← hn] at hn60 hG
 have w16:=fun k hk=>w216 G k hk
 rw [← hn] at w16
 have ff:=bK g
 have fl:=jL g
 have ft:=iD g
 obtain ⟨n1,hn1⟩:∃ k,k=st.nx:=⟨_,rfl⟩
 obtain ⟨H1,hH1⟩:∃ k,k=st.heap:=⟨_,rfl⟩
 obtain ⟨dm1,hdm1⟩:∃ k,k=st.dm:=⟨_,rfl⟩
 rw [← hn1] at l6 l8 l9 l10 lb hQ
 rw [← hH1] at h6 h8 h9 h10 hbo hQ
 rw [← hdm1] at hQ
 refine aJ (F:=[]) (Q:=Q) (fun q st=>∃ (k:Nat) (v:AV),q=n-k∧k≤n∧ah st.env 6=some (.op c6 0)∧ah st.env 8=some (.op c8 0)∧ah st.env 9=some (.op c9 0)∧ah st.env 10=some (.op c10 0)∧ah st.env 13=some v∧ah st.env 66=some (.int .i64 n)∧ah st.env 67=some (.int .i64 k) ∧
   aU 65 2 st.heap st.nx v ((lpF (nbG g) n k).map lpE)∧(∀ b,aS v=some b→n1≤b)∧(∀ k o,k<n1→ay H1 k=some o→ay st.heap k=some o)∧n1≤st.nx∧st.dm=dm1) (n:=n) aI
  ⟨0,.nilS,rfl,by omega,g6,g8,g9,g10,g13,g66,g67,.inl ⟨rfl,rfl⟩,fun b hb=>by simp [aS] at hb,fun k o _ h=>by rw [← hH1];exact h,by omega,hdm1.symm⟩ ?_
 clear g6 g8 g9 g10 g13 g66 g67
 rintro q ⟨env,heap,nx',dm⟩ ⟨k,v,rfl,hk,g6,g8,g9,g10,g13,g66,g67,ov,hv,hfr,hnx,hdm⟩
 simp only at g6 g8 g9 g10 g13 g66 g67 ov hfr hnx hdm
 subst hdm
 have f1:=wS (i:=k) (by omega)
 have s6:=hfr _ _ l6 h6
 have s8:=hfr _ _ l8 h8
 have s9:=hfr _ _ l9 h9
 have s10:=hfr _ _ l10 h10
 have sb:=hfr _ _ lb hbo
 by_cases hc:(k:Int)<(n:Int)
 case neg =>
  have e:k=n:=by omega
  subst e
  simp -implicitDefEqProofs only [RA,ae,zp,↓reduceIte,reduceCtorEq,zq,zr,zs,zt,↓az,↓aA,↓ar,↓aq,↓aw,↓au,↓ak,↓aj,↓aC,↓aB,↓aE,↓aD,unA,ne_eq,not_true_eq_false,not_false_eq_true,lj,kw,g6,g8,g9,g10,g13,g66,g67,hc]
  exact hQ _ _ _ v (by simp [ah,g13]) ov hv hfr hnx
 have hkn:k<n:=by omega
 have ic:=eu (b:=bo) (e:=58) (n:=n) (i:=k) hkn
 have hBk:=hB.at hG hkn
 have hdr:=hO (f:=ce) hBk
 have hbl:bkN (nbG g) n k<18446744073709551616:=gZ (by omega)
 have hlp:lpF (nbG g) n (k+1)=lpF (nbG g) n k++(if dc (∃ u,Bw (nbG g) k u)=true then [(k,lbF (nbG g) n k)] else []):=rfl
 rcases ai (((bkN (nbG g) n k:Nat):Int)=0) with ⟨c1,d1⟩|⟨c1,d1⟩
 ·have hz:=oV (G:=nbG g) (n:=n) (h:=k) hG
  rw [tD (fun ⟨u,hu⟩=>hz.1 (by omega) u hu),if_neg (by simp),Eu] at hlp
  simp -implicitDefEqProofs only [RA,ae,zp,↓reduceIte,reduceCtorEq,zq,zr,zs,zt,↓az,↓aA,↓ar,↓aq,↓aw,↓au,↓ak,↓aj,↓aC,↓aB,↓aE,↓aD,unA,ne_eq,not_true_eq_false,not_false_eq_true,lj,kw,g6,g8,g9,g10,g13,g66,g67,hc,s10,ic,sb,hdr,ce,dX,eqL,eqC,d1,EZ,f1]
  exact ⟨n-(k+1),by omega,k+1,v,rfl,by omega,rfl,rfl,by rw [hlp];exact ov,hv,hfr,hnx⟩
 have hex:∃ u,Bw (nbG g) k u:=by
  refine Classical.byContradiction fun h=>c1 ?_
  have:=(oV (G:=nbG g) (n:=n) (h:=k) hG).2 fun u hu=>h ⟨u,hu⟩
  omega
 rw [pV hex,if_pos rfl] at hlp
 have w1:=w16 k hkn
 rw [ff] at fl ft s6 w1
 generalize bkN (nbG g) n k=bw at *
 have m6:(nx'=c6)=False:=eq_false (by omega)
 have m8:(nx'=c8)=False:=eq_false (by omega)
 have m9:(nx'=c9)=False:=eq_false (by omega)
 have m10:(nx'=c10)=False:=eq_false (by omega)
 have mb:(nx'=bo)=False:=eq_false (by omega)
 simp -implicitDefEqProofs only [RA,ae,zp,↓reduceIte,reduceCtorEq,zq,zr,zs,zt,↓az,↓aA,↓ar,↓aq,↓aw,↓au,↓ak,↓aj,↓aC,↓aB,↓aE,↓aD,unA,ne_eq,not_true_eq_false,not_false_eq_true,lj,kw,g6,g8,g9,g10,g13,g66,g67,hc,s6,s8,s9,s10,ic,sb,hdr,ce,dX,eqL,eqC,d1,EZ,m6,m8,m9,m10,mb,fl,ft]
 refine w1.use fun k2 hk2=>?_
 intro _
 have m7:(k2=c8)=False:=eq_false (by omega)
 simp -implicitDefEqProofs only [RA,ae,zp,↓reduceIte,reduceCtorEq,zq,zr,zs,zt,↓az,↓aA,↓ar,↓aq,↓aw,↓au,↓ak,↓aj,↓aC,↓aB,↓aE,↓aD,unA,ne_eq,not_true_eq_false,not_false_eq_true,List.nil_append,g6,g8,g9,g10,g13,g66,g67,s6,s8,s9,s10,sb,m6,m7,m8,m9,m10,mb,hDA]
 obtain ⟨cE,hcE⟩:∃ c,c=nx':=⟨_,rfl⟩
 have hbs:=fun b (h:b<n)=>(show (mkP n fun x=>LI (nbG g) k x).testBit b=dc (LI (nbG g) k b) by rw [cu,decide_eq_true h,Bool.true_and])
 have hLl:(mkP n fun x=>LI (nbG g) k x)<18446744073709551616:=gZ (by omega)
 generalize (mkP n fun x=>LI (nbG g) k x)=LM at hbs hLl ⊢
 refine iO (fun q st=>∃ (b:Nat) (v2:AV),q=n-b∧b≤n∧ah st.env 6=some (.op c6 0)∧ah st.env 8=some (.op c8 0)∧ah st.env 9=some (.op c9 0)∧ah st.env 10=some (.op c10 0)∧ah st.env 13=some v∧ah st.env 66=some (.int .i64 n)∧ah st.env 67=some (.int .i64 k) ∧
   ah st.env 15=some (.op cE 0)∧ah st.env 16=some (.op k2 0)∧ah st.env 87=some (.int .i64 n)∧ah st.env 88=some (.int .i64 b)∧ay st.heap cE=some (.cells [.int .i64 k,v2])∧ay st.heap k2=some (.cells [.int .u64 LM]) ∧
   aU 3 1 st.heap st.nx v2 (inN (lbK (nbG g) k b))∧(∀ b,aS v2=some b→nx'<b∧b≠k2)∧(∀ k o,k<nx'→ay heap k=some o→ay st.heap k=some o)∧k2<st.nx∧st.dm=dm) 6
  (fun st=>∃ v2:AV,ah st.env 6=some (.op c6 0)∧ah st.env 8=some (.op c8 0)∧ah st.env 9=some (.op c9 0)∧ah st.env 10=some (.op c10 0)∧ah st.env 13=some v∧ah st.env 66=some (.int .i64 n)∧ah st.env 67=some (.int .i64 k) ∧
   ah st.env 15=some (.op cE 0)∧ay st.heap cE=some (.cells [.int .i64 k,v2]) ∧
   aU 3 1 st.heap st.nx v2 (inN (lbF (nbG g) n k))∧(∀ b,aS v2=some b→nx'<b∧b≠k2)∧(∀ k o,k<nx'→ay heap k=some o→ay st.heap k=some o)∧nx'<st.nx∧st.dm=dm) (n:=n) aI
  ⟨0,.nilS,rfl,by omega,by simp [ah,g6],by simp [ah,g8],by simp [ah,g9],by simp [ah,g10],by simp [ah,g13],by simp [ah,g66],by simp [ah,g67],by simp [ah,hcE],by simp [ah],by simp [ah],by simp [ah],
   by simp only;rw [af,if_neg (by omega),af,if_neg (by omega),af,if_pos hcE.symm],by simp only;rw [af,if_pos rfl],.inl ⟨rfl,rfl⟩,fun b hb=>by simp [aS] at hb,
   fun k o h1 h2=>by simp only;rw [af,if_neg (by omega),af,if_neg (by omega),af,if_neg (by omega),af,if_neg (by omega)];exact h2,by simp only;omega,rfl⟩ ?_ ?_
 ·clear g6 g8 g9 g10 g13 g66 g67
  rintro q ⟨env,heap2,nx2,dm2⟩ ⟨b,v2,rfl,hb,g6,g8,g9,g10,g13,g66,g67,g15,g16,g87,g88,e1,e2,ov2,hv2,hfr2,hlt2,hdm2⟩
  simp only at g6 g8 g9 g10 g13 g66 g67 g15 g16 g87 g88 e1 e2 ov2 hfr2 hlt2 hdm2
  subst hdm2
  have f2:=wS (i:=b) (by omega)
  by_cases hcb:(b:Int)<(n:Int)
  case neg =>
   have e:b=n:=by omega
   subst e
   simp -implicitDefEqProofs only [RA,ae,zp,↓reduceIte,reduceCtorEq,zq,zr,zs,zt,↓az,↓aA,↓ar,↓aq,↓aw,↓au,↓ak,↓aj,↓aC,↓aB,↓aE,↓aD,unA,ne_eq,not_true_eq_false,not_false_eq_true,cU,dv,dw,dx,qR,nF,g6,g8,g9,g10,g13,g66,g67,g15,g16,g87,g88,hcb]
   exact ⟨v2,e1,ov2,hv2,hfr2,by omega⟩
  have hbn:b<n:=by omega
  have w2:=w30 LM b hLl (by omega)
  rw [hbs b hbn] at w2
  have hlk:=oC (nbG g) k b
  simp -implicitDefEqProofs only [RA,ae,zp,↓reduceIte,reduceCtorEq,zq,zr,zs,zt,↓az,↓aA,↓ar,↓aq,↓aw,↓au,↓ak,↓aj,↓aC,↓aB,↓aE,↓aD,unA,ne_eq,not_true_eq_false,not_false_eq_true,cU,dv,dw,dx,qR,nF,g6,g8,g9,g10,g13,g66,g67,g15,g16,g87,g88,hcb,e1,e2]
  refine w2.use fun n3 hn3=>?_
  cases hd:dc (LI (nbG g) k b)
  ·rw [hd,if_neg (by simp),Eu] at hlk
   simp -implicitDefEqProofs only [RA,ae,zp,↓reduceIte,reduceCtorEq,zq,zr,zs,zt,↓az,↓aA,↓ar,↓aq,↓aw,↓au,↓ak,↓aj,↓aC,↓aB,↓aE,↓aD,unA,ne_eq,not_true_eq_false,not_false_eq_true,cU,dv,dw,dx,g6,g8,g9,g10,g13,g66,g67,g15,g16,g87,g88,f2]
   exact ⟨n-(b+1),by omega,b+1,v2,rfl,by omega,rfl,e1,e2,by rw [hlk];exact ov2.mono hn3,hv2,hfr2,by omega⟩
  ·rw [hd,if_pos rfl] at hlk
   have hll:=rD (nbG g) k b
   obtain ⟨v',h4,n4,ea,og,hle,fr,id⟩:=(ov2.mono (nx':=n3) hn3).grw (bytes:=8) (ns:=[inE (b:Int)]) (iB _) (by simp [inE]) (by simp [inN];omega) (by simp [maxLen,inN];omega)
   rw [inE] at ea
   have hcE2:aS v2≠some cE:=fun e=>by have:=(hv2 _ e).1;omega
   have hk22:aS v2≠some k2:=fun e=>(hv2 _ e).2 rfl
   have hpl:v'.plain=true∧cellsOf v'=[v']:=by
    rcases og with ⟨rfl,_⟩|⟨c,rfl,_⟩ <;> exact ⟨rfl,rfl⟩
   obtain ⟨hp1,hp2⟩:=hpl
   have e3:=fr _ _ (by omega) e1 hcE2
   have e4:=fr _ _ (by omega) e2 hk22
   simp -implicitDefEqProofs only [RA,ae,zp,↓reduceIte,reduceCtorEq,zq,zr,zs,zt,↓az,↓aA,↓ar,↓aq,↓aw,↓au,↓ak,↓aj,↓aC,↓aB,↓aE,↓aD,unA,ne_eq,not_true_eq_false,not_false_eq_true,cU,dv,dw,dx,g6,g8,g9,g10,g13,g66,g67,g15,g16,g87,g88,f2,e1,e2,ea,e3,hp1,hp2]
   have hv4:∀ b,aS v'=some b→nx'<b∧b≠k2:=fun c h=>by
    rcases id _ h with h1|h1
    ·exact ⟨by omega,by omega⟩
    ·exact hv2 _ h1
   refine ⟨n-(b+1),by omega,b+1,v',rfl,by omega,rfl,rfl,by rw [if_neg (by omega)];exact e4,?_,hv4,fun c o h1 h2=>?_,by omega⟩
   ·rw [hlk,inN,Em]
    refine og.keep (E5 _) fun c o h1 h2=>?_
    rw [af,if_neg (by have:=(hv4 _ h1).1;omega)];exact h2
   ·rw [if_neg (by omega)]
    exact fr _ _ (by omega) (hfr2 _ _ h1 h2) fun e=>by have:=(hv2 _ e).1;omega
 ·clear g6 g8 g9 g10 g13 g66 g67
  rintro ⟨env,heap2,nx2,dm2⟩ ⟨v2,g6,g8,g9,g10,g13,g66,g67,g15,e1,ov2,hv2,hfr2,hlt2,hdm2⟩
  simp only at g6 g8 g9 g10 g13 g66 g67 g15 e1 ov2 hfr2 hlt2 hdm2
  subst hdm2
  have ov3:aU 3 1 (bQ heap2 cE) nx2 v2 (inN (lbF (nbG g) n k)):=ov2.keep (E5 _) fun c o h1 h2=>by
   rw [bq (by have:=(hv2 _ h1).1;omega)];exact h2
  obtain ⟨h3,hf3,hk3⟩:=ov3.frz2 (iB _)
  have hfz:=Frz.pt e1 (.cons (.refl _ _) rfl (.cons hf3 rfl (.nil _)))
  refine ⟨15,_,_,_,g15,hfz,?_⟩
  have hfr3:∀ k o,k<nx'→ay heap k=some o→ay h3 k=some o:=fun c o h1 h2 =>
   hk3 c o (by rw [bq (by omega)];exact hfr2 c o h1 h2) fun y e=>by have:=(hv2 c (by rw [e];rfl)).1;omega
  have ov4:aU 65 2 h3 nx2 v ((lpF (nbG g) n k).map lpE):=ov.keep (by omega) fun c o h1 h2=>hfr3 c o (ov.blk h1).2.2 h2
  have hpl:=kj (nbG g) n k
  obtain ⟨v',h4,n4,ea,og,hle,fr,id⟩:=ov4.grw (bytes:=32) (ns:=[lpE (k,lbF (nbG g) n k)]) (km _) (by simp [lpE]) (by simp;omega) (by simp [maxLen];omega)
  rw [lpE] at ea
  simp only [fg] at ea
  simp -implicitDefEqProofs only [RA,ae,zp,↓reduceIte,reduceCtorEq,zq,zr,zs,zt,↓az,↓aA,↓ar,↓aq,↓aw,↓au,↓ak,↓aj,↓aC,↓aB,↓aE,↓aD,unA,ne_eq,not_true_eq_false,not_false_eq_true,g6,g8,g9,g10,g13,g66,g67,g15,ea,f1]
  refine ⟨n-(k+1),by omega,k+1,v',rfl,by omega,rfl,rfl,?_,fun c h=>?_,fun c o h1 h2=>?_,by omega⟩
  ·rw [hlp,Em];exact og
  ·rcases id _ h with h1|h1
   ·omega
   ·exact hv _ h1
  ·exact fr _ _ (by omega) (hfr3 _ _ (by omega) (hfr _ _ h1 h2)) fun e=>by have:=hv _ e;omega
end Go.Proofs.YtkhjclmfbmfahaaDoor
