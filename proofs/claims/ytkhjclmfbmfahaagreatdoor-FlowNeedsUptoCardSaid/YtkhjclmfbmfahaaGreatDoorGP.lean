/- Codes, part 1. -/
import Derived.Test.YtkhjclmfbmfahaaGreatDoorGO
import Derived.Test.YtkhjclmfbmfahaaGreatDoorRows
import Derived.KernelRfl
namespace Go.Proofs.YtkhjclmfbmfahaaGreatDoor
open List renaming getElem?_eq_getElem → Fo, mem_of_getElem? → Fp, take_of_length_le → Fs, length_nil → Fv, map_append → FC, append_nil → FM, any_eq_true → F1
open Bool renaming and_eq_true → Gd
set_option maxHeartbeats 64000000
open Go Go.Ab Go.Sa Go.Proofs
open Nat renaming reduceEqDiff → zp, reduceAdd → zq, reduceLeDiff → zr, reduceLT → zs, reduceBEq → zt
set_option maxRecDepth 100000
def xj:CX (.seq (.seq (r [m 43 12,m 44 6,m 45 11,s 46 (.idxA 2 (t 44) (t 45)),fa 47 0 46,l 48 47,s 49 (.len (t 48)),s 50 (.bin .lss (t 43) (t 49))]) (.cond (t 50) .skip (.exit 2))) (.seq (.block 3 (r [m 53 6,m 54 11,s 55 (.idxA 2 (t 53) (t 54)),fa 56 0 55,l 57 56,m 58 12,s 59 (.idxA 1 (t 57) (t 58)),sn (.store 1 (t 59) (.const (.string ⟨#[119,114,105,116,116,101,110]⟩)))])) (r [m 51 12,s 52 (.bin .add (t 51) (i 1)),m 12 52]))):=⟨_,by simp only [QQ];rfl⟩
def Cx:aF:=xj.1
def xi:CX (.seq (.seq (r [m 37 11,m 38 6,s 39 (.len (t 38)),s 40 (.bin .lss (t 37) (t 39))]) (.cond (t 40) .skip (.exit 0))) (.seq (.block 1 (.seq (r [s 12 (.move (i 0))]) (.block 2 (.loop Cx)))) (r [m 41 11,s 42 (.bin .add (t 41) (i 1)),m 11 42]))):=⟨_,by simp only [QQ];rfl⟩
def Cw:aF:=xi.1
def A3p:CX (.seq (r [s 2 (.box (t 0)),s 4 (.move b0)]) (.seq (.seq (r [s 13 (.load 1 true (t 2)),c 14 5 [(t 13)]]) (.cond (t 14) (.seq (r [s 4 (.move b1)]) .ret) .skip)) (.seq (r [s 15 (.load 1 true (t 2)),c 16 6 [(t 15)],s 5 (.alloc [.nilS]),sn (.store 1 (t 5) (t 16))]) (.seq (r [s 18 (.load 1 true (t 2)),m 19 1,c 20 7 [(t 18),(t 19)],m 17 20,e 21 17 0,e 22 17 1,m 6 21,m 7 22]) (.seq (r [s 24 (.load 1 true (t 2)),m 25 1,c 26 8 [(t 24),(t 25)],m 23 26,e 27 23 0,e 28 23 1,m 8 27,m 9 28]) (.seq (r [m 29 6,m 30 8,c 31 9 [(t 29),(t 30)],m 32 31,gt 33 32 (.move (t 7)),gt 34 32 (.move (t 9)),gt 35 32 (.bin .eql (t 33) (t 34)),s 36 (.pick (t 32) (t 35) b0),m 10 36]) (.seq (.seq (r [s 11 (.move (i 0))]) (.block 0 (.loop Cw))) (.seq (r [m 60 10,m 61 60,gt 62 61 (.load 1 true (t 2)),gt 63 61 (.load 1 true (t 5)),tc 64 61 10 [(t 62),(t 63)],s 65 (.pick (t 61) (t 64) b0),m 4 65]) .ret)))))))):=⟨_,by simp only [QQ];rfl⟩
def A3:aF:=A3p.1
def R3:List RV:=[.tmp 4]
theorem is3:Is Tryz.prog (fun _ _=>false) 3 66 A3 R3:=⟨Tryz.f3,Tryz.func3,rfl,by kernel_rfl,by kernel_rfl,Tryz.call3⟩
def Al:CX (r [m 14 50]):=⟨_,by simp only [QQ];rfl⟩
def Cm:aF:=Al.1
def Ak:CX (.block 5 (.dregion [⟨0,l 51 11,[]⟩,⟨1,l 52 13,[]⟩,⟨2,l 53 11,[]⟩,⟨3,l 54 13,[]⟩,⟨4,s 55 (.idxA 1 (t 53) (t 54)),[]⟩,⟨5,s 56 (.load 1 true (t 55)),[]⟩,⟨6,l 57 10,[]⟩,⟨7,m 58 14,[]⟩,⟨8,s 59 (.idxA 1 (t 57) (t 58)),[]⟩,⟨9,s 60 (.load 1 true (t 59)),[]⟩,⟨10,c 61 26 [(t 56),(t 60)],[0,1]⟩,⟨11,s 62 (.idxA 1 (t 51) (t 52)),[]⟩,⟨12,sn (.store 1 (t 62) (t 61)),[]⟩])):=⟨_,by simp only [QQ];rfl⟩
def Ck:aF:=Ak.1
def Aj:CX (.seq (.dregion [⟨0,s 74 (.load 1 true (t 15)),[]⟩,⟨1,l 75 11,[]⟩,⟨2,l 76 13,[]⟩,⟨3,s 77 (.idxA 1 (t 75) (t 76)),[]⟩,⟨4,s 78 (.load 1 true (t 77)),[]⟩,⟨5,s 79 (.load 1 true (t 16)),[]⟩,⟨6,⟨(some 80),none,.callZ (.func 28) [(t 78),(t 79)]⟩,[0]⟩,⟨7,⟨(some 81),none,.callZ (.func 26) [(t 74),(t 80)]⟩,[]⟩,⟨8,s 17 (.alloc [(.int .u64 0)]),[0,1,2,3,4,5]⟩,⟨9,sn (.store 1 (t 17) (t 81)),[]⟩]) (.seq (.dregion [⟨0,m 82 12,[]⟩,⟨1,m 83 82,[]⟩,⟨2,gf 84 83 (.load 1 true (t 17)),[]⟩,⟨3,fl 85 83 10,[]⟩,⟨4,fl 86 83 13,[]⟩,⟨5,gf 87 83 (.idxA 1 (t 85) (t 86)),[]⟩,⟨6,gf 88 83 (.load 1 true (t 87)),[]⟩,⟨7,gf 89 83 (.eqS true [.int] (t 84) (t 88)),[]⟩,⟨8,s 90 (.pick (t 83) b1 (t 89)),[]⟩,⟨9,m 12 90,[]⟩]) (r [l 91 10,l 92 13,s 93 (.load 1 true (t 17)),s 94 (.idxA 1 (t 91) (t 92)),sn (.store 1 (t 94) (t 93))]))):=⟨_,by simp only [QQ];rfl⟩
def Ci:aF:=Aj.1
def wL:CX (.seq (.seq (r [l 43 13,s 44 (.bin .geq (t 43) (i 0))]) (.cond (t 44) .skip (.exit 2))) (.seq (.block 3 (.seq (.seq (r [s 47 (.load 5 true (t 6)),l 48 13,c 49 25 [(t 47),(t 48)]]) (.block 4 (.rangeF (t 49) #[50] Cm Ck))) (.seq (.tregion (.step ⟨0,fa 64 0 6,[]⟩ (.step ⟨1,fa 65 4 64,[]⟩ (.step ⟨2,l 66 65,[]⟩ (.step ⟨3,l 67 13,[]⟩ (.step ⟨4,s 68 (.idxA 5 (t 66) (t 67)),[]⟩ (.step ⟨5,s 69 (.load 5 true (t 68)),[]⟩ (.step ⟨6,l 70 8,[]⟩ (.alt (.step ⟨7,c 71 27 [(t 69),(t 70)],[]⟩ (.step ⟨8,m 63 71,[]⟩ (.step ⟨9,e 72 63 0,[]⟩ (.step ⟨10,e 73 63 1,[]⟩ (.alt (.step ⟨11,s 15 (.alloc [(.int .u64 0)]),[0,1,2,3,4,5,6,8,9,10]⟩ (.step ⟨12,s 16 (.alloc [(.int .u64 0)]),[0,1,2,3,4,5,6,8,9,10]⟩ (.step ⟨13,sn (.store 1 (t 15) (t 72)),[10]⟩ (.step ⟨14,sn (.store 1 (t 16) (t 73)),[]⟩ .nil)))) (.step ⟨12,s 16 (.alloc [(.int .u64 0)]),[0,1,2,3,4,5,6,8,9,10]⟩ (.step ⟨11,s 15 (.alloc [(.int .u64 0)]),[0,1,2,3,4,5,6,8,9,10]⟩ (.step ⟨13,sn (.store 1 (t 15) (t 72)),[10]⟩ (.step ⟨14,sn (.store 1 (t 16) (t 73)),[]⟩ .nil))))))))) (.alt (.step ⟨11,s 15 (.alloc [(.int .u64 0)]),[0,1,2,3,4,5,6]⟩ (.alt (.step ⟨7,c 71 27 [(t 69),(t 70)],[]⟩ (.step ⟨8,m 63 71,[]⟩ (.step ⟨9,e 72 63 0,[]⟩ (.step ⟨10,e 73 63 1,[]⟩ (.step ⟨12,s 16 (.alloc [(.int .u64 0)]),[0,1,2,3,4,5,6,8,9,10]⟩ (.step ⟨13,sn (.store 1 (t 15) (t 72)),[10]⟩ (.step ⟨14,sn (.store 1 (t 16) (t 73)),[]⟩ .nil))))))) (.step ⟨12,s 16 (.alloc [(.int .u64 0)]),[0,1,2,3,4,5,6]⟩ (.step ⟨7,c 71 27 [(t 69),(t 70)],[]⟩ (.step ⟨8,m 63 71,[]⟩ (.step ⟨9,e 72 63 0,[]⟩ (.step ⟨10,e 73 63 1,[]⟩ (.step ⟨13,sn (.store 1 (t 15) (t 72)),[10]⟩ (.step ⟨14,sn (.store 1 (t 16) (t 73)),[]⟩ .nil))))))))) (.step ⟨12,s 16 (.alloc [(.int .u64 0)]),[0,1,2,3,4,5,6]⟩ (.alt (.step ⟨7,c 71 27 [(t 69),(t 70)],[]⟩ (.step ⟨8,m 63 71,[]⟩ (.step ⟨9,e 72 63 0,[]⟩ (.step ⟨10,e 73 63 1,[]⟩ (.step ⟨11,s 15 (.alloc [(.int .u64 0)]),[0,1,2,3,4,5,6,8,9,10]⟩ (.step ⟨13,sn (.store 1 (t 15) (t 72)),[10]⟩ (.step ⟨14,sn (.store 1 (t 16) (t 73)),[]⟩ .nil))))))) (.step ⟨11,s 15 (.alloc [(.int .u64 0)]),[0,1,2,3,4,5,6]⟩ (.step ⟨7,c 71 27 [(t 69),(t 70)],[]⟩ (.step ⟨8,m 63 71,[]⟩ (.step ⟨9,e 72 63 0,[]⟩ (.step ⟨10,e 73 63 1,[]⟩ (.step ⟨13,sn (.store 1 (t 15) (t 72)),[10]⟩ (.step ⟨14,sn (.store 1 (t 16) (t 73)),[]⟩ .nil))))))))))))))))))) Ci))) (.seq (.seq (r [l 95 13]) (r [s 13 (.alloc [(.int .i64 0)]),sn (.store 1 (t 13) (t 95))])) (r [l 45 13,s 46 (.bin .sub (t 45) (i 1)),sn (.store 1 (t 13) (t 46))])))):=⟨_,by simp only [QQ];rfl⟩
def Cj:aF:=wL.1
def wK:CX (.seq (.seq (r [m 40 12]) (.cond (t 40) .skip (.exit 0))) (.block 1 (.seq (r [s 12 (.move b0)]) (.seq (r [m 41 9,s 42 (.bin .sub (t 41) (i 1)),s 13 (.alloc [(.int .i64 0)]),sn (.store 1 (t 13) (t 42))]) (.block 2 (.loop Cj)))))):=⟨_,by simp only [QQ];rfl⟩
def zL:aF:=wK.1
def wJ:CX (.seq (r [s 99 (.bin .lss (t 98) (t 97))]) (.seq (.cond (t 99) .skip (.exit 6)) (.seq (.block 7 (.seq (r [m 100 98,m 20 100]) (.dregion [⟨0,m 101 19,[]⟩,⟨1,m 102 18,[]⟩,⟨2,l 103 10,[]⟩,⟨3,m 104 20,[]⟩,⟨4,s 105 (.idxA 1 (t 103) (t 104)),[]⟩,⟨5,s 106 (.load 1 true (t 105)),[]⟩,⟨7,m 108 18,[]⟩,⟨8,l 109 11,[]⟩,⟨9,m 110 20,[]⟩,⟨10,s 111 (.idxA 1 (t 109) (t 110)),[]⟩,⟨11,s 112 (.load 1 true (t 111)),[]⟩,⟨6,⟨(some 107),none,.call (t 102) [(t 106)]⟩,[0,7,8,9,10,11]⟩,⟨12,⟨(some 113),none,.call (t 108) [(t 112)]⟩,[0]⟩,⟨13,s 114 (.build [.nilS,.nilS] [(0,1,(t 107)),(1,1,(t 113))]),[]⟩,⟨14,s 115 (.buildF [.nilS,.nilS] 1 [(0,(t 114))]),[]⟩,⟨15,s 116 (.app 36 2 48 (t 101) (t 115)),[]⟩,⟨16,m 19 116,[]⟩]))) (r [s 117 (.bin .add (t 98) (i 1)),m 98 117])))):=⟨_,by simp only [QQ];rfl⟩
def zK:aF:=wJ.1
def Ai:CX (.seq (.seq (r [s 12 (.move b1)]) (.block 0 (.loop zL))) (.seq (r [s 96 (.mkfn (.func 29) [(t 8)]),m 18 96]) (.seq (r [s 19 (.move ns)]) (.seq (.seq (r [m 97 9,s 98 (.move (i 0))]) (.block 6 (.loop zK))) (.seq (r [m 118 19,m 4 118,s 5 (.move (i 0))]) .ret))))):=⟨_,by simp only [QQ];rfl⟩
def Ch:aF:=Ai.1
def A7p:CX (.seq (r [s 2 (.box (t 0)),s 4 (.move ns),s 5 (.move (i 0))]) (.seq (r [s 22 (.load 1 true (t 2)),m 23 1,c 24 23 [(t 22),(t 23)],m 21 24,e 25 21 0,e 26 21 1,s 6 (.alloc [(.str []),.nilS,(.int .i64 0),.nilS,.nilS]),sn (.store 5 (t 6) (t 25)),m 7 26]) (.seq (.seq (r [m 27 7,s 28 (.bin .neq (t 27) (i 0))]) (.cond (t 28) (.seq (r [m 29 7,s 4 (.move ns),m 5 29]) .ret) .skip)) (.seq (r [s 30 (.load 5 true (t 6)),c 31 24 [(t 30)],s 8 (.alloc [.nilS]),sn (.store 1 (t 8) (t 31))]) (.seq (r [fa 32 0 6,fa 33 4 32,l 34 33,s 35 (.len (t 34)),m 9 35]) (.seq (.tregion (.step ⟨0,m 36 9,[]⟩ (.step ⟨2,m 38 9,[]⟩ (.alt (.step ⟨1,s 37 (.mksl 78 [(.int .u64 0)] 8 (t 36) (t 36)),[2]⟩ (.alt (.step ⟨3,s 39 (.mksl 78 [(.int .u64 0)] 8 (t 38) (t 38)),[0]⟩ (.alt (.step ⟨4,s 10 (.alloc [.nilS]),[0,2]⟩ (.step ⟨5,s 11 (.alloc [.nilS]),[0,2]⟩ (.step ⟨6,sn (.store 1 (t 10) (t 37)),[2]⟩ (.step ⟨7,sn (.store 1 (t 11) (t 39)),[]⟩ .nil)))) (.step ⟨5,s 11 (.alloc [.nilS]),[0,2]⟩ (.step ⟨4,s 10 (.alloc [.nilS]),[0,2]⟩ (.step ⟨6,sn (.store 1 (t 10) (t 37)),[2]⟩ (.step ⟨7,sn (.store 1 (t 11) (t 39)),[]⟩ .nil)))))) (.alt (.step ⟨4,s 10 (.alloc [.nilS]),[0,2]⟩ (.alt (.step ⟨3,s 39 (.mksl 78 [(.int .u64 0)] 8 (t 38) (t 38)),[0]⟩ (.step ⟨5,s 11 (.alloc [.nilS]),[0,2]⟩ (.step ⟨6,sn (.store 1 (t 10) (t 37)),[2]⟩ (.step ⟨7,sn (.store 1 (t 11) (t 39)),[]⟩ .nil)))) (.step ⟨5,s 11 (.alloc [.nilS]),[0,2]⟩ (.alt (.step ⟨3,s 39 (.mksl 78 [(.int .u64 0)] 8 (t 38) (t 38)),[0]⟩ (.step ⟨6,sn (.store 1 (t 10) (t 37)),[2]⟩ (.step ⟨7,sn (.store 1 (t 11) (t 39)),[]⟩ .nil))) (.step ⟨6,sn (.store 1 (t 10) (t 37)),[2]⟩ (.step ⟨3,s 39 (.mksl 78 [(.int .u64 0)] 8 (t 38) (t 38)),[0]⟩ (.step ⟨7,sn (.store 1 (t 11) (t 39)),[]⟩ .nil))))))) (.step ⟨5,s 11 (.alloc [.nilS]),[0,2]⟩ (.alt (.step ⟨3,s 39 (.mksl 78 [(.int .u64 0)] 8 (t 38) (t 38)),[0]⟩ (.step ⟨4,s 10 (.alloc [.nilS]),[0,2]⟩ (.step ⟨6,sn (.store 1 (t 10) (t 37)),[2]⟩ (.step ⟨7,sn (.store 1 (t 11) (t 39)),[]⟩ .nil)))) (.step ⟨4,s 10 (.alloc [.nilS]),[0,2]⟩ (.alt (.step ⟨3,s 39 (.mksl 78 [(.int .u64 0)] 8 (t 38) (t 38)),[0]⟩ (.step ⟨6,sn (.store 1 (t 10) (t 37)),[2]⟩ (.step ⟨7,sn (.store 1 (t 11) (t 39)),[]⟩ .nil))) (.step ⟨6,sn (.store 1 (t 10) (t 37)),[2]⟩ (.step ⟨3,s 39 (.mksl 78 [(.int .u64 0)] 8 (t 38) (t 38)),[0]⟩ (.step ⟨7,sn (.store 1 (t 11) (t 39)),[]⟩ .nil)))))))))) (.alt (.step ⟨3,s 39 (.mksl 78 [(.int .u64 0)] 8 (t 38) (t 38)),[0]⟩ (.alt (.step ⟨1,s 37 (.mksl 78 [(.int .u64 0)] 8 (t 36) (t 36)),[2]⟩ (.alt (.step ⟨4,s 10 (.alloc [.nilS]),[0,2]⟩ (.step ⟨5,s 11 (.alloc [.nilS]),[0,2]⟩ (.step ⟨6,sn (.store 1 (t 10) (t 37)),[2]⟩ (.step ⟨7,sn (.store 1 (t 11) (t 39)),[]⟩ .nil)))) (.step ⟨5,s 11 (.alloc [.nilS]),[0,2]⟩ (.step ⟨4,s 10 (.alloc [.nilS]),[0,2]⟩ (.step ⟨6,sn (.store 1 (t 10) (t 37)),[2]⟩ (.step ⟨7,sn (.store 1 (t 11) (t 39)),[]⟩ .nil)))))) (.alt (.step ⟨4,s 10 (.alloc [.nilS]),[0,2]⟩ (.alt (.step ⟨1,s 37 (.mksl 78 [(.int .u64 0)] 8 (t 36) (t 36)),[2]⟩ (.step ⟨5,s 11 (.alloc [.nilS]),[0,2]⟩ (.step ⟨6,sn (.store 1 (t 10) (t 37)),[2]⟩ (.step ⟨7,sn (.store 1 (t 11) (t 39)),[]⟩ .nil)))) (.step ⟨5,s 11 (.alloc [.nilS]),[0,2]⟩ (.step ⟨1,s 37 (.mksl 78 [(.int .u64 0)] 8 (t 36) (t 36)),[2]⟩ (.step ⟨6,sn (.store 1 (t 10) (t 37)),[2]⟩ (.step ⟨7,sn (.store 1 (t 11) (t 39)),[]⟩ .nil)))))) (.step ⟨5,s 11 (.alloc [.nilS]),[0,2]⟩ (.alt (.step ⟨1,s 37 (.mksl 78 [(.int .u64 0)] 8 (t 36) (t 36)),[2]⟩ (.step ⟨4,s 10 (.alloc [.nilS]),[0,2]⟩ (.step ⟨6,sn (.store 1 (t 10) (t 37)),[2]⟩ (.step ⟨7,sn (.store 1 (t 11) (t 39)),[]⟩ .nil)))) (.step ⟨4,s 10 (.alloc [.nilS]),[0,2]⟩ (.step ⟨1,s 37 (.mksl 78 [(.int .u64 0)] 8 (t 36) (t 36)),[2]⟩ (.step ⟨6,sn (.store 1 (t 10) (t 37)),[2]⟩ (.step ⟨7,sn (.store 1 (t 11) (t 39)),[]⟩ .nil))))))))) (.alt (.step ⟨4,s 10 (.alloc [.nilS]),[0,2]⟩ (.alt (.step ⟨1,s 37 (.mksl 78 [(.int .u64 0)] 8 (t 36) (t 36)),[2]⟩ (.alt (.step ⟨3,s 39 (.mksl 78 [(.int .u64 0)] 8 (t 38) (t 38)),[0]⟩ (.step ⟨5,s 11 (.alloc [.nilS]),[0,2]⟩ (.step ⟨6,sn (.store 1 (t 10) (t 37)),[2]⟩ (.step ⟨7,sn (.store 1 (t 11) (t 39)),[]⟩ .nil)))) (.step ⟨5,s 11 (.alloc [.nilS]),[0,2]⟩ (.alt (.step ⟨3,s 39 (.mksl 78 [(.int .u64 0)] 8 (t 38) (t 38)),[0]⟩ (.step ⟨6,sn (.store 1 (t 10) (t 37)),[2]⟩ (.step ⟨7,sn (.store 1 (t 11) (t 39)),[]⟩ .nil))) (.step ⟨6,sn (.store 1 (t 10) (t 37)),[2]⟩ (.step ⟨3,s 39 (.mksl 78 [(.int .u64 0)] 8 (t 38) (t 38)),[0]⟩ (.step ⟨7,sn (.store 1 (t 11) (t 39)),[]⟩ .nil))))))) (.alt (.step ⟨3,s 39 (.mksl 78 [(.int .u64 0)] 8 (t 38) (t 38)),[0]⟩ (.alt (.step ⟨1,s 37 (.mksl 78 [(.int .u64 0)] 8 (t 36) (t 36)),[2]⟩ (.step ⟨5,s 11 (.alloc [.nilS]),[0,2]⟩ (.step ⟨6,sn (.store 1 (t 10) (t 37)),[2]⟩ (.step ⟨7,sn (.store 1 (t 11) (t 39)),[]⟩ .nil)))) (.step ⟨5,s 11 (.alloc [.nilS]),[0,2]⟩ (.step ⟨1,s 37 (.mksl 78 [(.int .u64 0)] 8 (t 36) (t 36)),[2]⟩ (.step ⟨6,sn (.store 1 (t 10) (t 37)),[2]⟩ (.step ⟨7,sn (.store 1 (t 11) (t 39)),[]⟩ .nil)))))) (.step ⟨5,s 11 (.alloc [.nilS]),[0,2]⟩ (.alt (.step ⟨1,s 37 (.mksl 78 [(.int .u64 0)] 8 (t 36) (t 36)),[2]⟩ (.alt (.step ⟨3,s 39 (.mksl 78 [(.int .u64 0)] 8 (t 38) (t 38)),[0]⟩ (.step ⟨6,sn (.store 1 (t 10) (t 37)),[2]⟩ (.step ⟨7,sn (.store 1 (t 11) (t 39)),[]⟩ .nil))) (.step ⟨6,sn (.store 1 (t 10) (t 37)),[2]⟩ (.step ⟨3,s 39 (.mksl 78 [(.int .u64 0)] 8 (t 38) (t 38)),[0]⟩ (.step ⟨7,sn (.store 1 (t 11) (t 39)),[]⟩ .nil))))) (.step ⟨3,s 39 (.mksl 78 [(.int .u64 0)] 8 (t 38) (t 38)),[0]⟩ (.step ⟨1,s 37 (.mksl 78 [(.int .u64 0)] 8 (t 36) (t 36)),[2]⟩ (.step ⟨6,sn (.store 1 (t 10) (t 37)),[2]⟩ (.step ⟨7,sn (.store 1 (t 11) (t 39)),[]⟩ .nil))))))))) (.step ⟨5,s 11 (.alloc [.nilS]),[0,2]⟩ (.alt (.step ⟨1,s 37 (.mksl 78 [(.int .u64 0)] 8 (t 36) (t 36)),[2]⟩ (.alt (.step ⟨3,s 39 (.mksl 78 [(.int .u64 0)] 8 (t 38) (t 38)),[0]⟩ (.step ⟨4,s 10 (.alloc [.nilS]),[0,2]⟩ (.step ⟨6,sn (.store 1 (t 10) (t 37)),[2]⟩ (.step ⟨7,sn (.store 1 (t 11) (t 39)),[]⟩ .nil)))) (.step ⟨4,s 10 (.alloc [.nilS]),[0,2]⟩ (.alt (.step ⟨3,s 39 (.mksl 78 [(.int .u64 0)] 8 (t 38) (t 38)),[0]⟩ (.step ⟨6,sn (.store 1 (t 10) (t 37)),[2]⟩ (.step ⟨7,sn (.store 1 (t 11) (t 39)),[]⟩ .nil))) (.step ⟨6,sn (.store 1 (t 10) (t 37)),[2]⟩ (.step ⟨3,s 39 (.mksl 78 [(.int .u64 0)] 8 (t 38) (t 38)),[0]⟩ (.step ⟨7,sn (.store 1 (t 11) (t 39)),[]⟩ .nil))))))) (.alt (.step ⟨3,s 39 (.mksl 78 [(.int .u64 0)] 8 (t 38) (t 38)),[0]⟩ (.alt (.step ⟨1,s 37 (.mksl 78 [(.int .u64 0)] 8 (t 36) (t 36)),[2]⟩ (.step ⟨4,s 10 (.alloc [.nilS]),[0,2]⟩ (.step ⟨6,sn (.store 1 (t 10) (t 37)),[2]⟩ (.step ⟨7,sn (.store 1 (t 11) (t 39)),[]⟩ .nil)))) (.step ⟨4,s 10 (.alloc [.nilS]),[0,2]⟩ (.step ⟨1,s 37 (.mksl 78 [(.int .u64 0)] 8 (t 36) (t 36)),[2]⟩ (.step ⟨6,sn (.store 1 (t 10) (t 37)),[2]⟩ (.step ⟨7,sn (.store 1 (t 11) (t 39)),[]⟩ .nil)))))) (.step ⟨4,s 10 (.alloc [.nilS]),[0,2]⟩ (.alt (.step ⟨1,s 37 (.mksl 78 [(.int .u64 0)] 8 (t 36) (t 36)),[2]⟩ (.alt (.step ⟨3,s 39 (.mksl 78 [(.int .u64 0)] 8 (t 38) (t 38)),[0]⟩ (.step ⟨6,sn (.store 1 (t 10) (t 37)),[2]⟩ (.step ⟨7,sn (.store 1 (t 11) (t 39)),[]⟩ .nil))) (.step ⟨6,sn (.store 1 (t 10) (t 37)),[2]⟩ (.step ⟨3,s 39 (.mksl 78 [(.int .u64 0)] 8 (t 38) (t 38)),[0]⟩ (.step ⟨7,sn (.store 1 (t 11) (t 39)),[]⟩ .nil))))) (.step ⟨3,s 39 (.mksl 78 [(.int .u64 0)] 8 (t 38) (t 38)),[0]⟩ (.step ⟨1,s 37 (.mksl 78 [(.int .u64 0)] 8 (t 36) (t 36)),[2]⟩ (.step ⟨6,sn (.store 1 (t 10) (t 37)),[2]⟩ (.step ⟨7,sn (.store 1 (t 11) (t 39)),[]⟩ .nil))))))))))))))) Ch)))))):=⟨_,by simp only [QQ];rfl⟩
def A7:aF:=A7p.1
def R7:List RV:=[.tmp 4,.tmp 5]
theorem is7:Is Tryz.prog (fun _ _=>false) 7 119 A7 R7:=⟨Tryz.f7,Tryz.func7,rfl,by kernel_rfl,by kernel_rfl,Tryz.call7⟩
def jt:CX (.seq (.seq (r [m 79 15,m 80 14,s 81 (.len (t 80)),s 82 (.bin .lss (t 79) (t 81))]) (.cond (t 82) .skip (.exit 4))) (.seq (.block 5 (r [m 85 13,m 86 85,gf 87 86 (.move (t 11)),gf 88 86 (.move (t 14)),gf 89 86 (.move (t 15)),gf 90 86 (.idxA 1 (t 88) (t 89)),fl 91 86 90,gf 92 86 (.idxA 1 (t 87) (t 91)),fl 93 86 92,s 94 (.pick (t 86) b1 (t 93)),m 13 94])) (r [m 83 15,s 84 (.bin .add (t 83) (i 1)),m 15 84]))):=⟨_,by simp only [QQ];rfl⟩
def nl:aF:=jt.1
def se:CX (.seq (.seq (r [m 46 12,fa 47 4 7,l 48 47,s 49 (.len (t 48)),s 50 (.bin .lss (t 46) (t 49))]) (.cond (t 50) .skip (.exit 2))) (.seq (.block 3 (.seq (.seq (r [m 53 11,m 54 12,s 55 (.idxA 1 (t 53) (t 54)),l 56 55]) (.cond (t 56) (.dregion [⟨0,m 57 8,[]⟩,⟨1,m 58 12,[]⟩,⟨2,m 59 8,[]⟩,⟨3,m 60 12,[]⟩,⟨4,s 61 (.idxA 2 (t 59) (t 60)),[]⟩,⟨5,fa 62 0 61,[]⟩,⟨6,l 63 62,[]⟩,⟨7,m 64 9,[]⟩,⟨8,m 65 10,[]⟩,⟨9,s 66 (.idxA 2 (t 64) (t 65)),[]⟩,⟨10,fa 67 0 66,[]⟩,⟨11,l 68 67,[]⟩,⟨12,s 69 (.buildF [(.str [])] 1 [(0,(t 68))]),[]⟩,⟨13,s 70 (.app 9 1 16 (t 63) (t 69)),[0,1]⟩,⟨14,s 71 (.idxA 2 (t 57) (t 58)),[]⟩,⟨15,fa 72 0 71,[]⟩,⟨16,sn (.store 1 (t 72) (t 70)),[]⟩]) .skip)) (.seq (r [s 13 (.move b0)]) (.seq (r [fa 73 4 7,l 74 73,m 75 12,s 76 (.idxA 5 (t 74) (t 75)),s 77 (.load 5 true (t 76)),c 78 33 [(t 77)],m 14 78]) (.seq (.seq (r [s 15 (.move (i 0))]) (.block 4 (.loop nl))) (.seq (r [m 95 13]) (.cond (t 95) (.dregion [⟨0,m 96 8,[]⟩,⟨1,m 97 12,[]⟩,⟨2,m 98 8,[]⟩,⟨3,m 99 12,[]⟩,⟨4,s 100 (.idxA 2 (t 98) (t 99)),[]⟩,⟨5,fa 101 1 100,[]⟩,⟨6,l 102 101,[]⟩,⟨7,m 103 9,[]⟩,⟨8,m 104 10,[]⟩,⟨9,s 105 (.idxA 2 (t 103) (t 104)),[]⟩,⟨10,fa 106 0 105,[]⟩,⟨11,l 107 106,[]⟩,⟨12,s 108 (.buildF [(.str [])] 1 [(0,(t 107))]),[]⟩,⟨13,s 109 (.app 9 1 16 (t 102) (t 108)),[0,1]⟩,⟨14,s 110 (.idxA 2 (t 96) (t 97)),[]⟩,⟨15,fa 111 1 110,[]⟩,⟨16,sn (.store 1 (t 111) (t 109)),[]⟩]) .skip))))))) (r [m 51 12,s 52 (.bin .add (t 51) (i 1)),m 12 52]))):=⟨_,by simp only [QQ];rfl⟩
def zI:aF:=se.1
def wF:CX (.seq (.seq (r [m 33 10,m 34 9,s 35 (.len (t 34)),s 36 (.bin .lss (t 33) (t 35))]) (.cond (t 36) .skip (.exit 0))) (.seq (.block 1 (.seq (.dregion [⟨0,s 39 (.load 5 true (t 7)),[]⟩,⟨1,m 40 9,[]⟩,⟨2,m 41 10,[]⟩,⟨3,s 42 (.idxA 2 (t 40) (t 41)),[]⟩,⟨4,fa 43 0 42,[]⟩,⟨5,l 44 43,[]⟩,⟨6,c 45 32 [(t 39),(t 44)],[]⟩,⟨7,m 11 45,[]⟩]) (.seq (r [s 12 (.move (i 0))]) (.block 2 (.loop zI))))) (r [m 37 10,s 38 (.bin .add (t 37) (i 1)),m 10 38]))):=⟨_,by simp only [QQ];rfl⟩
def Ce:aF:=wF.1
def A8p:CX (.seq (r [s 2 (.box (t 0)),s 4 (.move ns),s 5 (.move (i 0))]) (.seq (r [s 16 (.load 1 true (t 2)),m 17 1,c 18 31 [(t 16),(t 17)],m 6 18]) (.seq (.seq (r [m 19 6,s 20 (.bin .neq (t 19) (i 0))]) (.cond (t 20) (.seq (r [m 21 6,s 4 (.move ns),m 5 21]) .ret) .skip)) (.seq (r [fa 22 0 2,l 23 22,m 24 1,s 25 (.idxA 5 (t 23) (t 24)),s 26 (.load 5 true (t 25)),s 7 (.alloc [(.str []),.nilS,(.int .i64 0),.nilS,.nilS]),sn (.store 5 (t 7) (t 26))]) (.seq (r [fa 27 4 7,l 28 27,s 29 (.len (t 28)),s 30 (.mksl 36 [.nilS,.nilS] 48 (t 29) (t 29)),m 8 30]) (.seq (r [s 31 (.load 5 true (t 7)),c 32 19 [(t 31)],m 9 32]) (.seq (.seq (r [s 10 (.move (i 0))]) (.block 0 (.loop Ce))) (.seq (r [m 112 8,m 4 112,s 5 (.move (i 0))]) .ret)))))))):=⟨_,by simp only [QQ];rfl⟩
def A8:aF:=A8p.1
def R8:List RV:=[.tmp 4,.tmp 5]
theorem is8:Is Tryz.prog (fun _ _=>false) 8 113 A8 R8:=⟨Tryz.f8,Tryz.func8,rfl,by kernel_rfl,by kernel_rfl,Tryz.call8⟩
def wq:CX (.seq (.seq (r [m 11 5,m 12 0,s 13 (.len (t 12)),s 14 (.bin .lss (t 11) (t 13))]) (.cond (t 14) .skip (.exit 0))) (.seq (.block 1 (.seq (.dregion [⟨0,m 17 0,[]⟩,⟨1,m 18 5,[]⟩,⟨2,s 19 (.idxA 2 (t 17) (t 18)),[]⟩,⟨3,fa 20 0 19,[]⟩,⟨4,l 21 20,[]⟩,⟨5,m 22 1,[]⟩,⟨6,m 23 5,[]⟩,⟨7,s 24 (.idxA 2 (t 22) (t 23)),[]⟩,⟨8,fa 25 0 24,[]⟩,⟨9,l 26 25,[]⟩,⟨10,c 27 34 [(t 21),(t 26)],[]⟩,⟨11,s 28 (.un .not (t 27)),[]⟩,⟨12,m 29 28,[]⟩,⟨13,gf 30 29 (.move (t 0)),[]⟩,⟨14,gf 31 29 (.move (t 5)),[]⟩,⟨15,gf 32 29 (.idxA 2 (t 30) (t 31)),[]⟩,⟨16,fb 33 29 1 32,[]⟩,⟨17,fl 34 29 33,[]⟩,⟨18,gf 35 29 (.move (t 1)),[]⟩,⟨19,gf 36 29 (.move (t 5)),[]⟩,⟨20,gf 37 29 (.idxA 2 (t 35) (t 36)),[]⟩,⟨21,fb 38 29 1 37,[]⟩,⟨22,fl 39 29 38,[]⟩,⟨23,fc 40 29 34 [(t 34),(t 39)],[]⟩,⟨24,gf 41 29 (.un .not (t 40)),[]⟩,⟨25,s 42 (.pick (t 29) b1 (t 41)),[]⟩]) (.cond (t 42) (.seq (r [s 4 (.move b0)]) .ret) .skip))) (r [m 15 5,s 16 (.bin .add (t 15) (i 1)),m 5 16]))):=⟨_,by simp only [QQ];rfl⟩
def Cd:aF:=wq.1
def A9p:CX (.seq (r [s 4 (.move b0)]) (.seq (.seq (r [m 6 0,s 7 (.len (t 6)),m 8 1,s 9 (.len (t 8)),s 10 (.bin .neq (t 7) (t 9))]) (.cond (t 10) (.seq (r [s 4 (.move b0)]) .ret) .skip)) (.seq (.seq (r [s 5 (.move (i 0))]) (.block 0 (.loop Cd))) (.seq (r [s 4 (.move b1)]) .ret)))):=⟨_,by simp only [QQ];rfl⟩
def A9:aF:=A9p.1
def R9:List RV:=[.tmp 4]
theorem is9:Is Tryz.prog (fun _ _=>false) 9 43 A9 R9:=⟨Tryz.f9,Tryz.func9,rfl,by kernel_rfl,by kernel_rfl,Tryz.call9⟩
def qS:CX (.seq (r [s 13 (.bin .lss (t 12) (t 11))]) (.seq (.cond (t 13) .skip (.exit 0)) (.seq (.block 1 (.seq (r [s 14 (.idxA 2 (t 10) (t 12)),s 15 (.load 2 true (t 14)),s 5 (.alloc [(.str []),(.int .i64 0)]),sn (.store 2 (t 5) (t 15))]) (r [m 16 3,fa 17 0 5,l 18 17,s 19 (.buildF [(.str [])] 1 [(0,(t 18))]),s 20 (.app 9 1 16 (t 16) (t 19)),m 3 20]))) (r [s 21 (.bin .add (t 12) (i 1)),m 12 21])))):=⟨_,by simp only [QQ];rfl⟩
def xw:aF:=qS.1
def qR:CX (.seq (r [s 27 (.bin .lss (t 26) (t 25))]) (.seq (.cond (t 27) .skip (.exit 2)) (.seq (.block 3 (.seq (r [s 28 (.idxA 2 (t 24) (t 26)),s 29 (.load 2 true (t 28)),s 7 (.alloc [(.str []),(.int .i64 0)]),sn (.store 2 (t 7) (t 29))]) (r [m 30 3,fa 31 0 7,l 32 31,s 33 (.buildF [(.str [])] 1 [(0,(t 32))]),s 34 (.app 9 1 16 (t 30) (t 33)),m 3 34]))) (r [s 35 (.bin .add (t 26) (i 1)),m 26 35])))):=⟨_,by simp only [QQ];rfl⟩
def xu:aF:=qR.1
def E0:CX (.seq (r [s 1 (.box (t 0)),s 2 (.move ns)]) (.seq (r [s 3 (.move ns)]) (.seq (.seq (r [fa 8 0 1,fa 9 1 8,l 10 9,s 11 (.len (t 10)),s 12 (.move (i 0))]) (.block 0 (.loop xw))) (.seq (.seq (r [fa 22 0 1,fa 23 3 22,l 24 23,s 25 (.len (t 24)),s 26 (.move (i 0))]) (.block 2 (.loop xu))) (.seq (r [m 36 3,m 2 36]) .ret))))):=⟨_,by simp only [QQ];rfl⟩
def A24:aF:=E0.1
def R24:List RV:=[.tmp 2]
theorem is24:Is Tryz.prog (fun _ _=>false) 24 37 A24 R24:=⟨Tryz.f24,Tryz.func24,rfl,by kernel_rfl,by kernel_rfl,Tryz.call24⟩
def qQ:CX (.seq (r [s 13 (.bin .lss (t 12) (t 11))]) (.seq (.cond (t 13) .skip (.exit 0)) (.seq (.block 1 (.seq (r [s 14 (.idxA 4 (t 10) (t 12)),s 15 (.load 4 true (t 14)),s 7 (.alloc [(.int .u8 0),(.str []),(.str []),.nilS]),sn (.store 4 (t 7) (t 15))]) (.seq (.dregion [⟨0,s 16 (.load 1 true (t 4)),[]⟩,⟨1,fa 17 3 7,[]⟩,⟨2,l 18 17,[]⟩,⟨3,m 19 1,[]⟩,⟨5,s 21 (.load 1 true (t 5)),[]⟩,⟨4,c 20 48 [(t 18),(t 19)],[0,5]⟩,⟨6,c 22 28 [(t 20),(t 21)],[0]⟩,⟨7,c 23 26 [(t 16),(t 22)],[]⟩,⟨8,sn (.store 1 (t 4) (t 23)),[]⟩]) (.seq (r [m 24 1,fa 25 1 7,l 26 25,c 27 49 [(t 24),(t 26)],m 8 27]) (.seq (r [m 28 8,s 29 (.bin .geq (t 28) (i 0))]) (.cond (t 29) (r [s 30 (.load 1 true (t 5)),m 31 8,c 32 40 [(t 30),(t 31)],sn (.store 1 (t 5) (t 32))]) .skip)))))) (r [s 33 (.bin .add (t 12) (i 1)),m 12 33])))):=⟨_,by simp only [QQ];rfl⟩
def xr:aF:=qQ.1
def EX:CX (.seq (r [s 2 (.box (t 0)),s 4 (.alloc [(.int .u64 0)]),s 5 (.alloc [(.int .u64 0)])]) (.seq (.seq (r [fa 9 0 2,l 10 9,s 11 (.len (t 10)),s 12 (.move (i 0))]) (.block 0 (.loop xr))) (.seq (.dregion [⟨0,s 34 (.load 1 true (t 4)),[]⟩,⟨1,fa 35 1 2,[]⟩,⟨2,fa 36 2 35,[]⟩,⟨3,l 37 36,[]⟩,⟨4,m 38 1,[]⟩,⟨6,s 40 (.load 1 true (t 5)),[]⟩,⟨9,s 43 (.load 1 true (t 5)),[]⟩,⟨5,c 39 48 [(t 37),(t 38)],[0,6,9]⟩,⟨7,c 41 28 [(t 39),(t 40)],[0,9]⟩,⟨8,c 42 26 [(t 34),(t 41)],[9]⟩,⟨10,sn (.store 1 (t 4) (t 42)),[9]⟩,⟨11,sn (.store 1 (t 5) (t 43)),[]⟩]) .ret))):=⟨_,by simp only [QQ];rfl⟩
def A27:aF:=EX.1
def R27:List RV:=[.cell 4 1 true,.cell 5 1 true]
theorem is27:Is Tryz.prog (fun _ _=>false) 27 44 A27 R27:=⟨Tryz.f27,Tryz.func27,rfl,by kernel_rfl,by kernel_rfl,Tryz.call27⟩
def qP:CX (.seq (r [s 10 (.bin .lss (t 9) (t 8))]) (.seq (.cond (t 10) .skip (.exit 0)) (.seq (.block 1 (.seq (r [m 11 9,s 12 (.idxA 1 (t 7) (t 9)),l 13 12,m 5 11,m 6 13]) (.seq (r [s 14 (.load 1 true (t 2)),m 15 5,c 16 30 [(t 14),(t 15)]]) (.cond (t 16) (r [m 17 4,m 18 6,s 19 (.buildF [(.str [])] 1 [(0,(t 18))]),s 20 (.app 9 1 16 (t 17) (t 19)),m 4 20]) .skip)))) (r [s 21 (.bin .add (t 9) (i 1)),m 9 21])))):=⟨_,by simp only [QQ];rfl⟩
def xq:aF:=qP.1
def EV:CX (.seq (r [s 2 (.box (t 0)),s 3 (.move ns)]) (.seq (r [s 4 (.move ns)]) (.seq (.seq (r [l 7 1,s 8 (.len (t 7)),s 9 (.move (i 0))]) (.block 0 (.loop xq))) (.seq (r [m 22 4,m 3 22]) .ret)))):=⟨_,by simp only [QQ];rfl⟩
def A29:aF:=EV.1
def R29:List RV:=[.tmp 3]
theorem is29:Is Tryz.prog (fun _ _=>false) 29 23 A29 R29:=⟨Tryz.f29,Tryz.func29,rfl,by kernel_rfl,by kernel_rfl,Tryz.call29⟩
def jM:CX (.seq (.seq (r [m 45 10,m 46 9,s 47 (.len (t 46)),s 48 (.bin .lss (t 45) (t 47))]) (.cond (t 48) .skip (.exit 4))) (.seq (.block 5 (r [m 51 8,m 52 51,gf 53 52 (.move (t 5)),gf 54 52 (.move (t 9)),gf 55 52 (.move (t 10)),gf 56 52 (.idxA 1 (t 54) (t 55)),fl 57 52 56,gf 58 52 (.idxA 1 (t 53) (t 57)),fl 59 52 58,s 60 (.pick (t 52) b1 (t 59)),m 8 60])) (r [m 49 10,s 50 (.bin .add (t 49) (i 1)),m 10 50]))):=⟨_,by simp only [QQ];rfl⟩
def mr:aF:=jM.1
def qO:CX (.seq (.seq (r [m 16 7,fa 17 4 2,l 18 17,s 19 (.len (t 18)),s 20 (.bin .lss (t 16) (t 19))]) (.cond (t 20) .skip (.exit 2))) (.seq (.block 3 (.seq (r [fa 23 4 2,l 24 23,m 25 7,s 26 (.idxA 5 (t 24) (t 25)),s 27 (.load 5 true (t 26)),m 28 1,c 29 51 [(t 27),(t 28)],s 30 (.bin .eql (t 29) (i 1)),m 8 30]) (.seq (.seq (r [fa 31 4 2,l 32 31,m 33 7,s 34 (.idxA 5 (t 32) (t 33)),s 35 (.load 5 true (t 34)),m 36 1,c 37 51 [(t 35),(t 36)],s 38 (.bin .eql (t 37) (i 0))]) (.cond (t 38) (.seq (r [fa 39 4 2,l 40 39,m 41 7,s 42 (.idxA 5 (t 40) (t 41)),s 43 (.load 5 true (t 42)),c 44 33 [(t 43)],m 9 44]) (.seq (r [s 10 (.move (i 0))]) (.block 4 (.loop mr)))) .skip)) (.seq (r [m 61 8,m 62 61,gt 63 62 (.move (t 5)),gt 64 62 (.move (t 7)),gt 65 62 (.idxA 1 (t 63) (t 64)),tl 66 62 65,gt 67 62 (.un .not (t 66)),s 68 (.pick (t 62) (t 67) b0)]) (.cond (t 68) (.seq (r [m 69 5,m 70 7,s 71 (.idxA 1 (t 69) (t 70)),sn (.store 1 (t 71) b1)]) (r [s 6 (.move b1)])) .skip))))) (r [m 21 7,s 22 (.bin .add (t 21) (i 1)),m 7 22]))):=⟨_,by simp only [QQ];rfl⟩
def xp:aF:=qO.1
def qN:CX (.seq (.seq (r [m 15 6]) (.cond (t 15) .skip (.exit 0))) (.block 1 (.seq (r [s 6 (.move b0)]) (.seq (r [s 7 (.move (i 0))]) (.block 2 (.loop xp)))))):=⟨_,by simp only [QQ];rfl⟩
def xo:aF:=qN.1
def ES:CX (.seq (r [s 2 (.box (t 0)),s 4 (.move ns)]) (.seq (r [fa 11 4 2,l 12 11,s 13 (.len (t 12)),s 14 (.mksl 4 [(.bool false)] 1 (t 13) (t 13)),m 5 14]) (.seq (.seq (r [s 6 (.move b1)]) (.block 0 (.loop xo))) (.seq (r [m 72 5,m 4 72]) .ret)))):=⟨_,by simp only [QQ];rfl⟩
def A32:aF:=ES.1
def R32:List RV:=[.tmp 4]
theorem is32:Is Tryz.prog (fun _ _=>false) 32 73 A32 R32:=⟨Tryz.f32,Tryz.func32,rfl,by kernel_rfl,by kernel_rfl,Tryz.call32⟩
def qM:CX (.seq (.seq (r [m 11 5,m 12 0,s 13 (.len (t 12)),s 14 (.bin .lss (t 11) (t 13))]) (.cond (t 14) .skip (.exit 0))) (.seq (.block 1 (.seq (.dregion [⟨0,m 17 0,[]⟩,⟨1,m 18 5,[]⟩,⟨2,s 19 (.idxA 1 (t 17) (t 18)),[]⟩,⟨3,l 20 19,[]⟩,⟨4,m 21 1,[]⟩,⟨5,m 22 5,[]⟩,⟨6,s 23 (.idxA 1 (t 21) (t 22)),[]⟩,⟨7,l 24 23,[]⟩,⟨8,s 25 (.bin .neq (t 20) (t 24)),[]⟩]) (.cond (t 25) (.seq (r [s 4 (.move b0)]) .ret) .skip))) (r [m 15 5,s 16 (.bin .add (t 15) (i 1)),m 5 16]))):=⟨_,by simp only [QQ];rfl⟩
def xn:aF:=qM.1
def EQ:CX (.seq (r [s 4 (.move b0)]) (.seq (.seq (r [m 6 0,s 7 (.len (t 6)),m 8 1,s 9 (.len (t 8)),s 10 (.bin .neq (t 7) (t 9))]) (.cond (t 10) (.seq (r [s 4 (.move b0)]) .ret) .skip)) (.seq (.seq (r [s 5 (.move (i 0))]) (.block 0 (.loop xn))) (.seq (r [s 4 (.move b1)]) .ret)))):=⟨_,by simp only [QQ];rfl⟩
def A34:aF:=EQ.1
def R34:List RV:=[.tmp 4]
theorem is34:Is Tryz.prog (fun _ _=>false) 34 26 A34 R34:=⟨Tryz.f34,Tryz.func34,rfl,by kernel_rfl,by kernel_rfl,Tryz.call34⟩
def lj:CX (.seq (r [s 11 (.bin .lss (t 10) (t 9))]) (.seq (.cond (t 11) .skip (.exit 0)) (.seq (.block 1 (.seq (r [s 12 (.idxA 6 (t 8) (t 10)),s 13 (.load 6 true (t 12)),s 7 (.alloc [(.int .u8 0),(.int .i64 0),(.int .u64 0),(.str []),(.int .i64 0),.nilS]),sn (.store 6 (t 7) (t 13))]) (.seq (.seq (r [fa 14 0 7,l 15 14,s 16 (.bin .eql (t 15) (.const (.int .u8 2)))]) (.cond (t 16) (.dregion [⟨0,s 17 (.load 1 true (t 5)),[]⟩,⟨1,m 18 1,[]⟩,⟨2,fa 19 3 7,[]⟩,⟨3,l 20 19,[]⟩,⟨4,c 21 49 [(t 18),(t 20)],[0]⟩,⟨5,c 22 40 [(t 17),(t 21)],[]⟩,⟨6,sn (.store 1 (t 5) (t 22)),[]⟩]) .skip)) (.dregion [⟨0,s 23 (.load 1 true (t 5)),[]⟩,⟨1,fa 24 5 7,[]⟩,⟨2,l 25 24,[]⟩,⟨3,m 26 1,[]⟩,⟨4,c 27 48 [(t 25),(t 26)],[0]⟩,⟨5,c 28 26 [(t 23),(t 27)],[]⟩,⟨6,sn (.store 1 (t 5) (t 28)),[]⟩])))) (r [s 29 (.bin .add (t 10) (i 1)),m 10 29])))):=⟨_,by simp only [QQ];rfl⟩
def ph:aF:=lj.1
def Cu:CX (.seq (r [s 4 (.alloc [(.int .u64 0)])]) (.seq (r [s 5 (.alloc [(.int .u64 0)])]) (.seq (.seq (r [m 8 0,s 9 (.len (t 8)),s 10 (.move (i 0))]) (.block 0 (.loop ph))) (.seq (r [s 30 (.load 1 true (t 5)),sn (.store 1 (t 4) (t 30))]) .ret)))):=⟨_,by simp only [QQ];rfl⟩
def A48:aF:=Cu.1
def R48:List RV:=[.cell 4 1 true]
theorem C1:Is Tryz.prog (fun _ _=>false) 48 31 A48 R48:=⟨Tryz.f48,Tryz.func48,rfl,by kernel_rfl,by kernel_rfl,Tryz.call48⟩
def nB:CX (.seq (r [s 9 (.bin .lss (t 8) (t 7))]) (.seq (.cond (t 9) .skip (.exit 0)) (.seq (.block 1 (.seq (r [m 10 8,m 5 10]) (.seq (r [m 11 1,m 12 0,m 13 5,s 14 (.idxA 1 (t 12) (t 13)),l 15 14,s 16 (.bin .eql (t 11) (t 15))]) (.cond (t 16) (.seq (r [m 17 5,m 4 17]) .ret) .skip)))) (r [s 18 (.bin .add (t 8) (i 1)),m 8 18])))):=⟨_,by simp only [QQ];rfl⟩
def su:aF:=nB.1
def EI:CX (.seq (r [s 4 (.move (i 0))]) (.seq (.seq (r [m 6 0,s 7 (.len (t 6)),s 8 (.move (i 0))]) (.block 0 (.loop su))) (.seq (r [s 4 (.move (.const (.int .i64 (-1))))]) .ret))):=⟨_,by simp only [QQ];rfl⟩
def A49:aF:=EI.1
def R49:List RV:=[.tmp 4]
theorem is49:Is Tryz.prog (fun _ _=>false) 49 19 A49 R49:=⟨Tryz.f49,Tryz.func49,rfl,by kernel_rfl,by kernel_rfl,Tryz.call49⟩
def qD:CX (.seq (.seq (r [m 7 5,fa 8 0 2,l 9 8,s 10 (.len (t 9)),s 11 (.bin .lss (t 7) (t 10))]) (.cond (t 11) .skip (.exit 0))) (.seq (.block 1 (.seq (r [fa 14 0 2,l 15 14,m 16 5,s 17 (.idxA 4 (t 15) (t 16)),s 18 (.load 4 true (t 17)),s 6 (.alloc [(.int .u8 0),(.str []),(.str []),.nilS]),sn (.store 4 (t 6) (t 18))]) (.seq (.seq (r [fa 19 3 6,l 20 19,m 21 1,c 22 70 [(t 20),(t 21)]]) (.cond (t 22) (.seq (r [s 4 (.move (i 1))]) .ret) .skip)) (.seq (r [fa 23 0 6,l 24 23,s 25 (.bin .eql (t 24) (.const (.int .u8 1))),m 26 25,fb 27 26 0 6,fl 28 26 27,gf 29 26 (.bin .eql (t 28) (.const (.int .u8 3))),s 30 (.pick (t 26) b1 (t 29)),m 31 30,ta 32 31 1 6,tl 33 31 32,gt 34 31 (.move (t 1)),gt 35 31 (.bin .eql (t 33) (t 34)),s 36 (.pick (t 31) (t 35) b0)]) (.cond (t 36) (.seq (r [s 4 (.move (i 2))]) .ret) .skip))))) (r [m 12 5,s 13 (.bin .add (t 12) (i 1)),m 5 13]))):=⟨_,by simp only [QQ];rfl⟩
def xc:aF:=qD.1
def EG:CX (.seq (r [s 2 (.box (t 0)),s 4 (.move (i 0))]) (.seq (.seq (r [s 5 (.move (i 0))]) (.block 0 (.loop xc))) (.seq (.seq (r [fa 37 1 2,fa 38 2 37,l 39 38,m 40 1,c 41 70 [(t 39),(t 40)]]) (.cond (t 41) (.seq (r [s 4 (.move (i 1))]) .ret) .skip)) (.seq (r [s 4 (.move (i 0))]) .ret)))):=⟨_,by simp only [QQ];rfl⟩
def A51:aF:=EG.1
def R51:List RV:=[.tmp 4]
theorem is51:Is Tryz.prog (fun _ _=>false) 51 42 A51 R51:=⟨Tryz.f51,Tryz.func51,rfl,by kernel_rfl,by kernel_rfl,Tryz.call51⟩
def gk:CX (.seq (.seq (r [m 6 5,m 7 0,s 8 (.len (t 7)),s 9 (.bin .lss (t 6) (t 8))]) (.cond (t 9) .skip (.exit 0))) (.seq (.block 1 (.seq (r [m 12 0,m 13 5,s 14 (.idxA 6 (t 12) (t 13)),fa 15 0 14,l 16 15,s 17 (.bin .eql (t 16) (.const (.int .u8 2))),m 18 17,gt 19 18 (.move (t 0)),gt 20 18 (.move (t 5)),gt 21 18 (.idxA 6 (t 19) (t 20)),ta 22 18 3 21,tl 23 18 22,gt 24 18 (.move (t 1)),gt 25 18 (.bin .eql (t 23) (t 24)),s 26 (.pick (t 18) (t 25) b0),m 27 26,gf 28 27 (.move (t 0)),gf 29 27 (.move (t 5)),gf 30 27 (.idxA 6 (t 28) (t 29)),fb 31 27 5 30,fl 32 27 31,gf 33 27 (.move (t 1)),fc 34 27 70 [(t 32),(t 33)],s 35 (.pick (t 27) b1 (t 34))]) (.cond (t 35) (.seq (r [s 4 (.move b1)]) .ret) .skip))) (r [m 10 5,s 11 (.bin .add (t 10) (i 1)),m 5 11]))):=⟨_,by simp only [QQ];rfl⟩
def ju:aF:=gk.1
def Co:CX (.seq (r [s 4 (.move b0)]) (.seq (.seq (r [s 5 (.move (i 0))]) (.block 0 (.loop ju))) (.seq (r [s 4 (.move b0)]) .ret))):=⟨_,by simp only [QQ];rfl⟩
def A70:aF:=Co.1
def R70:List RV:=[.tmp 4]
theorem C0:Is Tryz.prog (fun _ _=>false) 70 36 A70 R70:=⟨Tryz.f70,Tryz.func70,rfl,by kernel_rfl,by kernel_rfl,Tryz.call70⟩
set_option linter.unusedVariables false
section
variable {G:Nat→List Nat} {gen kill:Nat→Nat}
inductive Lv (G:Nat→List Nat) (gen kill:Nat→Nat) (v:Nat):Nat→Prop
 | gen {b:Nat} (h:(gen b).testBit v=true):Lv G gen kill v b
 | step {b c:Nat} (hk:(kill b).testBit v=false) (hc:c∈G b) (h:Lv G gen kill v c):Lv G gen kill v b
def Lo (G:Nat→List Nat) (gen kill:Nat→Nat) (v b:Nat):Prop:=∃ c∈G b,Lv G gen kill v c
def iB (gen kill:Nat→Nat) (O:Nat→Nat) (b:Nat):Nat:=gen b ||| lsN (O b) (kill b)
structure LVI (G:Nat→List Nat) (gen kill:Nat→Nat) (I O:Nat→Nat):Prop where
 ilt:∀ b,I b<18446744073709551616
 olt:∀ b,O b<18446744073709551616
 inL:∀ b v,(I b).testBit v=true→Lv G gen kill v b
 outL:∀ b v,(O b).testBit v=true→Lo G gen kill v b
 low:∀ b v,(I b).testBit v=true→(iB gen kill O b).testBit v=true
theorem kJ {O:Nat→Nat} {b v:Nat} (ho:O b<18446744073709551616) (hk:kill b<18446744073709551616):(iB gen kill O b).testBit v=((gen b).testBit v||((O b).testBit v&&!(kill b).testBit v)):=by
 rw [iB,Nat.testBit_or,ub ho hk]
theorem LVI.first:LVI G gen kill (fun _=>0) fun _=>0:=⟨fun _=>by omega,fun _=>by omega,fun b v h=>by simp at h,fun b v h=>by simp at h,fun b v h=>by simp at h⟩
theorem LVI.out {I O O':Nat→Nat} (l:LVI G gen kill I O) (hk:∀ b,kill b<18446744073709551616) {b c:Nat} (hc:c∈G b) (h1:O' b=O b ||| I c) (h2:∀ x,x≠b→O' x=O x):LVI G gen kill I O':=by
 have hlt:∀ x,O' x<18446744073709551616:=fun x=>by
  by_cases e:x=b
  ·subst e;rw [h1];exact iD (l.olt x) (l.ilt c)
  ·rw [h2 x e];exact l.olt x
 refine ⟨l.ilt,hlt,l.inL,fun x v h=>?_,fun x v h=>?_⟩
 ·by_cases e:x=b
  ·subst e
   rw [h1,Nat.testBit_or,Bool.or_eq_true] at h
   rcases h with h|h
   ·exact l.outL x v h
   ·exact ⟨c,hc,l.inL c v h⟩
  ·rw [h2 x e] at h;exact l.outL x v h
 ·have:=l.low x v h
  rw [kJ (l.olt x) (hk x)] at this
  rw [kJ (hlt x) (hk x)]
  by_cases e:x=b
  ·subst e
   rw [h1,Nat.testBit_or]
   cases h3:(gen x).testBit v
   ·rw [h3] at this
    simp only [Bool.false_or,Gd] at this ⊢
    rw [this.1,this.2];simp
   ·rfl
  ·rw [h2 x e];exact this
theorem LVI.in_ {I O I':Nat→Nat} (l:LVI G gen kill I O) (hg:∀ b,gen b<18446744073709551616) (hk:∀ b,kill b<18446744073709551616) {b:Nat} (h1:I' b=iB gen kill O b) (h2:∀ x,x≠b→I' x=I x):LVI G gen kill I' O:=by
 have hL:∀ v,(iB gen kill O b).testBit v=true→Lv G gen kill v b:=fun v h=>by
  rw [kJ (l.olt b) (hk b),Bool.or_eq_true,Gd,Bool.not_eq_true'] at h
  rcases h with h|⟨h3,h4⟩
  ·exact .gen h
  ·obtain ⟨c,hc,hl⟩:=l.outL b v h3
   exact .step h4 hc hl
 refine ⟨fun x=>?_,l.olt,fun x v h=>?_,l.outL,fun x v h=>?_⟩
 ·by_cases e:x=b
  ·subst e;rw [h1];exact iD (hg x) (Nat.lt_of_le_of_lt (lV _ _) (l.olt x))
  ·rw [h2 x e];exact l.ilt x
 ·by_cases e:x=b
  ·subst e;rw [h1] at h;exact hL v h
  ·rw [h2 x e] at h;exact l.inL x v h
 ·by_cases e:x=b
  ·subst e;rw [h1] at h;exact h
  ·rw [h2 x e] at h;exact l.low x v h
theorem LVI.le {I O:Nat→Nat} (l:LVI G gen kill I O) (b:Nat):I b≤iB gen kill O b:=oC (l.low b)
theorem LVI.done {I O:Nat→Nat} (l:LVI G gen kill I O) (hk:∀ b,kill b<18446744073709551616) {n:Nat} (hG:∀ b,∀ c∈G b,c<n) (h1:∀ b,b<n→∀ c∈G b,∀ v,(I c).testBit v=true→(O b).testBit v=true) (h2:∀ b,b<n→iB gen kill O b=I b) :
  ∀ b,b<n→∀ v,((I b).testBit v=true↔Lv G gen kill v b)∧((O b).testBit v=true↔Lo G gen kill v b):=by
 have key:∀ v b,Lv G gen kill v b→b<n→(I b).testBit v=true:=fun v b h=>by
  induction h with
  | gen h=>intro hb;rw [← h2 _ hb,kJ (l.olt _) (hk _),h];rfl
  | @step b c hkk hc h ih =>
   intro hb
   have h3:=h1 b hb c hc v (ih (hG b c hc))
   rw [← h2 _ hb,kJ (l.olt _) (hk _),h3,hkk];simp
 intro b hb v
 refine ⟨⟨l.inL b v,fun h=>key v b h hb⟩,l.outL b v,fun ⟨c,hc,h⟩=>h1 b hb c hc v (key v c h (hG b c hc))⟩
structure NDI (G:Nat→List Nat) (gen kill:Nat→Nat) (v:Nat) (N:Nat→Bool):Prop where
 sub:∀ b,N b=true→Lv G gen kill v b
def isN (G:Nat→List Nat) (gen kill:Nat→Nat) (v:Nat) (N:Nat→Bool) (b:Nat):Bool:=(gen b).testBit v||(!(kill b).testBit v&&(G b).any N)
theorem yN {v:Nat} {N:Nat→Bool} (h:NDI G gen kill v N) {b:Nat} (hi:isN G gen kill v N b=true):Lv G gen kill v b:=by
 unfold isN at hi
 rw [Bool.or_eq_true,Gd,Bool.not_eq_true',F1] at hi
 rcases hi with h1|⟨h1,c,hc,h2⟩
 ·exact .gen h1
 ·exact .step h1 hc (h.sub c h2)
theorem NDI.done {v n:Nat} {N:Nat→Bool} (h:NDI G gen kill v N) (hG:∀ b,∀ c∈G b,c<n) (hf:∀ b,b<n→isN G gen kill v N b=true→N b=true):∀ b,b<n→(N b=true↔Lv G gen kill v b):=by
 have key:∀ b,Lv G gen kill v b→b<n→N b=true:=fun b hl=>by
  induction hl with
  | gen h1=>intro hb;refine hf _ hb ?_;unfold isN;rw [h1];rfl
  | @step b c hkk hc h1 ih =>
   intro hb
   refine hf _ hb ?_
   unfold isN
   rw [hkk,F1.2 ⟨c,hc,ih (hG b c hc)⟩];simp
 exact fun b hb=>⟨h.sub b,fun hl=>key b hl hb⟩
end
open Go Go.Ab Go.Proofs
set_option linter.unusedSimpArgs false
set_option maxRecDepth 20000
def nmE (s:Nm):List AV:=[.str s]
def nmA (l:List Nm):AV:=.lst 1 (l.map nmE)
theorem ir (l:List Nm):∀ z∈l.map nmE,z.length=1:=fun z hz=>by
 obtain ⟨r,_,rfl⟩:=List.mem_map.1 hz;rfl
theorem mQ (l:List Nm):eN (nmA l)=some l.length:=by simp [nmA,eM]
theorem mR {l:List Nm} {n:Nat} {r:Nm} (h:l[n]?=some r):idxA 1 (nmA l) (n:Int)=some (.fp [.str r]):=dB h
def ixN (s:Nm) (l:List Nm):Int:=if s∈l then (l.idxOf s:Int) else -1
theorem gZ {s:Nm}:∀ {l:List Nm} {i:Nat},l[i]?=some s→s∉l.take i→l.idxOf s=i
 | [],i,h,_=>by simp at h
 | a::r,0,h,_=>by simp at h;subst h;simp
 | a::r,i+1,h,hn=>by
  simp only [List.take_succ_cons,List.mem_cons,not_or] at hn
  have:=gZ (l:=r) (i:=i) (by simpa using h) hn.2
  rw [List.idxOf_cons,this]
  have:(a==s)=false:=by simpa using fun e:a=s=>hn.1 e.symm
  rw [this];rfl
theorem Bu {s:Nm} {l:List Nm} {i:Nat} (h:l[i]?=some s) (hn:s∉l.take i):ixN s l=i:=by
 rw [ixN,if_pos (Fp h),gZ h hn]
theorem w49 (l:List Nm) (s:Nm) (hl:l.length≤4000000):Pure Tryz.prog 49 [nmA l,.str s] (.int .i64 (ixN s l)):=by
 refine Pure.of fun nx=>AC.go aI is49 (by simp) ?_
 have lo:=mQ l
 simp -implicitDefEqProofs only [RA,ae,zp,↓reduceIte,reduceCtorEq,zq,zr,zs,zt,A49,EI,lo]
 refine aJ (fun q st=>∃ i:Nat,q=l.length-i∧i≤l.length∧ah st.env 0=some (nmA l)∧ah st.env 1=some (.str s)∧ah st.env 7=some (.int .i64 l.length)∧ah st.env 8=some (.int .i64 i)∧s∉l.take i∧st.dm=[]) (n:=l.length) aI
  ⟨0,rfl,by omega,by simp [ah],by simp [ah],by simp [ah],by simp [ah],by simp,rfl⟩ ?_
 rintro q ⟨env,heap,nx',dm⟩ ⟨i,rfl,hi,g0,g1,g7,g8,hn,hdm⟩
 simp only at g0 g1 g7 g8 hdm
 subst hdm
 have f1:=wS (i:=i) (by omega)
 by_cases hc:(i:Int)<(l.length:Int)
 case neg =>
  rw [show l.take i=l from Fs (by omega)] at hn
  have:ixN s l=-1:=if_neg hn
  simp -implicitDefEqProofs only [RA,ae,zp,↓reduceIte,reduceCtorEq,zq,zr,zs,zt,su,nB,g0,g1,g7,g8,hc,R49,this]
 have hr:=Fo (show i<l.length by omega)
 generalize l[i]=r at hr
 have ix:=mR hr
 rcases ai (s=r) with ⟨c1,d1⟩|⟨c1,d1⟩
 ·have e:=Bu (s:=s) (l:=l) (i:=i) (by rw [c1];exact hr) hn
  simp -implicitDefEqProofs only [RA,ae,zp,↓reduceIte,reduceCtorEq,zq,zr,zs,zt,su,nB,g0,g1,g7,g8,hc,ix,aG,aN,im,d1,R49,e]
 ·simp -implicitDefEqProofs only [RA,ae,zp,↓reduceIte,reduceCtorEq,zq,zr,zs,zt,su,nB,g0,g1,g7,g8,hc,ix,aG,aN,im,d1,f1]
  refine ⟨l.length-(i+1),by omega,i+1,rfl,by omega,rfl,?_⟩
  rw [aQ hr]
  simp [hn,c1]
theorem w34 (l:List Nm) (hl:l.length≤4000000):Pure Tryz.prog 34 [nmA l,nmA l] (.bool true):=by
 refine Pure.of fun nx=>AC.go aI is34 (by simp) ?_
 have lo:=mQ l
 simp -implicitDefEqProofs only [RA,ae,zp,↓reduceIte,reduceCtorEq,zq,zr,zs,zt,A34,EQ,lo]
 refine aJ (fun q st=>∃ i:Nat,q=l.length-i∧i≤l.length∧ah st.env 0=some (nmA l)∧ah st.env 1=some (nmA l)∧ah st.env 5=some (.int .i64 i)∧st.dm=[]) (n:=l.length) aI
  ⟨0,rfl,by omega,by simp [ah],by simp [ah],by simp [ah],rfl⟩ ?_
 rintro q ⟨env,heap,nx',dm⟩ ⟨i,rfl,hi,g0,g1,g5,hdm⟩
 simp only at g0 g1 g5 hdm
 subst hdm
 have f1:=wS (i:=i) (by omega)
 by_cases hc:(i:Int)<(l.length:Int)
 case neg =>
  simp -implicitDefEqProofs only [RA,ae,zp,↓reduceIte,reduceCtorEq,zq,zr,zs,zt,xn,qM,g0,g1,g5,lo,hc,R34]
 have hr:=Fo (show i<l.length by omega)
 generalize l[i]=r at hr
 have ix:=mR hr
 have s1:(r==r)=true:=by simp
 simp -implicitDefEqProofs only [RA,ae,zp,↓reduceIte,reduceCtorEq,zq,zr,zs,zt,xn,qM,g0,g1,g5,lo,hc,ix,aG,aN,s1,f1]
 exact ⟨l.length-(i+1),by omega,i+1,rfl,by omega,rfl⟩
def nmV (g:Fn):List Nm:=g.vars.map (·.1)
theorem mA (g:Fn):g.vars=g.params++g.locals:=rfl
theorem w24 (g:Fn) (h1:g.params.length≤1000000) (h2:g.locals.length≤1000000):Pure Tryz.prog 24 [.agg (fnE g)] (nmA (nmV g)):=by
 refine Pure.own (e:=9) (ir _) fun nx=>AC.go aI is24 (by simp) ?_
 have ff:=bN g
 have l1:=bW g.params
 have l2:=bW g.locals
 rw [ff]
 simp -implicitDefEqProofs only [RA,ae,zp,↓reduceIte,reduceCtorEq,zq,zr,zs,zt,↓aA,↓az,↓au,↓ar,↓ay,↓aw,↓ak,↓aj,↓aC,↓aB,↓aE,↓aD,unA,ne_eq,not_true_eq_false,not_false_eq_true,A24,E0,l1]
 refine aJ (fun q st=>∃ (i:Nat) (v:AV),q=g.params.length-i∧i≤g.params.length∧ah st.env 1=some (.op nx 0)∧ah st.env 3=some v∧ah st.env 10=some (bp g.params)∧ah st.env 11=some (.int .i64 g.params.length)∧ah st.env 12=some (.int .i64 i)∧aq st.heap nx=some (.cells [.str g.name,bp g.params,.int .i64 g.result,bp g.locals,cp g.blocks])∧aR 9 1 st.heap st.nx v (((g.params.take i).map (·.1)).map nmE)∧nx<st.nx∧aP v≠some nx∧st.dm=[]) (n:=g.params.length) aI
  ⟨0,.nilS,rfl,by omega,by simp [ah],by simp [ah],by simp [ah],by simp [ah],by simp [ah],by simp only;rw [af,if_pos rfl],.inl ⟨rfl,rfl⟩,by simp only;omega,by simp [aP],rfl⟩ ?_
 rintro q ⟨env,heap,nx',dm⟩ ⟨i,v,rfl,hi,g1,g3,g10,g11,g12,gb,ov,hlt,hne,hdm⟩
 simp only at g1 g3 g10 g11 g12 gb ov hlt hdm
 subst hdm
 have f1:=wS (i:=i) (by omega)
 by_cases hc:(i:Int)<(g.params.length:Int)
 case pos =>
  have hr:=Fo (show i<g.params.length by omega)
  generalize g.params[i]=r at hr
  have ix:=dG hr
  have ovk:aR 9 1 ((nx',AO.cells [.str r.1,.int .i64 r.2])::(nx',.cells [.str [],.int .i64 0])::heap) (nx'+1) v (((g.params.take i).map (·.1)).map nmE):=ov.keep (by omega) fun k o h1 h2=>by
   have:=(ov.blk h1).2.2
   rw [af,if_neg (by omega),af,if_neg (by omega)];exact h2
  obtain ⟨v',h4,n4,ea,og,hle,fr,id⟩:=ovk.grw (bytes:=16) (ns:=[nmE r.1]) (ir _) (by simp [nmE]) (by simp;omega) (by simp [maxLen];omega)
  rw [nmE] at ea
  have e3:=fr nx _ (by omega) (by rw [af,if_neg (by omega),af,if_neg (by omega)];exact gb) hne
  simp -implicitDefEqProofs only [RA,ae,zp,↓reduceIte,reduceCtorEq,zq,zr,zs,zt,↓aA,↓az,↓au,↓ar,↓ay,↓aw,↓ak,↓aj,↓aC,↓aB,↓aE,↓aD,unA,ne_eq,not_true_eq_false,not_false_eq_true,xw,qS,g1,g3,g10,g11,g12,hc,ix,pmE,ea,f1]
  refine ⟨g.params.length-(i+1),by omega,i+1,v',rfl,by omega,rfl,rfl,e3,?_,by omega,fun e=>?_⟩
  ·rw [aQ hr,FC,FC];exact og
  ·rcases id _ e with h|h
   ·omega
   ·exact hne h
 have ei:i=g.params.length:=by omega
 rw [show g.params.take i=g.params from Fs (by omega)] at ov
 simp -implicitDefEqProofs only [RA,ae,zp,↓reduceIte,reduceCtorEq,zq,zr,zs,zt,↓aA,↓az,↓au,↓ar,↓ay,↓aw,↓ak,↓aj,↓aC,↓aB,↓aE,↓aD,unA,ne_eq,not_true_eq_false,not_false_eq_true,xw,qS,g1,g3,g10,g11,g12,hc,gb,l2]
 refine aJ (fun q st=>∃ (i:Nat) (v:AV),q=g.locals.length-i∧i≤g.locals.length∧ah st.env 3=some v∧ah st.env 24=some (bp g.locals)∧ah st.env 25=some (.int .i64 g.locals.length)∧ah st.env 26=some (.int .i64 i)∧aR 9 1 st.heap st.nx v ((g.params.map (·.1)++(g.locals.take i).map (·.1)).map nmE)∧st.dm=[]) (n:=g.locals.length) aI
  ⟨0,v,rfl,by omega,by simp [ah,g3],by simp [ah],by simp [ah],by simp [ah],by simpa using ov,rfl⟩ ?_
 clear g1 g3 g10 g11 g12 gb ov f1 hi hc
 rintro q ⟨env,heap,nx',dm⟩ ⟨i,v,rfl,hi,g3,g24,g25,g26,ov,hdm⟩
 simp only at g3 g24 g25 g26 ov hdm
 subst hdm
 have f1:=wS (i:=i) (by omega)
 by_cases hc:(i:Int)<(g.locals.length:Int)
 case neg =>
  rw [show g.locals.take i=g.locals from Fs (by omega),← FC,← mA] at ov
  simp -implicitDefEqProofs only [RA,ae,zp,↓reduceIte,reduceCtorEq,zq,zr,zs,zt,↓aA,↓az,↓au,↓ar,↓ay,↓aw,↓ak,↓aj,↓aC,↓aB,↓aE,↓aD,unA,ne_eq,not_true_eq_false,not_false_eq_true,xu,qR,g3,g24,g25,g26,hc,R24]
  exact ⟨v,rfl,ov⟩
 have hr:=Fo (show i<g.locals.length by omega)
 generalize g.locals[i]=r at hr
 have ix:=dG hr
 have ovk:aR 9 1 ((nx',AO.cells [.str r.1,.int .i64 r.2])::(nx',.cells [.str [],.int .i64 0])::heap) (nx'+1) v ((g.params.map (·.1)++(g.locals.take i).map (·.1)).map nmE):=ov.keep (by omega) fun k o h1 h2=>by
  have:=(ov.blk h1).2.2
  rw [af,if_neg (by omega),af,if_neg (by omega)];exact h2
 obtain ⟨v',h4,n4,ea,og,hle,fr,id⟩:=ovk.grw (bytes:=16) (ns:=[nmE r.1]) (ir _) (by simp [nmE]) (by simp;omega) (by simp [maxLen];omega)
 rw [nmE] at ea
 simp -implicitDefEqProofs only [RA,ae,zp,↓reduceIte,reduceCtorEq,zq,zr,zs,zt,↓aA,↓az,↓au,↓ar,↓ay,↓aw,↓ak,↓aj,↓aC,↓aB,↓aE,↓aD,unA,ne_eq,not_true_eq_false,not_false_eq_true,xu,qR,g3,g24,g25,g26,hc,ix,pmE,ea,f1]
 refine ⟨g.locals.length-(i+1),by omega,i+1,v',rfl,by omega,rfl,rfl,?_⟩
 have e:(g.params.map (·.1)++(g.locals.take i++[r]).map (·.1)).map nmE=(g.params.map (·.1)++(g.locals.take i).map (·.1)).map nmE++[nmE r.1]:=by simp
 rw [aQ hr,e];exact og
def vsL (ns:List Nm) (l:List Tm):List Nat:=((bD l).filter fun y=>decide (y.kind=2)).map fun y=>(ixN y.name ns).toNat
def usL (ns:List Nm) (l:List Tm):Nat:=o9 (vsL ns l)
theorem o8 (a b:List Nat):o9 (a++b)=o9 a ||| o9 b:=by
 apply kT
 intro i
 rw [Nat.testBit_or,kr,kr,kr]
 by_cases h1:i∈a <;> by_cases h2:i∈b <;> simp [h1,h2]
theorem xY (ns:List Nm):usL ns []=0:=rfl
theorem tZ (ns:List Nm) (l:List Tm) (r:Tm):usL ns (l++[r])=(if r.kind=2 then usL ns l ||| 2 ^ (ixN r.name ns).toNat else usL ns l) ||| usL ns r.sub:=by
 have e:bD (l++[r])=bD l++(r::bD r.sub):=by
  rw [db,bD,bD,FM,dU]
 unfold usL vsL
 rw [e,List.filter_append,FC,o8,List.filter_cons]
 by_cases h:r.kind=2
 ·rw [decide_eq_true h,if_pos rfl,if_pos h,List.map_cons,← List.singleton_append,o8,← Nat.or_assoc]
  congr 1
  rw [show o9 [(ixN r.name ns).toNat]=0 ||| 2 ^ (ixN r.name ns).toNat from rfl,Nat.zero_or]
 ·rw [decide_eq_false h,if_neg h]
  simp
theorem AI (ns:List Nm) (l:List Tm) (i:Nat):(usL ns l).testBit i=decide (i∈vsL ns l):=kr _ _
def vOk (ns:List Nm) (l:List Tm):Prop:=∀ y∈bD l,y.kind=2→y.name∈ns
theorem vOk.take {ns:List Nm} {l:List Tm} (h:vOk ns l) (i:Nat):vOk ns (l.take i):=fun y hy=>h y (by
 have:=db (l.take i) (l.drop i)
 rw [List.take_append_drop] at this
 rw [this];exact List.mem_append_left _ hy)
theorem vOk.sub {ns:List Nm} {l:List Tm} {r:Tm} (h:vOk ns l) (hr:r∈l):vOk ns r.sub:=fun y hy=>h y (dA hr (by rw [dU];exact List.mem_cons_of_mem _ hy))
theorem pN {s:Nm} {ns:List Nm} (h:s∈ns):0≤ixN s ns∧ixN s ns<(ns.length:Int):=by
 rw [ixN,if_pos h]
 have:=List.idxOf_lt_length_iff.2 h
 omega
theorem gH {ns:List Nm} {l:List Tm} (h:vOk ns l) (hn:ns.length≤60):usL ns l<18446744073709551616:=zi fun x hx=>by
 obtain ⟨y,hy,rfl⟩:=List.mem_map.1 hx
 obtain ⟨h1,h2⟩:=List.mem_filter.1 hy
 have:=pN (h y h1 (by simpa using h2))
 omega
theorem w48 (ns:List Nm) (hn:ns.length≤60):∀ (N:Nat) (l:List Tm),bx l≤N→N≤1000000000000000→vOk ns l→Pure Tryz.prog 48 [bg l,nmA ns] (.agg [.int .u64 (usL ns l:Nat)]):=by
 intro N
 induction N with
 | zero =>
  intro l hz _ _
  have:=bJ l
  obtain rfl:l=[]:=List.eq_nil_of_length_eq_zero (by omega)
  refine Pure.of fun nx=>AC.go aI C1 (by simp) ?_
  have lo:=bw []
  have z1:(nx+1=nx)=False:=eq_false (by omega)
  simp -implicitDefEqProofs only [RA,ae,zp,↓reduceIte,reduceCtorEq,zq,zr,zs,zt,↓aA,↓az,↓au,↓ar,↓ay,↓aw,↓ak,↓aj,↓aC,↓aB,↓aE,↓aD,unA,ne_eq,not_true_eq_false,not_false_eq_true,A48,Cu,lo]
  refine aJ (fun q st=>ah st.env 4=some (.op nx 0)∧ah st.env 5=some (.op (nx+1) 0)∧ah st.env 9=some (.int .i64 ([]:List Tm).length)∧ah st.env 10=some (.int .i64 0)∧aq st.heap nx=some (.cells [.int .u64 0])∧aq st.heap (nx+1)=some (.cells [.int .u64 0])∧st.dm=[]) (n:=0) aI
   ⟨by simp [ah],by simp [ah],by simp [ah],by simp [ah],by simp only;rw [af,if_neg (by omega),af,if_pos rfl],by simp only;rw [af,if_pos rfl],rfl⟩ ?_
  rintro q ⟨env,heap,nx',dm⟩ ⟨g4,g5,g9,g10,h4,h5,hdm⟩
  simp only at g4 g5 g9 g10 h4 h5 hdm
  subst hdm
  simp -implicitDefEqProofs only [RA,ae,zp,↓reduceIte,reduceCtorEq,zq,zr,zs,zt,↓aA,↓az,↓au,↓ar,↓ay,↓aw,↓ak,↓aj,↓aC,↓aB,↓aE,↓aD,unA,ne_eq,not_true_eq_false,not_false_eq_true,ph,lj,g4,g5,g9,g10,h4,h5,Fv,show ((0:Int)<((0:Nat):Int))=False from by simp,R48,xY]
  rfl
 | succ N ih =>
  intro l hz hN hv
  have hl:=bJ l
  refine Pure.of fun nx=>AC.go aI C1 (by simp) ?_
  have lo:=bw l
  simp -implicitDefEqProofs only [RA,ae,zp,↓reduceIte,reduceCtorEq,zq,zr,zs,zt,↓aA,↓az,↓au,↓ar,↓ay,↓aw,↓ak,↓aj,↓aC,↓aB,↓aE,↓aD,unA,ne_eq,not_true_eq_false,not_false_eq_true,A48,Cu,lo]
  obtain ⟨c4,hc4⟩:∃ c,c=nx:=⟨_,rfl⟩
  obtain ⟨c5,hc5⟩:∃ c,c=nx+1:=⟨_,rfl⟩
  refine aJ (fun q st=>∃ (i:Nat),q=l.length-i∧i≤l.length∧ah st.env 1=some (nmA ns)∧ah st.env 4=some (.op c4 0)∧ah st.env 5=some (.op c5 0)∧ah st.env 8=some (bg l)∧ah st.env 9=some (.int .i64 l.length)∧ah st.env 10=some (.int .i64 i)∧aq st.heap c4=some (.cells [.int .u64 0])∧aq st.heap c5=some (.cells [.int .u64 (usL ns (l.take i):Nat)])∧c5<st.nx∧st.dm=[]) (n:=l.length) aI
   ⟨0,rfl,by omega,by simp [ah],by simp [ah,hc4],by simp [ah,hc5],by simp [ah],by simp [ah],by simp [ah],by simp only;rw [af,if_neg (by omega),af,if_pos hc4.symm],by simp only;rw [af,if_pos hc5.symm];rfl,by simp only;omega,rfl⟩ ?_
  rintro q ⟨env,heap,nx',dm⟩ ⟨i,rfl,hi,g1,g4,g5,g8,g9,g10,h4,h5,hlt,hdm⟩
  simp only at g1 g4 g5 g8 g9 g10 h4 h5 hlt hdm
  subst hdm
  have f1:=wS (i:=i) (by omega)
  have hne:(c5=c4)=False:=eq_false (by omega)
  by_cases hc:(i:Int)<(l.length:Int)
  case neg =>
   rw [show l.take i=l from Fs (by omega)] at h5
   simp -implicitDefEqProofs only [RA,ae,zp,↓reduceIte,reduceCtorEq,zq,zr,zs,zt,↓aA,↓az,↓au,↓ar,↓ay,↓aw,↓ak,↓aj,↓aC,↓aB,↓aE,↓aD,unA,ne_eq,not_true_eq_false,not_false_eq_true,ph,lj,g1,g4,g5,g8,g9,g10,hc,h4,h5,hne,R48]
  have hr:=Fo (show i<l.length by omega)
  generalize l[i]=r at hr
  have hrm:=Fp hr
  have ix:=bh hr
  have tl:=aY r
  have tk:=aU r
  have te:=aZ r
  have hs:=tZ ns (l.take i) r
  rw [← aQ hr] at hs
  have hzr:=bZ hrm
  have hze:=bR r
  have hvs:=hv.sub hrm
  have ihr:=ih r.sub (by omega) (by omega) hvs
  have hul:=gH (hv.take i) hn
  have hus:=gH hvs hn
  generalize usL ns (l.take i)=u at h5 hs hul
  generalize usL ns r.sub=us at hs ihr hus
  have q1:(nx'=c5)=False:=eq_false (by omega)
  have q2:(c5=nx')=False:=eq_false (by omega)
  have get6:∀ k,k<nx'→aq ((nx',AO.cells [.int .u8 r.kind,.int .i64 r.width,.int .u64 r.bits,.str r.name,.int .i64 r.low,bg r.sub])::(nx',.cells [.int .u8 0,.int .i64 0,.int .u64 0,.str [],.int .i64 0,.nilS])::heap) k=aq heap k:=fun k hk=>by
   rw [af,if_neg (by omega),af,if_neg (by omega)]
  rw [te] at ix tl tk
  rcases ai (r.kind=2) with ⟨c1,d1⟩|⟨c1,d1⟩
  ·rw [if_pos c1] at hs
   have hin:=pN (hv r (dA hrm (eK r)) c1)
   obtain ⟨ix0,hix⟩:∃ k:Nat,ixN r.name ns=k:=⟨_,(Int.toNat_of_nonneg hin.1).symm⟩
   rw [hix,Int.toNat_natCast] at hs
   have wi:=w49 ns r.name (by omega)
   rw [hix] at wi hin
   have ww:=w40 u ix0 hul (by omega)
   have hul2:u ||| 2 ^ ix0<18446744073709551616:=iD hul (jz (by omega))
   have wo:=w26 (u ||| 2 ^ ix0) us hul2 hus
   rw [← hs] at wo
   simp -implicitDefEqProofs only [RA,ae,zp,↓reduceIte,reduceCtorEq,zq,zr,zs,zt,↓aA,↓az,↓au,↓ar,↓ay,↓aw,↓ak,↓aj,↓aC,↓aB,↓aE,↓aD,unA,ne_eq,not_true_eq_false,not_false_eq_true,ph,lj,g1,g4,g5,g8,g9,g10,hc,ix,tl,tk,h4,h5,d1,q1,q2]
   refine wi.use fun k1 hk1=>?_
   simp -implicitDefEqProofs only [RA,ae,zp,↓reduceIte,reduceCtorEq,zq,zr,zs,zt,↓aA,↓az,↓au,↓ar,↓ay,↓aw,↓ak,↓aj,↓aC,↓aB,↓aE,↓aD,unA,ne_eq,not_true_eq_false,not_false_eq_true,g1,g4,g5,g8,g9,g10,h4,h5,q1,q2]
   refine ww.use fun k2 hk2=>?_
   simp -implicitDefEqProofs only [RA,ae,zp,↓reduceIte,reduceCtorEq,zq,zr,zs,zt,↓aA,↓az,↓au,↓ar,↓ay,↓aw,↓ak,↓aj,↓aC,↓aB,↓aE,↓aD,unA,ne_eq,not_true_eq_false,not_false_eq_true,g1,g4,g5,g8,g9,g10,h4,h5,q1,q2]
   refine ihr.use fun k3 hk3=>?_
   simp -implicitDefEqProofs only [RA,ae,zp,↓reduceIte,reduceCtorEq,zq,zr,zs,zt,↓aA,↓az,↓au,↓ar,↓ay,↓aw,↓ak,↓aj,↓aC,↓aB,↓aE,↓aD,unA,ne_eq,not_true_eq_false,not_false_eq_true,g1,g4,g5,g8,g9,g10,h4,h5,q1,q2]
   refine wo.use fun k4 hk4=>?_
   simp -implicitDefEqProofs only [RA,ae,zp,↓reduceIte,reduceCtorEq,zq,zr,zs,zt,↓aA,↓az,↓au,↓ar,↓ay,↓aw,↓ak,↓aj,↓aC,↓aB,↓aE,↓aD,unA,ne_eq,not_true_eq_false,not_false_eq_true,g1,g4,g5,g8,g9,g10,h4,h5,q1,q2,f1]
   refine ⟨l.length-(i+1),by omega,i+1,rfl,by omega,rfl,?_,rfl,by omega⟩
   repeat rw [if_neg (by omega)]
  ·rw [if_neg c1] at hs
   have wo:=w26 u us hul hus
   rw [← hs] at wo
   simp -implicitDefEqProofs only [RA,ae,zp,↓reduceIte,reduceCtorEq,zq,zr,zs,zt,↓aA,↓az,↓au,↓ar,↓ay,↓aw,↓ak,↓aj,↓aC,↓aB,↓aE,↓aD,unA,ne_eq,not_true_eq_false,not_false_eq_true,ph,lj,g1,g4,g5,g8,g9,g10,hc,ix,tl,tk,h4,h5,d1,q1,q2]
   refine ihr.use fun k3 hk3=>?_
   simp -implicitDefEqProofs only [RA,ae,zp,↓reduceIte,reduceCtorEq,zq,zr,zs,zt,↓aA,↓az,↓au,↓ar,↓ay,↓aw,↓ak,↓aj,↓aC,↓aB,↓aE,↓aD,unA,ne_eq,not_true_eq_false,not_false_eq_true,g1,g4,g5,g8,g9,g10,h4,h5,q1,q2]
   refine wo.use fun k4 hk4=>?_
   simp -implicitDefEqProofs only [RA,ae,zp,↓reduceIte,reduceCtorEq,zq,zr,zs,zt,↓aA,↓az,↓au,↓ar,↓ay,↓aw,↓ak,↓aj,↓aC,↓aB,↓aE,↓aD,unA,ne_eq,not_true_eq_false,not_false_eq_true,g1,g4,g5,g8,g9,g10,h4,h5,q1,q2,f1]
   refine ⟨l.length-(i+1),by omega,i+1,rfl,by omega,rfl,?_,rfl,by omega⟩
   repeat rw [if_neg (by omega)]
def usB (n:Nm) (l:List Tm):Bool:=(bD l).any fun y=>decide (y.kind=2)&&decide (y.name=n)
theorem t7 (n:Nm) (l:List Tm) (r:Tm):usB n (l++[r])=(usB n l||((decide (r.kind=2)&&decide (r.name=n))||usB n r.sub)):=by
 have e:bD (l++[r])=bD l++(r::bD r.sub):=by
  rw [db,bD,bD,FM,dU]
 unfold usB
 rw [e,List.any_append,List.any_cons]
theorem t0 {n:Nm} {l:List Tm} {i:Nat} (h:usB n (l.take i)=true):usB n l=true:=by
 have e:=db (l.take i) (l.drop i)
 rw [List.take_append_drop] at e
 unfold usB at h ⊢
 rw [e,List.any_append,h,Bool.true_or]
theorem nR:∀ (l:List Tm) (k:Nat),(∀ x∈l,szT x≤k)→bx l≤l.length*k
 | [],k,_=>by simp [bx]
 | x::r,k,h=>by
  have h1:=nR r k fun y hy=>h y (List.mem_cons_of_mem _ hy)
  have h2:=h x (by simp)
  simp only [bx,List.length_cons,Nat.succ_mul];omega
theorem jC.sz {l:List Tm} (h:jC l):bx l≤1000000000000000:=by
 have h1:=nR l 4000000 fun x hx=>(h.2 x hx).1
 have h2:l.length*4000000≤4000000*4000000:=Nat.mul_le_mul_right _ h.1
 omega
theorem w70 (n:Nm):∀ (N:Nat) (l:List Tm),bx l≤N→N≤1000000000000000→Pure Tryz.prog 70 [bg l,.str n] (.bool (usB n l)):=by
 intro N
 induction N with
 | zero =>
  intro l hz _
  have:=bJ l
  obtain rfl:l=[]:=List.eq_nil_of_length_eq_zero (by omega)
  refine Pure.of fun nx=>AC.go aI C0 (by simp) ?_
  have lo:=bw []
  simp -implicitDefEqProofs only [RA,ae,zp,↓reduceIte,reduceCtorEq,zq,zr,zs,zt,↓aA,↓az,↓au,↓ar,↓ay,↓aw,↓ak,↓aj,↓aC,↓aB,↓aE,↓aD,unA,ne_eq,not_true_eq_false,not_false_eq_true,A70,Co,lo]
  refine aJ (fun q st=>ah st.env 0=some (bg [])∧ah st.env 5=some (.int .i64 0)∧st.dm=[]) (n:=0) aI
   ⟨by simp [ah],by simp [ah],rfl⟩ ?_
  rintro q ⟨env,heap,nx',dm⟩ ⟨g0,g5,hdm⟩
  simp only at g0 g5 hdm
  subst hdm
  simp -implicitDefEqProofs only [RA,ae,zp,↓reduceIte,reduceCtorEq,zq,zr,zs,zt,↓aA,↓az,↓au,↓ar,↓ay,↓aw,↓ak,↓aj,↓aC,↓aB,↓aE,↓aD,unA,ne_eq,not_true_eq_false,not_false_eq_true,ju,gk,g0,g5,lo,Fv,show ((0:Int)<((0:Nat):Int))=False from by simp,R70]
  rfl
 | succ N ih =>
  intro l hz hN
  have hl:=bJ l
  refine Pure.of fun nx=>AC.go aI C0 (by simp) ?_
  have lo:=bw l
  simp -implicitDefEqProofs only [RA,ae,zp,↓reduceIte,reduceCtorEq,zq,zr,zs,zt,↓aA,↓az,↓au,↓ar,↓ay,↓aw,↓ak,↓aj,↓aC,↓aB,↓aE,↓aD,unA,ne_eq,not_true_eq_false,not_false_eq_true,A70,Co,lo]
  refine aJ (fun q st=>∃ (i:Nat),q=l.length-i∧i≤l.length∧ah st.env 0=some (bg l)∧ah st.env 1=some (.str n)∧ah st.env 5=some (.int .i64 i)∧usB n (l.take i)=false∧st.dm=[]) (n:=l.length) aI
   ⟨0,rfl,by omega,by simp [ah],by simp [ah],by simp [ah],rfl,rfl⟩ ?_
  rintro q ⟨env,heap,nx',dm⟩ ⟨i,rfl,hi,g0,g1,g5,hb,hdm⟩
  simp only at g0 g1 g5 hdm
  subst hdm
  have f1:=wS (i:=i) (by omega)
  by_cases hc:(i:Int)<(l.length:Int)
  case neg =>
   rw [show l.take i=l from Fs (by omega)] at hb
   simp -implicitDefEqProofs only [RA,ae,zp,↓reduceIte,reduceCtorEq,zq,zr,zs,zt,↓aA,↓az,↓au,↓ar,↓ay,↓aw,↓ak,↓aj,↓aC,↓aB,↓aE,↓aD,unA,ne_eq,not_true_eq_false,not_false_eq_true,ju,gk,g0,g1,g5,lo,hc,hb,R70]
  have hr:=Fo (show i<l.length by omega)
  generalize l[i]=r at hr
  have hrm:=Fp hr
  have ix:=bh hr
  have te:=aZ r
  have hs:=t7 n (l.take i) r
  rw [← aQ hr,hb,Bool.false_or] at hs
  have hzr:=bZ hrm
  have hze:=bR r
  have ihr:=ih r.sub (by omega) (by omega)
  rw [te] at ix
  have fin:usB n (l.take (i+1))=true→usB n l=true:=t0
  cases hus:usB n r.sub
  ·rw [hus,Bool.or_false] at hs
   rw [hus] at ihr
   rcases ai (r.kind=2) with ⟨c1,d1⟩|⟨c1,d1⟩
   ·rw [decide_eq_true c1,Bool.true_and] at hs
    rcases ai (r.name=n) with ⟨c2,d2⟩|⟨c2,d2⟩
    ·have e:=fin (by rw [hs,decide_eq_true c2])
     simp -implicitDefEqProofs only [RA,ae,zp,↓reduceIte,reduceCtorEq,zq,zr,zs,zt,↓aA,↓az,↓au,↓ar,↓ay,↓aw,↓ak,↓aj,↓aC,↓aB,↓aE,↓aD,unA,ne_eq,not_true_eq_false,not_false_eq_true,ju,gk,g0,g1,g5,lo,hc,ix,aG,aN,im,d1,d2,R70,e]
    ·simp -implicitDefEqProofs only [RA,ae,zp,↓reduceIte,reduceCtorEq,zq,zr,zs,zt,↓aA,↓az,↓au,↓ar,↓ay,↓aw,↓ak,↓aj,↓aC,↓aB,↓aE,↓aD,unA,ne_eq,not_true_eq_false,not_false_eq_true,ju,gk,g0,g1,g5,lo,hc,ix,aG,aN,im,d1,d2]
     refine ihr.use fun k1 hk1=>?_
     simp -implicitDefEqProofs only [RA,ae,zp,↓reduceIte,reduceCtorEq,zq,zr,zs,zt,↓aA,↓az,↓au,↓ar,↓ay,↓aw,↓ak,↓aj,↓aC,↓aB,↓aE,↓aD,unA,ne_eq,not_true_eq_false,not_false_eq_true,g0,g1,g5,f1]
     exact ⟨l.length-(i+1),by omega,i+1,rfl,by omega,rfl,by rw [hs,decide_eq_false c2]⟩
   ·rw [decide_eq_false c1,Bool.false_and] at hs
    simp -implicitDefEqProofs only [RA,ae,zp,↓reduceIte,reduceCtorEq,zq,zr,zs,zt,↓aA,↓az,↓au,↓ar,↓ay,↓aw,↓ak,↓aj,↓aC,↓aB,↓aE,↓aD,unA,ne_eq,not_true_eq_false,not_false_eq_true,ju,gk,g0,g1,g5,lo,hc,ix,aG,aN,im,d1]
    refine ihr.use fun k1 hk1=>?_
    simp -implicitDefEqProofs only [RA,ae,zp,↓reduceIte,reduceCtorEq,zq,zr,zs,zt,↓aA,↓az,↓au,↓ar,↓ay,↓aw,↓ak,↓aj,↓aC,↓aB,↓aE,↓aD,unA,ne_eq,not_true_eq_false,not_false_eq_true,g0,g1,g5,f1]
    exact ⟨l.length-(i+1),by omega,i+1,rfl,by omega,rfl,hs⟩
  ·rw [hus,Bool.or_true] at hs
   rw [hus] at ihr
   have e:=fin hs
   rcases ai (r.kind=2) with ⟨c1,d1⟩|⟨c1,d1⟩
   ·rcases ai (r.name=n) with ⟨c2,d2⟩|⟨c2,d2⟩
    ·simp -implicitDefEqProofs only [RA,ae,zp,↓reduceIte,reduceCtorEq,zq,zr,zs,zt,↓aA,↓az,↓au,↓ar,↓ay,↓aw,↓ak,↓aj,↓aC,↓aB,↓aE,↓aD,unA,ne_eq,not_true_eq_false,not_false_eq_true,ju,gk,g0,g1,g5,lo,hc,ix,aG,aN,im,d1,d2,R70,e]
    ·simp -implicitDefEqProofs only [RA,ae,zp,↓reduceIte,reduceCtorEq,zq,zr,zs,zt,↓aA,↓az,↓au,↓ar,↓ay,↓aw,↓ak,↓aj,↓aC,↓aB,↓aE,↓aD,unA,ne_eq,not_true_eq_false,not_false_eq_true,ju,gk,g0,g1,g5,lo,hc,ix,aG,aN,im,d1,d2]
     refine ihr.use fun k1 hk1=>?_
     simp -implicitDefEqProofs only [RA,ae,zp,↓reduceIte,reduceCtorEq,zq,zr,zs,zt,↓aA,↓az,↓au,↓ar,↓ay,↓aw,↓ak,↓aj,↓aC,↓aB,↓aE,↓aD,unA,ne_eq,not_true_eq_false,not_false_eq_true,g0,g1,g5,R70,e]
   ·simp -implicitDefEqProofs only [RA,ae,zp,↓reduceIte,reduceCtorEq,zq,zr,zs,zt,↓aA,↓az,↓au,↓ar,↓ay,↓aw,↓ak,↓aj,↓aC,↓aB,↓aE,↓aD,unA,ne_eq,not_true_eq_false,not_false_eq_true,ju,gk,g0,g1,g5,lo,hc,ix,aG,aN,im,d1]
    refine ihr.use fun k1 hk1=>?_
    simp -implicitDefEqProofs only [RA,ae,zp,↓reduceIte,reduceCtorEq,zq,zr,zs,zt,↓aA,↓az,↓au,↓ar,↓ay,↓aw,↓ak,↓aj,↓aC,↓aB,↓aE,↓aD,unA,ne_eq,not_true_eq_false,not_false_eq_true,g0,g1,g5,R70,e]
def fsS (n:Nm):List St→Int
 | []=>0
 | s::r=>if usB n s.terms=true then 1 else if (s.kind=1∨s.kind=3)∧s.var=n then 2 else fsS n r
def fk (n:Nm) (b:Bk):Int:=if fsS n b.steps=0 then (if usB n b.terms=true then 1 else 0) else fsS n b.steps
theorem ko (n:Nm):∀ (a b:List St),fsS n a=0→fsS n (a++b)=fsS n b
 | [],b,_=>rfl
 | s::r,b,h=>by
  simp only [List.cons_append,fsS] at h ⊢
  split at h
  ·cases h
  ·rename_i h1
   rw [if_neg h1]
   split at h
   ·cases h
   ·rename_i h2
    rw [if_neg h2];exact ko n r b h
theorem vD {n:Nm} {l:List St} {i:Nat} {s:St} (h:fsS n (l.take i)=0) (hs:l[i]?=some s):fsS n l=if usB n s.terms=true then 1 else if (s.kind=1∨s.kind=3)∧s.var=n then 2 else fsS n (l.drop (i+1)):=by
 conv=>lhs;rw [← List.take_append_drop i l]
 rw [ko n _ _ h,bA hs];rfl
theorem vB {n:Nm} {l:List St} {i:Nat} {s:St} (h:fsS n (l.take i)=0) (hs:l[i]?=some s) (h1:usB n s.terms=false) (h2:¬ ((s.kind=1∨s.kind=3)∧s.var=n)):fsS n (l.take (i+1))=0:=by
 rw [aQ hs,ko n _ _ h,fsS,h1,if_neg (by simp),if_neg h2];rfl
theorem w51 (b:Bk) (n:Nm) (h1:b.steps.length≤4000000) (h2:∀ s∈b.steps,bx s.terms≤1000000000000000) (h3:bx b.terms≤1000000000000000):Pure Tryz.prog 51 [.agg (bkE b),.str n] (.int .i64 (fk n b)):=by
 refine Pure.of fun nx=>AC.go aI is51 (by simp) ?_
 have lo:=eh b.steps
 rw [eD]
 simp -implicitDefEqProofs only [RA,ae,zp,↓reduceIte,reduceCtorEq,zq,zr,zs,zt,↓aA,↓az,↓au,↓ar,↓ay,↓aw,↓ak,↓aj,↓aC,↓aB,↓aE,↓aD,unA,ne_eq,not_true_eq_false,not_false_eq_true,A51,EG]
 refine aJ (fun q st=>∃ (i:Nat),q=b.steps.length-i∧i≤b.steps.length∧ah st.env 1=some (.str n)∧ah st.env 2=some (.op nx 0)∧ah st.env 5=some (.int .i64 i)∧aq st.heap nx=some (.cells [eH b.steps,.int .u8 b.kind,.str b.func,bg b.terms,cD b.to])∧nx<st.nx∧fsS n (b.steps.take i)=0∧st.dm=[]) (n:=b.steps.length) aI
  ⟨0,rfl,by omega,by simp [ah],by simp [ah],by simp [ah],by simp only;rw [af,if_pos rfl],by simp only;omega,rfl,rfl⟩ ?_
 rintro q ⟨env,heap,nx',dm⟩ ⟨i,rfl,hi,g1,g2,g5,gb,hlt,hf,hdm⟩
 simp only at g1 g2 g5 gb hlt hdm
 subst hdm
 have f1:=wS (i:=i) (by omega)
 by_cases hc:(i:Int)<(b.steps.length:Int)
 case neg =>
  rw [show b.steps.take i=b.steps from Fs (by omega)] at hf
  have hw:=w70 n _ b.terms (Nat.le_refl _) h3
  have hfb:fk n b=if usB n b.terms=true then 1 else 0:=if_pos hf
  simp -implicitDefEqProofs only [RA,ae,zp,↓reduceIte,reduceCtorEq,zq,zr,zs,zt,↓aA,↓az,↓au,↓ar,↓ay,↓aw,↓ak,↓aj,↓aC,↓aB,↓aE,↓aD,unA,ne_eq,not_true_eq_false,not_false_eq_true,xc,qD,g1,g2,g5,gb,lo,hc]
  refine hw.use fun k1 hk1=>?_
  cases hu:usB n b.terms
  ·rw [hu,if_neg (by simp)] at hfb
   simp -implicitDefEqProofs only [RA,ae,zp,↓reduceIte,reduceCtorEq,zq,zr,zs,zt,↓aA,↓az,↓au,↓ar,↓ay,↓aw,↓ak,↓aj,↓aC,↓aB,↓aE,↓aD,unA,ne_eq,not_true_eq_false,not_false_eq_true,hfb,R51]
  ·rw [hu,if_pos rfl] at hfb
   simp -implicitDefEqProofs only [RA,ae,zp,↓reduceIte,reduceCtorEq,zq,zr,zs,zt,↓aA,↓az,↓au,↓ar,↓ay,↓aw,↓ak,↓aj,↓aC,↓aB,↓aE,↓aD,unA,ne_eq,not_true_eq_false,not_false_eq_true,hfb,R51]
 have hr:=Fo (show i<b.steps.length by omega)
 generalize b.steps[i]=s at hr
 have hrm:=Fp hr
 have ix:=fv hr
 have tl:=pv s
 have tk:=rq s
 rw [gq] at ix tl tk
 have hw:=w70 n _ s.terms (Nat.le_refl _) (h2 s hrm)
 have hd:=vD hf hr
 have ht:=vB hf hr
 have q1:(nx'=nx)=False:=eq_false (by omega)
 have e3:aq ((nx',AO.cells [.int .u8 s.kind,.str s.var,.str s.func,bg s.terms])::(nx',.cells [.int .u8 0,.str [],.str [],.nilS])::heap) nx=some (.cells [eH b.steps,.int .u8 b.kind,.str b.func,bg b.terms,cD b.to]):=by
  rw [af,if_neg (by omega),af,if_neg (by omega)];exact gb
 simp -implicitDefEqProofs only [RA,ae,zp,↓reduceIte,reduceCtorEq,zq,zr,zs,zt,↓aA,↓az,↓au,↓ar,↓ay,↓aw,↓ak,↓aj,↓aC,↓aB,↓aE,↓aD,unA,ne_eq,not_true_eq_false,not_false_eq_true,xc,qD,g1,g2,g5,gb,lo,hc,ix,tl,tk,q1]
 refine hw.use fun k1 hk1=>?_
 cases hu:usB n s.terms
 case true =>
  rw [hu,if_pos rfl] at hd
  have hfb:fk n b=1:=by rw [fk,hd];rfl
  simp -implicitDefEqProofs only [RA,ae,zp,↓reduceIte,reduceCtorEq,zq,zr,zs,zt,↓aA,↓az,↓au,↓ar,↓ay,↓aw,↓ak,↓aj,↓aC,↓aB,↓aE,↓aD,unA,ne_eq,not_true_eq_false,not_false_eq_true,g1,g2,g5,gb,q1,R51,hfb]
 rw [hu,if_neg (by simp)] at hd
 have done:(s.kind=1∨s.kind=3)∧s.var=n→fk n b=2:=fun h=>by rw [fk,hd,if_pos h];rfl
 rcases ai (s.kind=1) with ⟨c1,d1⟩|⟨c1,d1⟩
 ·rcases ai (s.var=n) with ⟨c3,d3⟩|⟨c3,d3⟩
  ·have hfb:=done ⟨.inl c1,c3⟩
   simp -implicitDefEqProofs only [RA,ae,zp,↓reduceIte,reduceCtorEq,zq,zr,zs,zt,↓aA,↓az,↓au,↓ar,↓ay,↓aw,↓ak,↓aj,↓aC,↓aB,↓aE,↓aD,unA,ne_eq,not_true_eq_false,not_false_eq_true,g1,g2,g5,gb,q1,aG,aN,im,d1,d3,R51,hfb]
  ·have hz:=ht hu fun h=>c3 h.2
   simp -implicitDefEqProofs only [RA,ae,zp,↓reduceIte,reduceCtorEq,zq,zr,zs,zt,↓aA,↓az,↓au,↓ar,↓ay,↓aw,↓ak,↓aj,↓aC,↓aB,↓aE,↓aD,unA,ne_eq,not_true_eq_false,not_false_eq_true,g1,g2,g5,gb,q1,aG,aN,im,d1,d3,f1]
   exact ⟨b.steps.length-(i+1),by omega,i+1,rfl,by omega,rfl,by omega,hz⟩
 ·rcases ai (s.kind=3) with ⟨c2,d2⟩|⟨c2,d2⟩
  ·rcases ai (s.var=n) with ⟨c3,d3⟩|⟨c3,d3⟩
   ·have hfb:=done ⟨.inr c2,c3⟩
    simp -implicitDefEqProofs only [RA,ae,zp,↓reduceIte,reduceCtorEq,zq,zr,zs,zt,↓aA,↓az,↓au,↓ar,↓ay,↓aw,↓ak,↓aj,↓aC,↓aB,↓aE,↓aD,unA,ne_eq,not_true_eq_false,not_false_eq_true,g1,g2,g5,gb,q1,aG,aN,im,d1,d2,d3,R51,hfb]
   ·have hz:=ht hu fun h=>c3 h.2
    simp -implicitDefEqProofs only [RA,ae,zp,↓reduceIte,reduceCtorEq,zq,zr,zs,zt,↓aA,↓az,↓au,↓ar,↓ay,↓aw,↓ak,↓aj,↓aC,↓aB,↓aE,↓aD,unA,ne_eq,not_true_eq_false,not_false_eq_true,g1,g2,g5,gb,q1,aG,aN,im,d1,d2,d3,f1]
    exact ⟨b.steps.length-(i+1),by omega,i+1,rfl,by omega,rfl,by omega,hz⟩
  ·have hz:=ht hu fun h=>h.1.elim c1 c2
   simp -implicitDefEqProofs only [RA,ae,zp,↓reduceIte,reduceCtorEq,zq,zr,zs,zt,↓aA,↓az,↓au,↓ar,↓ay,↓aw,↓ak,↓aj,↓aC,↓aB,↓aE,↓aD,unA,ne_eq,not_true_eq_false,not_false_eq_true,g1,g2,g5,gb,q1,aG,aN,im,d1,d2,f1]
   exact ⟨b.steps.length-(i+1),by omega,i+1,rfl,by omega,rfl,by omega,hz⟩
end Go.Proofs.YtkhjclmfbmfahaaGreatDoor
