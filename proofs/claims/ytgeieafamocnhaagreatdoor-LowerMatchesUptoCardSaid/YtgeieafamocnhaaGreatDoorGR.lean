/- Codes, part 1. -/
import Derived.Test.YtgeieafamocnhaaGreatDoorGQ
namespace Go.Proofs.YtgeieafamocnhaaGreatDoor
open List renaming getElem?_eq_getElem → G7, getElem?_eq_some_iff → G9, length_cons → Hc, length_nil → Hd, length_map → He, all_eq_true → Hh, getElem?_append → Hi, getElem?_set → Ho, append_assoc → Hx, cons_append → HE
open Bool renaming and_eq_true → HR
open Nat renaming le_refl → H4
set_option maxHeartbeats 64000000
open Go Go.Ab Go.Sa Go.Proofs
set_option maxRecDepth 100000
def A4p:CX (.seq (r [s 1 (.box (t 0)),s 2 (.move b0)]) (.seq (.seq (r [s 8 (.load 2 true (t 1)),c 9 5 [(t 8)]]) (.cond (t 9) (.seq (r [s 2 (.move b1)]) .ret) .skip)) (.seq (r [s 10 (.load 2 true (t 1)),c 11 12 [(t 10)],s 3 (.alloc [.nilS,.nilS]),sn (.store 2 (t 3) (t 11))]) (.seq (r [s 13 (.load 2 true (t 1)),c 14 13 [(t 13)],m 12 14,e 15 12 0,e 16 12 1,s 4 (.alloc [.nilS]),sn (.store 1 (t 4) (t 15)),m 5 16]) (.seq (r [s 18 (.load 2 true (t 1)),c 19 14 [(t 18)],m 17 19,e 20 17 0,e 21 17 1,s 6 (.alloc [.nilS]),sn (.store 1 (t 6) (t 20)),m 7 21]) (.seq (r [s 22 (.load 1 true (t 4)),s 23 (.load 1 true (t 6)),c 24 15 [(t 22),(t 23)],m 25 24,gt 26 25 (.move (t 5)),gt 27 25 (.move (t 7)),gt 28 25 (.bin .eql (t 26) (t 27)),s 29 (.pick (t 25) (t 28) b0),m 30 29,gt 31 30 (.load 2 true (t 1)),gt 32 30 (.load 2 true (t 3)),tc 33 30 16 [(t 31),(t 32)],s 34 (.pick (t 30) (t 33) b0),m 2 34]) .ret)))))):=⟨_,by simp only [QQ];rfl⟩
def A4:ak:=A4p.1
def R4:List RV:=[.tmp 2]
theorem is4:Is Tryz.prog (fun _ _=>false) 4 35 A4 R4:=⟨Tryz.f4,Tryz.func4,rfl,by kernel_rfl,by kernel_rfl,Tryz.call4⟩
def sV:CX (.seq (.seq (r [m 11 4,fa 12 1 1,l 13 12,s 14 (.len (t 13)),s 15 (.bin .lss (t 11) (t 14))]) (.cond (t 15) .skip (.exit 0))) (.seq (.block 1 (.seq (r [fa 18 1 1,l 19 18,m 20 4,s 21 (.idxA 4 (t 19) (t 20)),s 22 (.load 4 true (t 21)),s 5 (.alloc [(.str []),.nilS,(.int .i64 0),.nilS]),sn (.store 4 (t 5) (t 22))]) (.seq (.dregion [⟨1,fa 24 1 5,[]⟩,⟨2,l 25 24,[]⟩,⟨4,fa 27 3 5,[]⟩,⟨5,l 28 27,[]⟩,⟨0,s 23 (.buildO 64 [(.str []),(.int .i64 0)] 0 []),[1,2,4,5]⟩,⟨3,s 26 (.app 64 2 24 (t 23) (t 25)),[4,5]⟩,⟨7,fa 30 1 5,[]⟩,⟨6,c 29 27 [(t 28)],[7]⟩,⟨8,sn (.store 1 (t 30) (t 26)),[]⟩,⟨9,fa 31 3 5,[]⟩,⟨10,sn (.store 1 (t 31) (t 29)),[]⟩]) (r [fa 32 1 3,l 33 32,s 34 (.load 4 true (t 5)),s 35 (.buildF [(.str []),.nilS,(.int .i64 0),.nilS] 1 [(0,(t 34))]),s 36 (.app 62 4 72 (t 33) (t 35)),fa 37 1 3,sn (.store 1 (t 37) (t 36))])))) (r [m 16 4,s 17 (.bin .add (t 16) (i 1)),m 4 17]))):=⟨_,by simp only [QQ];rfl⟩
def yG:ak:=sV.1
def GI:CX (.seq (r [s 1 (.box (t 0)),s 2 (.alloc [.nilS,.nilS])]) (.seq (r [s 6 (.buildO 58 [(.str []),(.int .i64 0),(.int .i64 0)] 0 []),fa 7 0 1,l 8 7,s 9 (.app 58 3 32 (t 6) (t 8)),s 10 (.build [.nilS,.nilS] [(0,1,(t 9))]),s 3 (.alloc [.nilS,.nilS]),sn (.store 2 (t 3) (t 10))]) (.seq (.seq (r [s 4 (.move (i 0))]) (.block 0 (.loop yG))) (.seq (r [s 38 (.load 2 true (t 3)),sn (.store 2 (t 2) (t 38))]) .ret)))):=⟨_,by simp only [QQ];rfl⟩
def A12:ak:=GI.1
def R12:List RV:=[.cell 2 2 true]
theorem is12:Is Tryz.prog (fun r i=>[(1,0),(6,0)].contains (r,i)) 12 39 A12 R12:=⟨Tryz.f12,Tryz.func12,rfl,by kernel_rfl,by kernel_rfl,Tryz.call12⟩
def sR:CX (.seq (r [s 23 (.bin .lss (t 22) (t 21))]) (.seq (.cond (t 23) .skip (.exit 0)) (.seq (.block 1 (.seq (r [m 24 22,m 7 24]) (.seq (r [m 25 4,m 26 7,c 27 28 [(t 25),(t 26)],s 8 (.alloc [(.str []),.nilS,(.int .i64 0),.nilS,.nilS]),sn (.store 5 (t 8) (t 27))]) (.seq (r [fa 28 4 8,l 29 28,c 30 29 [(t 29),(.func 30)],m 9 30]) (.seq (.seq (r [fa 31 4 8,l 32 31,s 33 (.len (t 32)),s 34 (.bin .gtr (t 33) (i 60)),m 35 34,gf 36 35 (.move (t 9)),s 37 (.pick (t 35) b1 (t 36))]) (.cond (t 37) (.seq (r [s 38 (.build [.nilS] []),sn (.store 1 (t 2) (t 38)),s 3 (.move (i 4))]) .ret) .skip)) (r [fa 39 0 6,l 40 39,s 41 (.load 5 true (t 8)),s 42 (.buildF [(.str []),.nilS,(.int .i64 0),.nilS,.nilS] 1 [(0,(t 41))]),s 43 (.app 90 5 96 (t 40) (t 42)),fa 44 0 6,sn (.store 1 (t 44) (t 43))])))))) (r [s 45 (.bin .add (t 22) (i 1)),m 22 45])))):=⟨_,by simp only [QQ];rfl⟩
def yF:ak:=sR.1
def CZ:CX (.seq (r [s 1 (.box (t 0)),s 2 (.alloc [.nilS]),s 3 (.move (i 0))]) (.seq (r [s 11 (.load 2 true (t 1)),c 12 20 [(t 11)],m 10 12,e 13 10 0,e 14 10 1,m 4 13,m 5 14]) (.seq (.seq (r [m 15 5,s 16 (.bin .neq (t 15) (i 0))]) (.cond (t 16) (.seq (r [s 17 (.build [.nilS] []),m 18 5,sn (.store 1 (t 2) (t 17)),m 3 18]) .ret) .skip)) (.seq (r [s 6 (.alloc [.nilS])]) (.seq (.seq (r [fa 19 1 1,l 20 19,s 21 (.len (t 20)),s 22 (.move (i 0))]) (.block 0 (.loop yF))) (.seq (r [s 46 (.load 1 true (t 6)),sn (.store 1 (t 2) (t 46)),s 3 (.move (i 0))]) .ret)))))):=⟨_,by simp only [QQ];rfl⟩
def A13:ak:=CZ.1
def R13:List RV:=[.cell 2 1 true,.tmp 3]
theorem is13:Is Tryz.prog (fun _ _=>false) 13 47 A13 R13:=⟨Tryz.f13,Tryz.func13,rfl,by kernel_rfl,by kernel_rfl,Tryz.call13⟩
def pB:CX (.seq (.seq (r [m 30 8,fa 31 4 7,l 32 31,s 33 (.len (t 32)),s 34 (.bin .lss (t 30) (t 33))]) (.cond (t 34) .skip (.exit 2))) (.seq (.block 3 (.seq (r [fa 37 4 7,l 38 37,m 39 8,s 40 (.idxA 5 (t 38) (t 39)),fa 41 0 40,l 42 41,s 43 (.len (t 42)),s 44 (.bin .gtr (t 43) (i 60))]) (.cond (t 44) (.seq (r [s 45 (.build [.nilS] []),sn (.store 1 (t 2) (t 45)),s 3 (.move (i 4))]) .ret) .skip))) (r [m 35 8,s 36 (.bin .add (t 35) (i 1)),m 8 36]))):=⟨_,by simp only [QQ];rfl⟩
def ud:ak:=pB.1
def sO:CX (.seq (.seq (r [m 15 6,fa 16 1 1,l 17 16,s 18 (.len (t 17)),s 19 (.bin .lss (t 15) (t 18))]) (.cond (t 19) .skip (.exit 0))) (.seq (.block 1 (.seq (r [s 22 (.load 2 true (t 1)),m 23 6,c 24 31 [(t 22),(t 23)],s 7 (.alloc [(.str []),.nilS,(.int .i64 0),.nilS,.nilS]),sn (.store 5 (t 7) (t 24))]) (.seq (.seq (r [fa 25 4 7,l 26 25,s 27 (.len (t 26)),s 28 (.bin .gtr (t 27) (i 60))]) (.cond (t 28) (.seq (r [s 29 (.build [.nilS] []),sn (.store 1 (t 2) (t 29)),s 3 (.move (i 4))]) .ret) .skip)) (.seq (.seq (r [s 8 (.move (i 0))]) (.block 2 (.loop ud))) (r [fa 46 0 5,l 47 46,s 48 (.load 5 true (t 7)),s 49 (.buildF [(.str []),.nilS,(.int .i64 0),.nilS,.nilS] 1 [(0,(t 48))]),s 50 (.app 90 5 96 (t 47) (t 49)),fa 51 0 5,sn (.store 1 (t 51) (t 50))]))))) (r [m 20 6,s 21 (.bin .add (t 20) (i 1)),m 6 21]))):=⟨_,by simp only [QQ];rfl⟩
def yC:ak:=sO.1
def CV:CX (.seq (r [s 1 (.box (t 0)),s 2 (.alloc [.nilS]),s 3 (.move (i 0))]) (.seq (r [s 9 (.load 2 true (t 1)),c 10 25 [(t 9)],m 4 10]) (.seq (.seq (r [m 11 4,s 12 (.bin .neq (t 11) (i 0))]) (.cond (t 12) (.seq (r [s 13 (.build [.nilS] []),m 14 4,sn (.store 1 (t 2) (t 13)),m 3 14]) .ret) .skip)) (.seq (r [s 5 (.alloc [.nilS])]) (.seq (.seq (r [s 6 (.move (i 0))]) (.block 0 (.loop yC))) (.seq (r [s 52 (.load 1 true (t 5)),sn (.store 1 (t 2) (t 52)),s 3 (.move (i 0))]) .ret)))))):=⟨_,by simp only [QQ];rfl⟩
def A14:ak:=CV.1
def R14:List RV:=[.cell 2 1 true,.tmp 3]
theorem is14:Is Tryz.prog (fun _ _=>false) 14 53 A14 R14:=⟨Tryz.f14,Tryz.func14,rfl,by kernel_rfl,by kernel_rfl,Tryz.call14⟩
def sN:CX (.seq (.seq (r [m 79 10,m 80 8,s 81 (.len (t 80)),s 82 (.bin .lss (t 79) (t 81))]) (.cond (t 82) .skip (.exit 2))) (.seq (.block 3 (.seq (.dregion [⟨0,m 85 8,[]⟩,⟨1,m 86 10,[]⟩,⟨2,s 87 (.idxA 2 (t 85) (t 86)),[]⟩,⟨3,s 88 (.load 2 true (t 87)),[]⟩,⟨4,m 89 9,[]⟩,⟨5,m 90 10,[]⟩,⟨6,s 91 (.idxA 2 (t 89) (t 90)),[]⟩,⟨7,s 92 (.load 2 true (t 91)),[]⟩,⟨8,s 93 (.eqS true [.str,.int] (t 88) (t 92)),[]⟩]) (.cond (t 93) (.seq (r [s 4 (.move b0)]) .ret) .skip))) (r [m 83 10,s 84 (.bin .add (t 83) (i 1)),m 10 84]))):=⟨_,by simp only [QQ];rfl⟩
def yB:ak:=sN.1
def sM:CX (.seq (.seq (r [m 94 11,fa 95 4 6,l 96 95,s 97 (.len (t 96)),s 98 (.bin .lss (t 94) (t 97))]) (.cond (t 98) .skip (.exit 4))) (.seq (.block 5 (.seq (.dregion [⟨0,fa 101 4 6,[]⟩,⟨1,l 102 101,[]⟩,⟨2,m 103 11,[]⟩,⟨3,s 104 (.idxA 5 (t 102) (t 103)),[]⟩,⟨4,s 105 (.load 5 true (t 104)),[]⟩,⟨5,fa 106 4 7,[]⟩,⟨6,l 107 106,[]⟩,⟨7,m 108 11,[]⟩,⟨8,s 109 (.idxA 5 (t 107) (t 108)),[]⟩,⟨9,s 110 (.load 5 true (t 109)),[]⟩,⟨10,c 111 33 [(t 105),(t 110)],[]⟩,⟨11,s 112 (.un .not (t 111)),[]⟩]) (.cond (t 112) (.seq (r [s 4 (.move b0)]) .ret) .skip))) (r [m 99 11,s 100 (.bin .add (t 99) (i 1)),m 11 100]))):=⟨_,by simp only [QQ];rfl⟩
def yA:ak:=sM.1
def sL:CX (.seq (.seq (r [m 19 5,fa 20 0 2,l 21 20,s 22 (.len (t 21)),s 23 (.bin .lss (t 19) (t 22))]) (.cond (t 23) .skip (.exit 0))) (.seq (.block 1 (.seq (.dregion [⟨0,fa 26 0 2,[]⟩,⟨1,l 27 26,[]⟩,⟨2,m 28 5,[]⟩,⟨3,s 29 (.idxA 5 (t 27) (t 28)),[]⟩,⟨4,s 30 (.load 5 true (t 29)),[]⟩,⟨5,fa 31 0 3,[]⟩,⟨6,l 32 31,[]⟩,⟨7,m 33 5,[]⟩,⟨8,s 34 (.idxA 5 (t 32) (t 33)),[]⟩,⟨9,s 35 (.load 5 true (t 34)),[]⟩,⟨10,s 6 (.alloc [(.str []),.nilS,(.int .i64 0),.nilS,.nilS]),[0,1,2,3,4,5,6,7,8,9]⟩,⟨11,s 7 (.alloc [(.str []),.nilS,(.int .i64 0),.nilS,.nilS]),[0,1,2,3,4,5,6,7,8,9]⟩,⟨12,sn (.store 5 (t 6) (t 30)),[5,6,7,8,9]⟩,⟨13,sn (.store 5 (t 7) (t 35)),[]⟩]) (.seq (.seq (r [fa 36 0 6,l 37 36,fa 38 0 7,l 39 38,s 40 (.bin .neq (t 37) (t 39)),m 41 40,fb 42 41 2 6,fl 43 41 42,fb 44 41 2 7,fl 45 41 44,gf 46 41 (.bin .neq (t 43) (t 45)),s 47 (.pick (t 41) b1 (t 46)),m 48 47,fb 49 48 1 6,fl 50 48 49,gf 51 48 (.len (t 50)),fb 52 48 1 7,fl 53 48 52,gf 54 48 (.len (t 53)),gf 55 48 (.bin .neq (t 51) (t 54)),s 56 (.pick (t 48) b1 (t 55)),m 57 56,fb 58 57 3 6,fl 59 57 58,gf 60 57 (.len (t 59)),fb 61 57 3 7,fl 62 57 61,gf 63 57 (.len (t 62)),gf 64 57 (.bin .neq (t 60) (t 63)),s 65 (.pick (t 57) b1 (t 64)),m 66 65,fb 67 66 4 6,fl 68 66 67,gf 69 66 (.len (t 68)),fb 70 66 4 7,fl 71 66 70,gf 72 66 (.len (t 71)),gf 73 66 (.bin .neq (t 69) (t 72)),s 74 (.pick (t 66) b1 (t 73))]) (.cond (t 74) (.seq (r [s 4 (.move b0)]) .ret) .skip)) (.seq (.dregion [⟨0,s 75 (.load 5 true (t 6)),[]⟩,⟨2,s 77 (.load 5 true (t 7)),[]⟩,⟨1,c 76 32 [(t 75)],[2]⟩,⟨3,c 78 32 [(t 77)],[]⟩,⟨4,m 8 76,[]⟩,⟨5,m 9 78,[]⟩]) (.seq (.seq (r [s 10 (.move (i 0))]) (.block 2 (.loop yB))) (.seq (r [s 11 (.move (i 0))]) (.block 4 (.loop yA)))))))) (r [m 24 5,s 25 (.bin .add (t 24) (i 1)),m 5 25]))):=⟨_,by simp only [QQ];rfl⟩
def yz:ak:=sL.1
def Gr:CX (.seq (r [s 2 (.box (t 0)),s 3 (.box (t 1)),s 4 (.move b0)]) (.seq (.seq (r [fa 12 0 2,l 13 12,s 14 (.len (t 13)),fa 15 0 3,l 16 15,s 17 (.len (t 16)),s 18 (.bin .neq (t 14) (t 17))]) (.cond (t 18) (.seq (r [s 4 (.move b0)]) .ret) .skip)) (.seq (.seq (r [s 5 (.move (i 0))]) (.block 0 (.loop yz))) (.seq (r [s 4 (.move b1)]) .ret)))):=⟨_,by simp only [QQ];rfl⟩
def A15:ak:=Gr.1
def R15:List RV:=[.tmp 4]
theorem is15:Is Tryz.prog (fun _ _=>false) 15 113 A15 R15:=⟨Tryz.f15,Tryz.func15,rfl,by kernel_rfl,by kernel_rfl,Tryz.call15⟩
def sK:CX (.seq (.seq (r [m 25 5,fa 26 0 2,l 27 26,s 28 (.len (t 27)),s 29 (.bin .lss (t 25) (t 28))]) (.cond (t 29) .skip (.exit 0))) (.seq (.block 1 (.seq (.dregion [⟨0,fa 32 0 2,[]⟩,⟨1,l 33 32,[]⟩,⟨2,m 34 5,[]⟩,⟨3,s 35 (.idxA 3 (t 33) (t 34)),[]⟩,⟨4,s 36 (.load 3 true (t 35)),[]⟩,⟨5,fa 37 0 3,[]⟩,⟨6,l 38 37,[]⟩,⟨7,m 39 5,[]⟩,⟨8,s 40 (.idxA 3 (t 38) (t 39)),[]⟩,⟨9,s 41 (.load 3 true (t 40)),[]⟩,⟨10,s 42 (.eqS true [.str,.int,.int] (t 36) (t 41)),[]⟩]) (.cond (t 42) (.seq (r [s 4 (.move b0)]) .ret) .skip))) (r [m 30 5,s 31 (.bin .add (t 30) (i 1)),m 5 31]))):=⟨_,by simp only [QQ];rfl⟩
def yw:ak:=sK.1
def sJ:CX (.seq (.seq (r [m 43 6,fa 44 1 2,l 45 44,s 46 (.len (t 45)),s 47 (.bin .lss (t 43) (t 46))]) (.cond (t 47) .skip (.exit 2))) (.seq (.block 3 (.seq (.dregion [⟨0,fa 50 1 2,[]⟩,⟨1,l 51 50,[]⟩,⟨2,m 52 6,[]⟩,⟨3,s 53 (.idxA 4 (t 51) (t 52)),[]⟩,⟨4,s 54 (.load 4 true (t 53)),[]⟩,⟨5,fa 55 1 3,[]⟩,⟨6,l 56 55,[]⟩,⟨7,m 57 6,[]⟩,⟨8,s 58 (.idxA 4 (t 56) (t 57)),[]⟩,⟨9,s 59 (.load 4 true (t 58)),[]⟩,⟨10,s 7 (.alloc [(.str []),.nilS,(.int .i64 0),.nilS]),[0,1,2,3,4,5,6,7,8,9]⟩,⟨11,s 8 (.alloc [(.str []),.nilS,(.int .i64 0),.nilS]),[0,1,2,3,4,5,6,7,8,9]⟩,⟨12,sn (.store 4 (t 7) (t 54)),[5,6,7,8,9]⟩,⟨13,sn (.store 4 (t 8) (t 59)),[]⟩]) (.seq (r [fa 60 0 7,l 61 60,fa 62 0 8,l 63 62,s 64 (.bin .neq (t 61) (t 63)),m 65 64,fb 66 65 2 7,fl 67 65 66,fb 68 65 2 8,fl 69 65 68,gf 70 65 (.bin .neq (t 67) (t 69)),s 71 (.pick (t 65) b1 (t 70)),m 72 71,fb 73 72 1 7,fl 74 72 73,fb 75 72 1 8,fl 76 72 75,fc 77 72 34 [(t 74),(t 76)],gf 78 72 (.un .not (t 77)),s 79 (.pick (t 72) b1 (t 78)),m 80 79,fb 81 80 3 7,fl 82 80 81,fb 83 80 3 8,fl 84 80 83,fc 85 80 35 [(t 82),(t 84)],gf 86 80 (.un .not (t 85)),s 87 (.pick (t 80) b1 (t 86))]) (.cond (t 87) (.seq (r [s 4 (.move b0)]) .ret) .skip)))) (r [m 48 6,s 49 (.bin .add (t 48) (i 1)),m 6 49]))):=⟨_,by simp only [QQ];rfl⟩
def yv:ak:=sJ.1
def Gq:CX (.seq (r [s 2 (.box (t 0)),s 3 (.box (t 1)),s 4 (.move b0)]) (.seq (.seq (r [fa 9 0 2,l 10 9,s 11 (.len (t 10)),fa 12 0 3,l 13 12,s 14 (.len (t 13)),s 15 (.bin .neq (t 11) (t 14)),m 16 15,fb 17 16 1 2,fl 18 16 17,gf 19 16 (.len (t 18)),fb 20 16 1 3,fl 21 16 20,gf 22 16 (.len (t 21)),gf 23 16 (.bin .neq (t 19) (t 22)),s 24 (.pick (t 16) b1 (t 23))]) (.cond (t 24) (.seq (r [s 4 (.move b0)]) .ret) .skip)) (.seq (.seq (r [s 5 (.move (i 0))]) (.block 0 (.loop yw))) (.seq (.seq (r [s 6 (.move (i 0))]) (.block 2 (.loop yv))) (.seq (r [s 4 (.move b1)]) .ret))))):=⟨_,by simp only [QQ];rfl⟩
def A16:ak:=Gq.1
def R16:List RV:=[.tmp 4]
theorem is16:Is Tryz.prog (fun _ _=>false) 16 88 A16 R16:=⟨Tryz.f16,Tryz.func16,rfl,by kernel_rfl,by kernel_rfl,Tryz.call16⟩
def sx:CX (.seq (.seq (r [m 6 4,m 7 0,s 8 (.len (t 7)),s 9 (.bin .lss (t 6) (t 8))]) (.cond (t 9) .skip (.exit 0))) (.seq (.block 1 (.seq (r [m 12 0,m 13 4,s 14 (.idxA 7 (t 12) (t 13)),s 15 (.load 7 true (t 14)),s 5 (.alloc [(.int .u8 0),(.str []),(.str []),(.int .i64 0),.nilS,.nilS,.nilS]),sn (.store 7 (t 5) (t 15))]) (.seq (.dregion [⟨0,fa 16 4 5,[]⟩,⟨1,l 17 16,[]⟩,⟨3,fa 19 5 5,[]⟩,⟨4,l 20 19,[]⟩,⟨6,fa 22 6 5,[]⟩,⟨7,l 23 22,[]⟩,⟨2,c 18 58 [(t 17)],[3,4,6,7]⟩,⟨9,fa 25 4 5,[]⟩,⟨5,c 21 27 [(t 20)],[6,7,9]⟩,⟨8,c 24 27 [(t 23)],[9]⟩,⟨10,sn (.store 1 (t 25) (t 18)),[]⟩,⟨11,fa 26 5 5,[]⟩,⟨12,sn (.store 1 (t 26) (t 21)),[]⟩,⟨13,fa 27 6 5,[]⟩,⟨14,sn (.store 1 (t 27) (t 24)),[]⟩]) (r [m 28 3,s 29 (.load 7 true (t 5)),s 30 (.buildF [(.int .u8 0),(.str []),(.str []),(.int .i64 0),.nilS,.nilS,.nilS] 1 [(0,(t 29))]),s 31 (.app 106 7 120 (t 28) (t 30)),m 3 31])))) (r [m 10 4,s 11 (.bin .add (t 10) (i 1)),m 4 11]))):=⟨_,by simp only [QQ];rfl⟩
def yh:ak:=sx.1
def Gh:CX (.seq (r [s 2 (.move ns)]) (.seq (r [s 3 (.move ns)]) (.seq (.seq (r [s 4 (.move (i 0))]) (.block 0 (.loop yh))) (.seq (r [m 32 3,m 2 32]) .ret)))):=⟨_,by simp only [QQ];rfl⟩
def A27:ak:=Gh.1
def R27:List RV:=[.tmp 2]
theorem is27:Is Tryz.prog (fun _ _=>false) 27 33 A27 R27:=⟨Tryz.f27,Tryz.func27,rfl,by kernel_rfl,by kernel_rfl,Tryz.call27⟩
def pw:CX (.seq (r [s 61 (.bin .lss (t 60) (t 59))]) (.seq (.cond (t 61) .skip (.exit 0)) (.seq (.block 1 (.seq (r [m 62 60,s 63 (.idxA 2 (t 58) (t 60)),s 64 (.load 2 true (t 63)),s 9 (.alloc [(.str []),(.int .i64 0)]),m 8 62,sn (.store 2 (t 9) (t 64))]) (.seq (r [fa 65 0 9,l 66 65,fa 67 1 9,l 68 67,s 69 (.build [(.str []),(.int .i64 0)] [(0,1,(t 66)),(1,1,(t 68))]),s 10 (.alloc [(.str []),(.int .i64 0)]),sn (.store 2 (t 10) (t 69))]) (.seq (r [m 70 8,fa 71 1 6,l 72 71,s 73 (.len (t 72)),s 74 (.bin .lss (t 70) (t 73))]) (.cond (t 74) (r [fa 75 1 7,l 76 75,s 77 (.load 2 true (t 10)),s 78 (.buildF [(.str []),(.int .i64 0)] 1 [(0,(t 77))]),s 79 (.app 101 2 24 (t 76) (t 78)),fa 80 1 7,sn (.store 1 (t 80) (t 79))]) (r [fa 81 3 7,l 82 81,s 83 (.load 2 true (t 10)),s 84 (.buildF [(.str []),(.int .i64 0)] 1 [(0,(t 83))]),s 85 (.app 101 2 24 (t 82) (t 84)),fa 86 3 7,sn (.store 1 (t 86) (t 85))])))))) (r [s 87 (.bin .add (t 60) (i 1)),m 60 87])))):=⟨_,by simp only [QQ];rfl⟩
def t9:ak:=pw.1
def Gg:CX (.seq (r [s 4 (.alloc [(.str []),.nilS,(.int .i64 0),.nilS,.nilS])]) (.seq (r [m 12 0,m 13 1,s 14 (.build [.nilP,(.int .i64 0),.nilS,(.int .i64 0),(.int .i64 0),.nilM] [(0,1,(t 12)),(1,1,(t 13)),(4,1,(.const (.int .i64 (-1))))]),s 15 (.box (t 14)),m 5 15]) (.seq (r [m 16 5,s 17 (.m .mk),m 18 5,s 19 (.mkbm (.func 59) [(t 18)] []),sn (.m (.set .int (t 17) (.const (.int .u8 1)) (t 19))),m 20 5,s 21 (.mkbm (.func 59) [(t 20)] []),sn (.m (.set .int (t 17) (.const (.int .u8 2)) (t 21))),m 22 5,s 23 (.mkbm (.func 60) [(t 22)] []),sn (.m (.set .int (t 17) (.const (.int .u8 3)) (t 23))),m 24 5,s 25 (.mkbm (.func 61) [(t 24)] []),sn (.m (.set .int (t 17) (.const (.int .u8 4)) (t 25))),m 26 5,s 27 (.mkbm (.func 62) [(t 26)] []),sn (.m (.set .int (t 17) (.const (.int .u8 5)) (t 27))),m 28 5,s 29 (.mkbm (.func 63) [(t 28)] []),sn (.m (.set .int (t 17) (.const (.int .u8 6)) (t 29))),m 30 5,s 31 (.mkbm (.func 64) [(t 30)] []),sn (.m (.set .int (t 17) (.const (.int .u8 7)) (t 31))),m 32 5,s 33 (.mkbm (.func 65) [(t 32)] []),sn (.m (.set .int (t 17) (.const (.int .u8 8)) (t 33))),m 34 5,s 35 (.mkbm (.func 66) [(t 34)] []),sn (.m (.set .int (t 17) (.const (.int .u8 9)) (t 35))),m 36 17,s 37 (.nilck (t 16)),fa 38 5 37,sn (.store 1 (t 38) (t 36))]) (.seq (r [m 39 0,s 40 (.nilck (t 39)),fa 41 0 40,fa 42 1 41,l 43 42,m 44 1,s 45 (.idxA 4 (t 43) (t 44)),s 46 (.load 4 true (t 45)),s 6 (.alloc [(.str []),.nilS,(.int .i64 0),.nilS]),sn (.store 4 (t 6) (t 46))]) (.seq (r [fa 47 0 6,l 48 47,fa 49 2 6,l 50 49,s 51 (.build [(.str []),.nilS,(.int .i64 0),.nilS,.nilS] [(0,1,(t 48)),(2,1,(t 50))]),s 7 (.alloc [(.str []),.nilS,(.int .i64 0),.nilS,.nilS]),sn (.store 5 (t 7) (t 51))]) (.seq (.seq (r [m 52 0,s 53 (.nilck (t 52)),fa 54 3 53,l 55 54,m 56 1,s 57 (.idxA 1 (t 55) (t 56)),l 58 57,s 59 (.len (t 58)),s 60 (.move (i 0))]) (.block 0 (.loop t9))) (.seq (r [m 88 5,m 89 5,c 90 67 [(t 89)],s 91 (.nilck (t 88)),fa 92 3 91,sn (.store 1 (t 92) (t 90))]) (.seq (r [m 93 5,fa 94 3 6,l 95 94,c 96 68 [(t 93),(t 95)]]) (.seq (r [s 11 (.move ns)]) (.seq (.seq (r [fa 97 2 6,l 98 97,s 99 (.bin .gtr (t 98) (i 0))]) (.cond (t 99) (r [m 100 11,fa 101 2 6,l 102 101,c 103 41 [(t 102),(.const (.int .u64 0))],s 104 (.buildF [(.int .u8 0),(.int .i64 0),(.int .u64 0),(.str []),(.int .i64 0),.nilS] 1 [(0,(t 103))]),s 105 (.app 34 6 72 (t 100) (t 104)),m 11 105]) .skip)) (.seq (r [m 106 5,m 107 11,s 108 (.build [(.int .u8 0),(.str []),.nilS,.nilS] [(0,1,(.const (.int .u8 7))),(2,1,(t 107))]),c 109 69 [(t 106),(t 108)]]) (.seq (r [m 110 5,s 111 (.nilck (t 110)),fa 112 2 111,l 113 112,fa 114 4 7,sn (.store 1 (t 114) (t 113))]) (.seq (r [s 115 (.load 5 true (t 7)),sn (.store 5 (t 4) (t 115))]) .ret))))))))))))):=⟨_,by simp only [QQ];rfl⟩
def A28:ak:=Gg.1
def R28:List RV:=[.cell 4 5 true]
theorem is28:Is Tryz.prog (fun _ _=>false) 28 116 A28 R28:=⟨Tryz.f28,Tryz.func28,rfl,by kernel_rfl,by kernel_rfl,Tryz.call28⟩
def Gf:CX (.seq (r [s 4 (.move b0)]) (.seq (r [m 5 0,m 6 1,c 7 70 [(t 5),(t 6)],s 8 (.bin .geq (t 7) (i 0)),m 4 8]) .ret)):=⟨_,by simp only [QQ];rfl⟩
def A29:ak:=Gf.1
def R29:List RV:=[.tmp 4]
theorem is29:Is Tryz.prog (fun _ _=>false) 29 9 A29 R29:=⟨Tryz.f29,Tryz.func29,rfl,by kernel_rfl,by kernel_rfl,Tryz.call29⟩
def Ge:CX (.seq (r [s 1 (.box (t 0)),s 2 (.move b0)]) (.seq (r [fa 3 0 1,l 4 3,s 5 (.len (t 4)),s 6 (.bin .gtr (t 5) (i 60)),m 2 6]) .ret)):=⟨_,by simp only [QQ];rfl⟩
def A30:ak:=Ge.1
def R30:List RV:=[.tmp 2]
theorem is30:Is Tryz.prog (fun _ _=>false) 30 7 A30 R30:=⟨Tryz.f30,Tryz.func30,rfl,by kernel_rfl,by kernel_rfl,Tryz.call30⟩
def pu:CX (.seq (.seq (r [m 38 9,m 39 5,s 40 (.len (t 39)),s 41 (.bin .lss (t 38) (t 40))]) (.cond (t 41) .skip (.exit 0))) (.seq (.block 1 (.seq (.dregion [⟨0,m 44 5,[]⟩,⟨1,m 45 9,[]⟩,⟨2,s 46 (.idxA 2 (t 44) (t 45)),[]⟩,⟨3,fa 47 0 46,[]⟩,⟨4,l 48 47,[]⟩,⟨5,m 49 5,[]⟩,⟨6,m 50 9,[]⟩,⟨7,s 51 (.idxA 2 (t 49) (t 50)),[]⟩,⟨8,fa 52 1 51,[]⟩,⟨9,l 53 52,[]⟩,⟨10,s 54 (.build [(.str []),(.int .i64 0)] [(0,1,(t 48)),(1,1,(t 53))]),[]⟩,⟨11,s 10 (.alloc [(.str []),(.int .i64 0)]),[0,1,2,3,4,5,6,7,8,9,10]⟩,⟨12,sn (.store 2 (t 10) (t 54)),[]⟩]) (.seq (r [m 55 9,m 56 7,s 57 (.nilck (t 56)),fa 58 3 57,fa 59 1 58,l 60 59,s 61 (.len (t 60)),s 62 (.bin .lss (t 55) (t 61))]) (.cond (t 62) (r [fa 63 1 8,l 64 63,s 65 (.load 2 true (t 10)),s 66 (.buildF [(.str []),(.int .i64 0)] 1 [(0,(t 65))]),s 67 (.app 101 2 24 (t 64) (t 66)),fa 68 1 8,sn (.store 1 (t 68) (t 67))]) (r [fa 69 3 8,l 70 69,s 71 (.load 2 true (t 10)),s 72 (.buildF [(.str []),(.int .i64 0)] 1 [(0,(t 71))]),s 73 (.app 101 2 24 (t 70) (t 72)),fa 74 3 8,sn (.store 1 (t 74) (t 73))]))))) (r [m 42 9,s 43 (.bin .add (t 42) (i 1)),m 9 43]))):=⟨_,by simp only [QQ];rfl⟩
def t8:ak:=pu.1
def Gd:CX (.seq (r [s 2 (.box (t 0)),s 4 (.alloc [(.str []),.nilS,(.int .i64 0),.nilS,.nilS])]) (.seq (r [s 13 (.load 2 true (t 2)),m 14 1,c 15 23 [(t 13),(t 14)],m 12 15,e 16 12 0,e 17 12 1,m 5 16,m 6 17]) (.seq (.dregion [⟨0,s 18 (.load 2 true (t 2)),[]⟩,⟨1,m 19 5,[]⟩,⟨2,fa 20 1 2,[]⟩,⟨3,l 21 20,[]⟩,⟨4,m 22 1,[]⟩,⟨5,s 23 (.idxA 4 (t 21) (t 22)),[]⟩,⟨6,s 24 (.load 4 true (t 23)),[]⟩,⟨7,s 25 (.build [.nilS,.nilS,.nilS,(.str []),.nilS,(.int .i64 0),.nilS,.nilS,(.int .i64 0),.nilS] [(0,2,(t 18)),(2,1,(t 19)),(3,4,(t 24))]),[]⟩,⟨8,s 26 (.box (t 25)),[]⟩,⟨9,m 7 26,[]⟩]) (.seq (.dregion [⟨0,m 27 7,[]⟩,⟨1,s 28 (.nilck (t 27)),[]⟩,⟨2,fa 29 3 28,[]⟩,⟨3,fa 30 0 29,[]⟩,⟨4,l 31 30,[]⟩,⟨5,m 32 7,[]⟩,⟨6,s 33 (.nilck (t 32)),[]⟩,⟨7,fa 34 3 33,[]⟩,⟨8,fa 35 2 34,[]⟩,⟨9,l 36 35,[]⟩,⟨10,s 37 (.build [(.str []),.nilS,(.int .i64 0),.nilS,.nilS] [(0,1,(t 31)),(2,1,(t 36))]),[]⟩,⟨11,s 8 (.alloc [(.str []),.nilS,(.int .i64 0),.nilS,.nilS]),[0,1,2,3,4,5,6,7,8,9,10]⟩,⟨12,sn (.store 5 (t 8) (t 37)),[]⟩]) (.seq (.seq (r [s 9 (.move (i 0))]) (.block 0 (.loop t8))) (.seq (r [m 75 7,m 76 7,c 77 71 [(t 76)],s 78 (.nilck (t 75)),fa 79 8 78,sn (.store 1 (t 79) (t 77))]) (.seq (r [m 80 7,m 81 7,s 82 (.nilck (t 81)),fa 83 3 82,fa 84 3 83,l 85 84,c 86 72 [(t 80),(t 85)]]) (.seq (r [s 11 (.move ns)]) (.seq (.seq (r [fa 87 2 8,l 88 87,s 89 (.bin .gtr (t 88) (i 0))]) (.cond (t 89) (r [fa 90 2 8,l 91 90,c 92 50 [(t 91),(.const (.int .u64 0))],s 93 (.buildF [(.int .u8 0),(.int .i64 0),(.int .u64 0),(.str []),(.int .i64 0),.nilS] 1 [(0,(t 92))]),m 11 93]) .skip)) (.seq (r [m 94 7,m 95 11,s 96 (.build [(.int .u8 0),(.str []),.nilS,.nilS] [(0,1,(.const (.int .u8 7))),(2,1,(t 95))]),c 97 73 [(t 94),(t 96)]]) (.seq (r [m 98 7,s 99 (.nilck (t 98)),fa 100 7 99,l 101 100,fa 102 4 8,sn (.store 1 (t 102) (t 101))]) (.seq (r [s 103 (.load 5 true (t 8)),sn (.store 5 (t 4) (t 103))]) .ret)))))))))))):=⟨_,by simp only [QQ];rfl⟩
def A31:ak:=Gd.1
def R31:List RV:=[.cell 4 5 true]
theorem is31:Is Tryz.prog (fun _ _=>false) 31 104 A31 R31:=⟨Tryz.f31,Tryz.func31,rfl,by kernel_rfl,by kernel_rfl,Tryz.call31⟩
def sw:CX (.seq (.seq (r [m 6 4,fa 7 1 1,l 8 7,s 9 (.len (t 8)),s 10 (.bin .lss (t 6) (t 9))]) (.cond (t 10) .skip (.exit 0))) (.seq (.block 1 (r [m 13 3,fa 14 1 1,l 15 14,m 16 4,s 17 (.idxA 2 (t 15) (t 16)),s 18 (.load 2 true (t 17)),s 19 (.buildF [(.str []),(.int .i64 0)] 1 [(0,(t 18))]),s 20 (.app 101 2 24 (t 13) (t 19)),m 3 20])) (r [m 11 4,s 12 (.bin .add (t 11) (i 1)),m 4 12]))):=⟨_,by simp only [QQ];rfl⟩
def yg:ak:=sw.1
def su:CX (.seq (.seq (r [m 21 5,fa 22 3 1,l 23 22,s 24 (.len (t 23)),s 25 (.bin .lss (t 21) (t 24))]) (.cond (t 25) .skip (.exit 2))) (.seq (.block 3 (r [m 28 3,fa 29 3 1,l 30 29,m 31 5,s 32 (.idxA 2 (t 30) (t 31)),s 33 (.load 2 true (t 32)),s 34 (.buildF [(.str []),(.int .i64 0)] 1 [(0,(t 33))]),s 35 (.app 101 2 24 (t 28) (t 34)),m 3 35])) (r [m 26 5,s 27 (.bin .add (t 26) (i 1)),m 5 27]))):=⟨_,by simp only [QQ];rfl⟩
def yf:ak:=su.1
def Ga:CX (.seq (r [s 1 (.box (t 0)),s 2 (.move ns)]) (.seq (r [s 3 (.move ns)]) (.seq (.seq (r [s 4 (.move (i 0))]) (.block 0 (.loop yg))) (.seq (.seq (r [s 5 (.move (i 0))]) (.block 2 (.loop yf))) (.seq (r [m 36 3,m 2 36]) .ret))))):=⟨_,by simp only [QQ];rfl⟩
def A32:ak:=Ga.1
def R32:List RV:=[.tmp 2]
theorem is32:Is Tryz.prog (fun _ _=>false) 32 37 A32 R32:=⟨Tryz.f32,Tryz.func32,rfl,by kernel_rfl,by kernel_rfl,Tryz.call32⟩
def sr:CX (.seq (.seq (r [m 55 5,fa 56 1 2,fa 57 3 56,l 58 57,s 59 (.len (t 58)),s 60 (.bin .lss (t 55) (t 59))]) (.cond (t 60) .skip (.exit 0))) (.seq (.block 1 (.seq (.dregion [⟨0,fa 63 1 2,[]⟩,⟨1,fa 64 3 63,[]⟩,⟨2,l 65 64,[]⟩,⟨3,m 66 5,[]⟩,⟨4,s 67 (.idxA 1 (t 65) (t 66)),[]⟩,⟨5,l 68 67,[]⟩,⟨6,fa 69 1 3,[]⟩,⟨7,fa 70 3 69,[]⟩,⟨8,l 71 70,[]⟩,⟨9,m 72 5,[]⟩,⟨10,s 73 (.idxA 1 (t 71) (t 72)),[]⟩,⟨11,l 74 73,[]⟩,⟨12,s 75 (.bin .neq (t 68) (t 74)),[]⟩]) (.cond (t 75) (.seq (r [s 4 (.move b0)]) .ret) .skip))) (r [m 61 5,s 62 (.bin .add (t 61) (i 1)),m 5 62]))):=⟨_,by simp only [QQ];rfl⟩
def ye:ak:=sr.1
def sq:CX (.seq (.seq (r [m 76 6,fa 77 0 2,l 78 77,s 79 (.len (t 78)),s 80 (.bin .lss (t 76) (t 79))]) (.cond (t 80) .skip (.exit 2))) (.seq (.block 3 (.seq (.dregion [⟨0,fa 83 0 2,[]⟩,⟨1,l 84 83,[]⟩,⟨2,m 85 6,[]⟩,⟨3,s 86 (.idxA 4 (t 84) (t 85)),[]⟩,⟨4,s 87 (.load 4 true (t 86)),[]⟩,⟨5,fa 88 0 3,[]⟩,⟨6,l 89 88,[]⟩,⟨7,m 90 6,[]⟩,⟨8,s 91 (.idxA 4 (t 89) (t 90)),[]⟩,⟨9,s 92 (.load 4 true (t 91)),[]⟩,⟨10,s 7 (.alloc [(.int .u8 0),(.str []),(.str []),.nilS]),[0,1,2,3,4,5,6,7,8,9]⟩,⟨11,s 8 (.alloc [(.int .u8 0),(.str []),(.str []),.nilS]),[0,1,2,3,4,5,6,7,8,9]⟩,⟨12,sn (.store 4 (t 7) (t 87)),[5,6,7,8,9]⟩,⟨13,sn (.store 4 (t 8) (t 92)),[]⟩]) (.seq (r [fa 93 0 7,l 94 93,fa 95 0 8,l 96 95,s 97 (.bin .neq (t 94) (t 96)),m 98 97,fb 99 98 1 7,fl 100 98 99,fb 101 98 1 8,fl 102 98 101,gf 103 98 (.bin .neq (t 100) (t 102)),s 104 (.pick (t 98) b1 (t 103)),m 105 104,fb 106 105 2 7,fl 107 105 106,fb 108 105 2 8,fl 109 105 108,gf 110 105 (.bin .neq (t 107) (t 109)),s 111 (.pick (t 105) b1 (t 110)),m 112 111,fb 113 112 3 7,fl 114 112 113,fb 115 112 3 8,fl 116 112 115,fc 117 112 74 [(t 114),(t 116)],gf 118 112 (.un .not (t 117)),s 119 (.pick (t 112) b1 (t 118))]) (.cond (t 119) (.seq (r [s 4 (.move b0)]) .ret) .skip)))) (r [m 81 6,s 82 (.bin .add (t 81) (i 1)),m 6 82]))):=⟨_,by simp only [QQ];rfl⟩
def yc:ak:=sq.1
def F9:CX (.seq (r [s 2 (.box (t 0)),s 3 (.box (t 1)),s 4 (.move b0)]) (.seq (.seq (r [fa 9 0 2,l 10 9,s 11 (.len (t 10)),fa 12 0 3,l 13 12,s 14 (.len (t 13)),s 15 (.bin .neq (t 11) (t 14)),m 16 15,fb 17 16 1 2,fb 18 16 3 17,fl 19 16 18,gf 20 16 (.len (t 19)),fb 21 16 1 3,fb 22 16 3 21,fl 23 16 22,gf 24 16 (.len (t 23)),gf 25 16 (.bin .neq (t 20) (t 24)),s 26 (.pick (t 16) b1 (t 25)),m 27 26,fb 28 27 1 2,fb 29 27 0 28,fl 30 27 29,fb 31 27 1 3,fb 32 27 0 31,fl 33 27 32,gf 34 27 (.bin .neq (t 30) (t 33)),s 35 (.pick (t 27) b1 (t 34)),m 36 35,fb 37 36 1 2,fb 38 36 1 37,fl 39 36 38,fb 40 36 1 3,fb 41 36 1 40,fl 42 36 41,gf 43 36 (.bin .neq (t 39) (t 42)),s 44 (.pick (t 36) b1 (t 43)),m 45 44,fb 46 45 1 2,fb 47 45 2 46,fl 48 45 47,fb 49 45 1 3,fb 50 45 2 49,fl 51 45 50,fc 52 45 74 [(t 48),(t 51)],gf 53 45 (.un .not (t 52)),s 54 (.pick (t 45) b1 (t 53))]) (.cond (t 54) (.seq (r [s 4 (.move b0)]) .ret) .skip)) (.seq (.seq (r [s 5 (.move (i 0))]) (.block 0 (.loop ye))) (.seq (.seq (r [s 6 (.move (i 0))]) (.block 2 (.loop yc))) (.seq (r [s 4 (.move b1)]) .ret))))):=⟨_,by simp only [QQ];rfl⟩
def A33:ak:=F9.1
def R33:List RV:=[.tmp 4]
theorem is33:Is Tryz.prog (fun _ _=>false) 33 120 A33 R33:=⟨Tryz.f33,Tryz.func33,rfl,by kernel_rfl,by kernel_rfl,Tryz.call33⟩
def so:CX (.seq (.seq (r [m 13 5,m 14 0,s 15 (.len (t 14)),s 16 (.bin .lss (t 13) (t 15))]) (.cond (t 16) .skip (.exit 0))) (.seq (.block 1 (.seq (.dregion [⟨0,m 19 0,[]⟩,⟨1,m 20 5,[]⟩,⟨2,s 21 (.idxA 7 (t 19) (t 20)),[]⟩,⟨3,s 22 (.load 7 true (t 21)),[]⟩,⟨4,m 23 1,[]⟩,⟨5,m 24 5,[]⟩,⟨6,s 25 (.idxA 7 (t 23) (t 24)),[]⟩,⟨7,s 26 (.load 7 true (t 25)),[]⟩,⟨8,s 6 (.alloc [(.int .u8 0),(.str []),(.str []),(.int .i64 0),.nilS,.nilS,.nilS]),[0,1,2,3,4,5,6,7]⟩,⟨9,s 7 (.alloc [(.int .u8 0),(.str []),(.str []),(.int .i64 0),.nilS,.nilS,.nilS]),[0,1,2,3,4,5,6,7]⟩,⟨10,sn (.store 7 (t 6) (t 22)),[4,5,6,7]⟩,⟨11,sn (.store 7 (t 7) (t 26)),[]⟩]) (.seq (r [fa 27 0 6,l 28 27,fa 29 0 7,l 30 29,s 31 (.bin .neq (t 28) (t 30)),m 32 31,fb 33 32 1 6,fl 34 32 33,fb 35 32 1 7,fl 36 32 35,gf 37 32 (.bin .neq (t 34) (t 36)),s 38 (.pick (t 32) b1 (t 37)),m 39 38,fb 40 39 2 6,fl 41 39 40,fb 42 39 2 7,fl 43 39 42,gf 44 39 (.bin .neq (t 41) (t 43)),s 45 (.pick (t 39) b1 (t 44)),m 46 45,fb 47 46 3 6,fl 48 46 47,fb 49 46 3 7,fl 50 46 49,gf 51 46 (.bin .neq (t 48) (t 50)),s 52 (.pick (t 46) b1 (t 51)),m 53 52,fb 54 53 4 6,fl 55 53 54,fb 56 53 4 7,fl 57 53 56,fc 58 53 75 [(t 55),(t 57)],gf 59 53 (.un .not (t 58)),s 60 (.pick (t 53) b1 (t 59)),m 61 60,fb 62 61 5 6,fl 63 61 62,fb 64 61 5 7,fl 65 61 64,fc 66 61 35 [(t 63),(t 65)],gf 67 61 (.un .not (t 66)),s 68 (.pick (t 61) b1 (t 67)),m 69 68,fb 70 69 6 6,fl 71 69 70,fb 72 69 6 7,fl 73 69 72,fc 74 69 35 [(t 71),(t 73)],gf 75 69 (.un .not (t 74)),s 76 (.pick (t 69) b1 (t 75))]) (.cond (t 76) (.seq (r [s 4 (.move b0)]) .ret) .skip)))) (r [m 17 5,s 18 (.bin .add (t 17) (i 1)),m 5 18]))):=⟨_,by simp only [QQ];rfl⟩
def ya:ak:=so.1
def F7:CX (.seq (r [s 4 (.move b0)]) (.seq (.seq (r [m 8 0,s 9 (.len (t 8)),m 10 1,s 11 (.len (t 10)),s 12 (.bin .neq (t 9) (t 11))]) (.cond (t 12) (.seq (r [s 4 (.move b0)]) .ret) .skip)) (.seq (.seq (r [s 5 (.move (i 0))]) (.block 0 (.loop ya))) (.seq (r [s 4 (.move b1)]) .ret)))):=⟨_,by simp only [QQ];rfl⟩
def A35:ak:=F7.1
def R35:List RV:=[.tmp 4]
theorem is35:Is Tryz.prog (fun _ _=>false) 35 77 A35 R35:=⟨Tryz.f35,Tryz.func35,rfl,by kernel_rfl,by kernel_rfl,Tryz.call35⟩
def sg:CX (.seq (.seq (r [m 6 4,m 7 0,s 8 (.len (t 7)),s 9 (.bin .lss (t 6) (t 8))]) (.cond (t 9) .skip (.exit 0))) (.seq (.block 1 (.seq (r [m 12 0,m 13 4,s 14 (.idxA 6 (t 12) (t 13)),s 15 (.load 6 true (t 14)),s 5 (.alloc [(.int .u8 0),(.int .i64 0),(.int .u64 0),(.str []),(.int .u8 0),.nilS]),sn (.store 6 (t 5) (t 15))]) (.seq (r [fa 16 5 5,l 17 16,c 18 58 [(t 17)],fa 19 5 5,sn (.store 1 (t 19) (t 18))]) (r [m 20 3,s 21 (.load 6 true (t 5)),s 22 (.buildF [(.int .u8 0),(.int .i64 0),(.int .u64 0),(.str []),(.int .u8 0),.nilS] 1 [(0,(t 21))]),s 23 (.app 29 6 72 (t 20) (t 22)),m 3 23])))) (r [m 10 4,s 11 (.bin .add (t 10) (i 1)),m 4 11]))):=⟨_,by simp only [QQ];rfl⟩
def x5:ak:=sg.1
def FO:CX (.seq (r [s 2 (.move ns)]) (.seq (r [s 3 (.move ns)]) (.seq (.seq (r [s 4 (.move (i 0))]) (.block 0 (.loop x5))) (.seq (r [m 24 3,m 2 24]) .ret)))):=⟨_,by simp only [QQ];rfl⟩
def A58:ak:=FO.1
def R58:List RV:=[.tmp 2]
theorem is58:Is Tryz.prog (fun _ _=>false) 58 25 A58 R58:=⟨Tryz.f58,Tryz.func58,rfl,by kernel_rfl,by kernel_rfl,Tryz.call58⟩
def FN:CX (.seq (r [s 4 (.box (t 1))]) (r [m 6 0,fa 7 1 4,l 8 7,m 9 2,s 10 (.build [(.int .u8 0),(.str []),(.str []),.nilS] [(0,1,(.const (.int .u8 1))),(1,1,(t 8)),(3,1,(t 9))]),c 11 105 [(t 6),(t 10)]])):=⟨_,by simp only [QQ];rfl⟩
def A59:ak:=FN.1
def R59:List RV:=[]
theorem is59:Is Tryz.prog (fun _ _=>false) 59 12 A59 R59:=⟨Tryz.f59,Tryz.func59,rfl,by kernel_rfl,by kernel_rfl,Tryz.call59⟩
def FM:CX (.seq (r [s 4 (.box (t 1))]) (.dregion [⟨0,m 6 0,[]⟩,⟨1,m 7 2,[]⟩,⟨2,s 8 (.idxA 6 (t 7) (i 1)),[]⟩,⟨3,s 9 (.load 6 true (t 8)),[]⟩,⟨4,m 10 0,[]⟩,⟨5,s 11 (.nilck (t 10)),[]⟩,⟨6,fa 12 0 11,[]⟩,⟨7,l 13 12,[]⟩,⟨8,fa 14 1 4,[]⟩,⟨9,l 15 14,[]⟩,⟨10,m 16 2,[]⟩,⟨11,s 17 (.idxA 6 (t 16) (i 0)),[]⟩,⟨12,s 18 (.load 6 true (t 17)),[]⟩,⟨13,c 19 45 [(t 13),(t 15),(t 18)],[0,1,2,3]⟩,⟨14,s 20 (.buildF [(.int .u8 0),(.int .i64 0),(.int .u64 0),(.str []),(.int .i64 0),.nilS] 2 [(0,(t 9)),(1,(t 19))]),[]⟩,⟨15,s 21 (.build [(.int .u8 0),(.str []),(.str []),.nilS] [(0,1,(.const (.int .u8 2))),(3,1,(t 20))]),[]⟩,⟨16,c 22 105 [(t 6),(t 21)],[]⟩])):=⟨_,by simp only [QQ];rfl⟩
def A60:ak:=FM.1
def R60:List RV:=[]
theorem is60:Is Tryz.prog (fun _ _=>false) 60 23 A60 R60:=⟨Tryz.f60,Tryz.func60,rfl,by kernel_rfl,by kernel_rfl,Tryz.call60⟩
def FL:CX (.seq (r [s 4 (.box (t 1))]) (.seq (r [m 10 0,c 11 67 [(t 10)],m 6 11]) (.seq (r [s 7 (.move (.const (.int .i64 (-1))))]) (.seq (.seq (r [fa 12 6 4,l 13 12,s 14 (.len (t 13)),s 15 (.bin .gtr (t 14) (i 0))]) (.cond (t 15) (r [m 16 0,c 17 67 [(t 16)],m 7 17]) .skip)) (.seq (r [m 18 0,c 19 67 [(t 18)],m 8 19]) (.seq (r [m 20 6,m 21 8,s 22 (.buildO 3 [(.int .i64 0)] 2 [(0,(t 20)),(1,(t 21))]),m 9 22]) (.seq (.seq (r [m 23 7,s 24 (.bin .neq (t 23) (.const (.int .i64 (-1))))]) (.cond (t 24) (r [m 25 9,m 26 7,s 27 (.idxA 1 (t 25) (i 1)),sn (.store 1 (t 27) (t 26))]) .skip)) (.seq (r [m 28 0,m 29 2,m 30 9,s 31 (.build [(.int .u8 0),(.str []),.nilS,.nilS] [(0,1,(.const (.int .u8 6))),(2,1,(t 29)),(3,1,(t 30))]),c 32 69 [(t 28),(t 31)]]) (.seq (r [m 33 0,m 34 6,s 35 (.nilck (t 33)),fa 36 3 35,sn (.store 1 (t 36) (t 34))]) (.seq (r [m 37 0,fa 38 5 4,l 39 38,c 40 68 [(t 37),(t 39)]]) (.seq (r [m 41 0,m 42 8,c 43 106 [(t 41),(t 42)]]) (.seq (.seq (r [m 44 7,s 45 (.bin .neq (t 44) (.const (.int .i64 (-1))))]) (.cond (t 45) (.seq (r [m 46 0,m 47 7,s 48 (.nilck (t 46)),fa 49 3 48,sn (.store 1 (t 49) (t 47))]) (.seq (r [m 50 0,fa 51 6 4,l 52 51,c 53 68 [(t 50),(t 52)]]) (r [m 54 0,m 55 8,c 56 106 [(t 54),(t 55)]]))) .skip)) (r [m 57 0,m 58 8,s 59 (.nilck (t 57)),fa 60 3 59,sn (.store 1 (t 60) (t 58))]))))))))))))):=⟨_,by simp only [QQ];rfl⟩
def A61:ak:=FL.1
def R61:List RV:=[]
theorem is61:Is Tryz.prog (fun r i=>[(6,2)].contains (r,i)) 61 61 A61 R61:=⟨Tryz.f61,Tryz.func61,rfl,by kernel_rfl,by kernel_rfl,Tryz.call61⟩
def FJ:CX (.seq (r [s 4 (.box (t 1))]) (.seq (r [m 10 0,c 11 67 [(t 10)],m 12 0,c 13 67 [(t 12)],m 14 0,c 15 67 [(t 14)],m 6 11,m 7 13,m 8 15]) (.seq (r [m 16 0,m 17 6,c 18 106 [(t 16),(t 17)]]) (.seq (r [m 19 0,m 20 6,s 21 (.nilck (t 19)),fa 22 3 21,sn (.store 1 (t 22) (t 20))]) (.seq (r [m 23 0,m 24 2,m 25 7,m 26 8,s 27 (.buildF [(.int .i64 0)] 2 [(0,(t 25)),(1,(t 26))]),s 28 (.build [(.int .u8 0),(.str []),.nilS,.nilS] [(0,1,(.const (.int .u8 6))),(2,1,(t 24)),(3,1,(t 27))]),c 29 69 [(t 23),(t 28)]]) (.seq (r [m 30 0,s 31 (.nilck (t 30)),fa 32 4 31,l 33 32,m 9 33]) (.seq (r [m 34 0,m 35 0,m 36 7,m 37 8,s 38 (.nilck (t 34)),fa 39 3 38,sn (.store 1 (t 39) (t 36)),s 40 (.nilck (t 35)),fa 41 4 40,sn (.store 1 (t 41) (t 37))]) (.seq (r [m 42 0,fa 43 5 4,l 44 43,c 45 68 [(t 42),(t 44)]]) (.seq (r [m 46 0,m 47 6,c 48 106 [(t 46),(t 47)]]) (r [m 49 0,m 50 0,m 51 8,m 52 9,s 53 (.nilck (t 49)),fa 54 3 53,sn (.store 1 (t 54) (t 51)),s 55 (.nilck (t 50)),fa 56 4 55,sn (.store 1 (t 56) (t 52))])))))))))):=⟨_,by simp only [QQ];rfl⟩
def A62:ak:=FJ.1
def R62:List RV:=[]
theorem is62:Is Tryz.prog (fun _ _=>false) 62 57 A62 R62:=⟨Tryz.f62,Tryz.func62,rfl,by kernel_rfl,by kernel_rfl,Tryz.call62⟩
def FI:CX (.seq (r [s 4 (.box (t 1))]) (r [m 6 0,m 7 0,s 8 (.nilck (t 7)),fa 9 4 8,l 10 9,c 11 106 [(t 6),(t 10)]])):=⟨_,by simp only [QQ];rfl⟩
def A63:ak:=FI.1
def R63:List RV:=[]
theorem is63:Is Tryz.prog (fun _ _=>false) 63 12 A63 R63:=⟨Tryz.f63,Tryz.func63,rfl,by kernel_rfl,by kernel_rfl,Tryz.call63⟩
def FH:CX (.seq (r [s 4 (.box (t 1))]) (r [m 6 0,m 7 2,s 8 (.build [(.int .u8 0),(.str []),(.str []),.nilS] [(0,1,(.const (.int .u8 4))),(3,1,(t 7))]),c 9 105 [(t 6),(t 8)]])):=⟨_,by simp only [QQ];rfl⟩
def A64:ak:=FH.1
def R64:List RV:=[]
theorem is64:Is Tryz.prog (fun _ _=>false) 64 10 A64 R64:=⟨Tryz.f64,Tryz.func64,rfl,by kernel_rfl,by kernel_rfl,Tryz.call64⟩
def FG:CX (.seq (r [s 4 (.box (t 1))]) (r [m 6 0,m 7 2,s 8 (.build [(.int .u8 0),(.str []),.nilS,.nilS] [(0,1,(.const (.int .u8 7))),(2,1,(t 7))]),c 9 69 [(t 6),(t 8)]])):=⟨_,by simp only [QQ];rfl⟩
def A65:ak:=FG.1
def R65:List RV:=[]
theorem is65:Is Tryz.prog (fun _ _=>false) 65 10 A65 R65:=⟨Tryz.f65,Tryz.func65,rfl,by kernel_rfl,by kernel_rfl,Tryz.call65⟩
def FF:CX (.seq (r [s 4 (.box (t 1))]) (r [m 6 0,fa 7 1 4,l 8 7,fa 9 2 4,l 10 9,m 11 2,s 12 (.build [(.int .u8 0),(.str []),(.str []),.nilS] [(0,1,(.const (.int .u8 3))),(1,1,(t 8)),(2,1,(t 10)),(3,1,(t 11))]),c 13 105 [(t 6),(t 12)]])):=⟨_,by simp only [QQ];rfl⟩
def A66:ak:=FF.1
def R66:List RV:=[]
theorem is66:Is Tryz.prog (fun _ _=>false) 66 14 A66 R66:=⟨Tryz.f66,Tryz.func66,rfl,by kernel_rfl,by kernel_rfl,Tryz.call66⟩
def FE:CX (.seq (r [s 2 (.move (i 0))]) (.seq (r [m 3 0,m 4 0,s 5 (.nilck (t 4)),fa 6 2 5,l 7 6,s 8 (.build [.nilS,(.int .u8 0),(.str []),.nilS,.nilS] []),s 9 (.buildF [.nilS,(.int .u8 0),(.str []),.nilS,.nilS] 1 [(0,(t 8))]),s 10 (.app 97 5 96 (t 7) (t 9)),s 11 (.nilck (t 3)),fa 12 2 11,sn (.store 1 (t 12) (t 10))]) (.seq (r [m 13 0,s 14 (.nilck (t 13)),fa 15 2 14,l 16 15,s 17 (.len (t 16)),s 18 (.bin .sub (t 17) (i 1)),m 2 18]) .ret))):=⟨_,by simp only [QQ];rfl⟩
def A67:ak:=FE.1
def R67:List RV:=[.tmp 2]
theorem is67:Is Tryz.prog (fun _ _=>false) 67 19 A67 R67:=⟨Tryz.f67,Tryz.func67,rfl,by kernel_rfl,by kernel_rfl,Tryz.call67⟩
def sf:CX (.seq (r [s 24 (.bin .lss (t 23) (t 22))]) (.seq (.cond (t 24) .skip (.exit 2)) (.seq (.block 3 (.seq (r [s 25 (.idxA 6 (t 21) (t 23)),s 26 (.load 6 true (t 25)),s 8 (.alloc [(.int .u8 0),(.int .i64 0),(.int .u64 0),(.str []),(.int .u8 0),.nilS]),sn (.store 6 (t 8) (t 26))]) (.dregion [⟨0,m 27 6,[]⟩,⟨1,m 28 0,[]⟩,⟨2,s 29 (.nilck (t 28)),[]⟩,⟨3,fa 30 0 29,[]⟩,⟨4,l 31 30,[]⟩,⟨5,m 32 0,[]⟩,⟨6,s 33 (.nilck (t 32)),[]⟩,⟨7,fa 34 1 33,[]⟩,⟨8,l 35 34,[]⟩,⟨9,s 36 (.load 6 true (t 8)),[]⟩,⟨10,c 37 21 [(t 31),(t 35),(t 36)],[0]⟩,⟨11,s 38 (.buildF [(.int .u8 0),(.int .i64 0),(.int .u64 0),(.str []),(.int .i64 0),.nilS] 1 [(0,(t 37))]),[]⟩,⟨12,s 39 (.app 34 6 72 (t 27) (t 38)),[]⟩,⟨13,m 6 39,[]⟩]))) (r [s 40 (.bin .add (t 23) (i 1)),m 23 40])))):=⟨_,by simp only [QQ];rfl⟩
def xX:ak:=sf.1
def mY:CX (.seq (r [s 12 (.bin .lss (t 11) (t 10))]) (.seq (.cond (t 12) .skip (.exit 0)) (.seq (.block 1 (.seq (r [s 13 (.idxA 7 (t 9) (t 11)),s 14 (.load 7 true (t 13)),s 5 (.alloc [(.int .u8 0),(.str []),(.str []),(.int .i64 0),.nilS,.nilS,.nilS]),sn (.store 7 (t 5) (t 14))]) (.seq (.seq (r [m 15 0,s 16 (.nilck (t 15)),fa 17 3 16,l 18 17,s 19 (.bin .eql (t 18) (.const (.int .i64 (-1))))]) (.cond (t 19) .ret .skip)) (.seq (r [s 6 (.move ns)]) (.seq (.seq (r [fa 20 4 5,l 21 20,s 22 (.len (t 21)),s 23 (.move (i 0))]) (.block 2 (.loop xX))) (.dregion [⟨0,m 41 0,[]⟩,⟨1,s 42 (.nilck (t 41)),[]⟩,⟨2,fa 43 5 42,[]⟩,⟨3,l 44 43,[]⟩,⟨4,fa 45 0 5,[]⟩,⟨5,l 46 45,[]⟩,⟨7,s 48 (.load 7 true (t 5)),[]⟩,⟨8,m 49 6,[]⟩,⟨6,s 47 (.m (.look .int .nilF false (t 44) (t 46))),[7,8]⟩,⟨9,⟨(some 50),none,.call (t 47) [(t 48),(t 49)]⟩,[]⟩])))))) (r [s 51 (.bin .add (t 11) (i 1)),m 11 51])))):=⟨_,by simp only [QQ];rfl⟩
def qV:ak:=mY.1
def CQ:CX (.seq (r [m 9 1,s 10 (.len (t 9)),s 11 (.move (i 0))]) (.block 0 (.loop qV))):=⟨_,by simp only [QQ];rfl⟩
def A68:ak:=CQ.1
def R68:List RV:=[]
theorem DF:Is Tryz.prog (fun _ _=>false) 68 52 A68 R68:=⟨Tryz.f68,Tryz.func68,rfl,by kernel_rfl,by kernel_rfl,Tryz.call68⟩
def CP:CX (.seq (r [s 3 (.box (t 1))]) (.seq (.seq (r [m 4 0,s 5 (.nilck (t 4)),fa 6 3 5,l 7 6,s 8 (.bin .neq (t 7) (.const (.int .i64 (-1))))]) (.cond (t 8) (.dregion [⟨0,m 9 0,[]⟩,⟨1,s 10 (.nilck (t 9)),[]⟩,⟨2,fa 11 2 10,[]⟩,⟨3,l 12 11,[]⟩,⟨4,m 13 0,[]⟩,⟨5,s 14 (.nilck (t 13)),[]⟩,⟨6,fa 15 3 14,[]⟩,⟨7,l 16 15,[]⟩,⟨8,s 17 (.load 4 true (t 3)),[]⟩,⟨9,s 18 (.idxA 5 (t 12) (t 16)),[]⟩,⟨10,fa 19 1 18,[]⟩,⟨11,sn (.store 4 (t 19) (t 17)),[]⟩]) .skip)) (r [m 20 0,s 21 (.nilck (t 20)),fa 22 3 21,sn (.store 1 (t 22) (.const (.int .i64 (-1))))]))):=⟨_,by simp only [QQ];rfl⟩
def A69:ak:=CP.1
def R69:List RV:=[]
theorem is69:Is Tryz.prog (fun _ _=>false) 69 23 A69 R69:=⟨Tryz.f69,Tryz.func69,rfl,by kernel_rfl,by kernel_rfl,Tryz.call69⟩
def sd:CX (.seq (r [s 9 (.bin .lss (t 8) (t 7))]) (.seq (.cond (t 9) .skip (.exit 0)) (.seq (.block 1 (.seq (r [m 10 8,m 5 10]) (.seq (r [m 11 1,m 12 0,m 13 5,s 14 (.idxA 5 (t 12) (t 13)),s 15 (.load 5 true (t 14)),⟨(some 16),none,.call (t 11) [(t 15)]⟩]) (.cond (t 16) (.seq (r [m 17 5,m 4 17]) .ret) .skip)))) (r [s 18 (.bin .add (t 8) (i 1)),m 8 18])))):=⟨_,by simp only [QQ];rfl⟩
def xW:ak:=sd.1
def FD:CX (.seq (r [s 4 (.move (i 0))]) (.seq (.seq (r [m 6 0,s 7 (.len (t 6)),s 8 (.move (i 0))]) (.block 0 (.loop xW))) (.seq (r [s 4 (.move (.const (.int .i64 (-1))))]) .ret))):=⟨_,by simp only [QQ];rfl⟩
def A70:ak:=FD.1
def R70:List RV:=[.tmp 4]
theorem is70:Is Tryz.prog (fun _ _=>false) 70 19 A70 R70:=⟨Tryz.f70,Tryz.func70,rfl,by kernel_rfl,by kernel_rfl,Tryz.call70⟩
def FC:CX (.seq (r [s 2 (.move (i 0))]) (.seq (r [m 3 0,m 4 0,s 5 (.nilck (t 4)),fa 6 7 5,l 7 6,s 8 (.build [.nilS,(.int .u8 0),(.str []),.nilS,.nilS] []),s 9 (.buildF [.nilS,(.int .u8 0),(.str []),.nilS,.nilS] 1 [(0,(t 8))]),s 10 (.app 97 5 96 (t 7) (t 9)),s 11 (.nilck (t 3)),fa 12 7 11,sn (.store 1 (t 12) (t 10))]) (.seq (r [m 13 0,s 14 (.nilck (t 13)),fa 15 7 14,l 16 15,s 17 (.len (t 16)),s 18 (.bin .sub (t 17) (i 1)),m 2 18]) .ret))):=⟨_,by simp only [QQ];rfl⟩
def A71:ak:=FC.1
def R71:List RV:=[.tmp 2]
theorem is71:Is Tryz.prog (fun _ _=>false) 71 19 A71 R71:=⟨Tryz.f71,Tryz.func71,rfl,by kernel_rfl,by kernel_rfl,Tryz.call71⟩
def pk:CX (.seq (.seq (r [m 5 4,m 6 1,s 7 (.len (t 6)),s 8 (.bin .lss (t 5) (t 7)),m 9 8,gt 10 9 (.move (t 0)),gt 11 9 (.nilck (t 10)),ta 12 9 8 11,tl 13 9 12,gt 14 9 (.bin .geq (t 13) (i 0)),s 15 (.pick (t 9) (t 14) b0)]) (.cond (t 15) .skip (.exit 0))) (.seq (.block 1 (r [m 18 0,m 19 1,m 20 4,s 21 (.idxA 7 (t 19) (t 20)),s 22 (.load 7 true (t 21)),c 23 107 [(t 18),(t 22)]])) (r [m 16 4,s 17 (.bin .add (t 16) (i 1)),m 4 17]))):=⟨_,by simp only [QQ];rfl⟩
def tV:ak:=pk.1
def FB:CX (.seq (r [s 4 (.move (i 0))]) (.block 0 (.loop tV))):=⟨_,by simp only [QQ];rfl⟩
def A72:ak:=FB.1
def R72:List RV:=[]
theorem is72:Is Tryz.prog (fun _ _=>false) 72 24 A72 R72:=⟨Tryz.f72,Tryz.func72,rfl,by kernel_rfl,by kernel_rfl,Tryz.call72⟩
def CO:CX (.seq (r [s 3 (.box (t 1))]) (.seq (.seq (r [m 4 0,s 5 (.nilck (t 4)),fa 6 8 5,l 7 6,s 8 (.bin .geq (t 7) (i 0))]) (.cond (t 8) (.dregion [⟨0,m 9 0,[]⟩,⟨1,s 10 (.nilck (t 9)),[]⟩,⟨2,fa 11 7 10,[]⟩,⟨3,l 12 11,[]⟩,⟨4,m 13 0,[]⟩,⟨5,s 14 (.nilck (t 13)),[]⟩,⟨6,fa 15 8 14,[]⟩,⟨7,l 16 15,[]⟩,⟨8,s 17 (.load 4 true (t 3)),[]⟩,⟨9,s 18 (.idxA 5 (t 12) (t 16)),[]⟩,⟨10,fa 19 1 18,[]⟩,⟨11,sn (.store 4 (t 19) (t 17)),[]⟩]) .skip)) (r [m 20 0,s 21 (.nilck (t 20)),fa 22 8 21,sn (.store 1 (t 22) (.const (.int .i64 (-1))))]))):=⟨_,by simp only [QQ];rfl⟩
def A73:ak:=CO.1
def R73:List RV:=[]
theorem is73:Is Tryz.prog (fun _ _=>false) 73 23 A73 R73:=⟨Tryz.f73,Tryz.func73,rfl,by kernel_rfl,by kernel_rfl,Tryz.call73⟩
def sc:CX (.seq (.seq (r [m 11 5,m 12 0,s 13 (.len (t 12)),s 14 (.bin .lss (t 11) (t 13))]) (.cond (t 14) .skip (.exit 0))) (.seq (.block 1 (.seq (.dregion [⟨0,m 17 0,[]⟩,⟨1,m 18 5,[]⟩,⟨2,s 19 (.idxA 6 (t 17) (t 18)),[]⟩,⟨3,s 20 (.load 6 true (t 19)),[]⟩,⟨4,m 21 1,[]⟩,⟨5,m 22 5,[]⟩,⟨6,s 23 (.idxA 6 (t 21) (t 22)),[]⟩,⟨7,s 24 (.load 6 true (t 23)),[]⟩,⟨8,c 25 11 [(t 20),(t 24)],[]⟩,⟨9,s 26 (.un .not (t 25)),[]⟩]) (.cond (t 26) (.seq (r [s 4 (.move b0)]) .ret) .skip))) (r [m 15 5,s 16 (.bin .add (t 15) (i 1)),m 5 16]))):=⟨_,by simp only [QQ];rfl⟩
def xV:ak:=sc.1
def FA:CX (.seq (r [s 4 (.move b0)]) (.seq (.seq (r [m 6 0,s 7 (.len (t 6)),m 8 1,s 9 (.len (t 8)),s 10 (.bin .neq (t 7) (t 9))]) (.cond (t 10) (.seq (r [s 4 (.move b0)]) .ret) .skip)) (.seq (.seq (r [s 5 (.move (i 0))]) (.block 0 (.loop xV))) (.seq (r [s 4 (.move b1)]) .ret)))):=⟨_,by simp only [QQ];rfl⟩
def A74:ak:=FA.1
def R74:List RV:=[.tmp 4]
theorem is74:Is Tryz.prog (fun _ _=>false) 74 27 A74 R74:=⟨Tryz.f74,Tryz.func74,rfl,by kernel_rfl,by kernel_rfl,Tryz.call74⟩
def pj:CX (.seq (.seq (r [m 13 5,m 14 0,s 15 (.len (t 14)),s 16 (.bin .lss (t 13) (t 15))]) (.cond (t 16) .skip (.exit 0))) (.seq (.block 1 (.seq (.dregion [⟨0,m 19 0,[]⟩,⟨1,m 20 5,[]⟩,⟨2,s 21 (.idxA 6 (t 19) (t 20)),[]⟩,⟨3,s 22 (.load 6 true (t 21)),[]⟩,⟨4,m 23 1,[]⟩,⟨5,m 24 5,[]⟩,⟨6,s 25 (.idxA 6 (t 23) (t 24)),[]⟩,⟨7,s 26 (.load 6 true (t 25)),[]⟩,⟨8,s 6 (.alloc [(.int .u8 0),(.int .i64 0),(.int .u64 0),(.str []),(.int .u8 0),.nilS]),[0,1,2,3,4,5,6,7]⟩,⟨9,s 7 (.alloc [(.int .u8 0),(.int .i64 0),(.int .u64 0),(.str []),(.int .u8 0),.nilS]),[0,1,2,3,4,5,6,7]⟩,⟨10,sn (.store 6 (t 6) (t 22)),[4,5,6,7]⟩,⟨11,sn (.store 6 (t 7) (t 26)),[]⟩]) (.seq (r [fa 27 0 6,l 28 27,fa 29 0 7,l 30 29,s 31 (.bin .neq (t 28) (t 30)),m 32 31,fb 33 32 1 6,fl 34 32 33,fb 35 32 1 7,fl 36 32 35,gf 37 32 (.bin .neq (t 34) (t 36)),s 38 (.pick (t 32) b1 (t 37)),m 39 38,fb 40 39 2 6,fl 41 39 40,fb 42 39 2 7,fl 43 39 42,gf 44 39 (.bin .neq (t 41) (t 43)),s 45 (.pick (t 39) b1 (t 44)),m 46 45,fb 47 46 3 6,fl 48 46 47,fb 49 46 3 7,fl 50 46 49,gf 51 46 (.bin .neq (t 48) (t 50)),s 52 (.pick (t 46) b1 (t 51)),m 53 52,fb 54 53 4 6,fl 55 53 54,fb 56 53 4 7,fl 57 53 56,gf 58 53 (.bin .neq (t 55) (t 57)),s 59 (.pick (t 53) b1 (t 58)),m 60 59,fb 61 60 5 6,fl 62 60 61,fb 63 60 5 7,fl 64 60 63,fc 65 60 75 [(t 62),(t 64)],gf 66 60 (.un .not (t 65)),s 67 (.pick (t 60) b1 (t 66))]) (.cond (t 67) (.seq (r [s 4 (.move b0)]) .ret) .skip)))) (r [m 17 5,s 18 (.bin .add (t 17) (i 1)),m 5 18]))):=⟨_,by simp only [QQ];rfl⟩
def tU:ak:=pj.1
def CN:CX (.seq (r [s 4 (.move b0)]) (.seq (.seq (r [m 8 0,s 9 (.len (t 8)),m 10 1,s 11 (.len (t 10)),s 12 (.bin .neq (t 9) (t 11))]) (.cond (t 12) (.seq (r [s 4 (.move b0)]) .ret) .skip)) (.seq (.seq (r [s 5 (.move (i 0))]) (.block 0 (.loop tU))) (.seq (r [s 4 (.move b1)]) .ret)))):=⟨_,by simp only [QQ];rfl⟩
def A75:ak:=CN.1
def R75:List RV:=[.tmp 4]
theorem DE:Is Tryz.prog (fun _ _=>false) 75 68 A75 R75:=⟨Tryz.f75,Tryz.func75,rfl,by kernel_rfl,by kernel_rfl,Tryz.call75⟩
def Bq:CX (.seq (r [s 3 (.box (t 1))]) (.seq (.dregion [⟨0,m 5 0,[]⟩,⟨1,s 6 (.nilck (t 5)),[]⟩,⟨2,fa 7 2 6,[]⟩,⟨3,l 8 7,[]⟩,⟨4,m 9 0,[]⟩,⟨5,s 10 (.nilck (t 9)),[]⟩,⟨6,fa 11 3 10,[]⟩,⟨7,l 12 11,[]⟩,⟨8,s 13 (.idxA 5 (t 8) (t 12)),[]⟩,⟨9,m 4 13,[]⟩]) (.dregion [⟨0,m 14 4,[]⟩,⟨1,m 15 4,[]⟩,⟨2,s 16 (.nilck (t 15)),[]⟩,⟨3,fa 17 0 16,[]⟩,⟨4,l 18 17,[]⟩,⟨5,s 19 (.load 4 true (t 3)),[]⟩,⟨6,s 20 (.buildF [(.int .u8 0),(.str []),(.str []),.nilS] 1 [(0,(t 19))]),[]⟩,⟨7,s 21 (.app 138 4 64 (t 18) (t 20)),[0]⟩,⟨8,s 22 (.nilck (t 14)),[]⟩,⟨9,fa 23 0 22,[]⟩,⟨10,sn (.store 1 (t 23) (t 21)),[]⟩]))):=⟨_,by simp only [QQ];rfl⟩
def G2:ak:=Bq.1
def Fb:List RV:=[]
theorem El:Is Tryz.prog (fun _ _=>false) 105 24 G2 Fb:=⟨Tryz.f105,Tryz.func105,rfl,by kernel_rfl,by kernel_rfl,Tryz.call105⟩
def Bp:CX (r [m 4 0,m 5 1,s 6 (.buildF [(.int .i64 0)] 1 [(0,(t 5))]),s 7 (.build [(.int .u8 0),(.str []),.nilS,.nilS] [(0,1,(.const (.int .u8 5))),(3,1,(t 6))]),c 8 69 [(t 4),(t 7)]]):=⟨_,by simp only [QQ];rfl⟩
def G0:ak:=Bp.1
def Fa:List RV:=[]
theorem Ek:Is Tryz.prog (fun _ _=>false) 106 9 G0 Fa:=⟨Tryz.f106,Tryz.func106,rfl,by kernel_rfl,by kernel_rfl,Tryz.call106⟩
def pP:CX (.seq (.seq (r [m 13 5,fa 14 4 3,l 15 14,s 16 (.len (t 15)),s 17 (.bin .lss (t 13) (t 16))]) (.cond (t 17) .skip (.exit 0))) (.seq (.block 1 (r [m 20 4,m 21 0,fa 22 4 3,l 23 22,m 24 5,s 25 (.idxA 6 (t 23) (t 24)),s 26 (.load 6 true (t 25)),c 27 24 [(t 21),(t 26)],s 28 (.buildF [(.int .u8 0),(.int .i64 0),(.int .u64 0),(.str []),(.int .i64 0),.nilS] 1 [(0,(t 27))]),s 29 (.app 34 6 72 (t 20) (t 28)),m 4 29])) (r [m 18 5,s 19 (.bin .add (t 18) (i 1)),m 5 19]))):=⟨_,by simp only [QQ];rfl⟩
def sY:ak:=pP.1
def Bo:CX (.seq (r [s 3 (.box (t 1))]) (.seq (r [s 4 (.move ns)]) (.seq (.seq (r [s 5 (.move (i 0))]) (.block 0 (.loop sY))) (.seq (r [fa 30 0 3,l 31 30]) (.block 2 (.seq (.seq (r [s 33 (.bin .eql (t 31) (.const (.int .u8 1))),m 32 33]) (.cond (t 32) .skip (r [s 34 (.bin .eql (t 31) (.const (.int .u8 2))),m 32 34]))) (.cond (t 32) (r [m 35 0,fa 36 1 3,l 37 36,m 38 4,s 39 (.build [(.int .u8 0),(.str []),(.str []),.nilS] [(0,1,(.const (.int .u8 1))),(1,1,(t 37)),(3,1,(t 38))]),c 40 132 [(t 35),(t 39)]]) (.seq (r [s 42 (.bin .eql (t 31) (.const (.int .u8 3))),m 41 42]) (.cond (t 41) (.dregion [⟨0,m 43 0,[]⟩,⟨1,m 44 4,[]⟩,⟨2,s 45 (.idxA 6 (t 44) (i 1)),[]⟩,⟨3,s 46 (.load 6 true (t 45)),[]⟩,⟨4,m 47 0,[]⟩,⟨5,fa 48 1 3,[]⟩,⟨6,l 49 48,[]⟩,⟨7,m 50 4,[]⟩,⟨8,s 51 (.idxA 6 (t 50) (i 0)),[]⟩,⟨9,s 52 (.load 6 true (t 51)),[]⟩,⟨10,c 53 54 [(t 47),(t 49),(t 52)],[0,1,2,3]⟩,⟨11,s 54 (.buildF [(.int .u8 0),(.int .i64 0),(.int .u64 0),(.str []),(.int .i64 0),.nilS] 2 [(0,(t 46)),(1,(t 53))]),[]⟩,⟨12,s 55 (.build [(.int .u8 0),(.str []),(.str []),.nilS] [(0,1,(.const (.int .u8 2))),(3,1,(t 54))]),[]⟩,⟨13,c 56 132 [(t 43),(t 55)],[]⟩]) (.seq (r [s 58 (.bin .eql (t 31) (.const (.int .u8 7))),m 57 58]) (.cond (t 57) (r [m 59 0,m 60 4,s 61 (.build [(.int .u8 0),(.str []),(.str []),.nilS] [(0,1,(.const (.int .u8 4))),(3,1,(t 60))]),c 62 132 [(t 59),(t 61)]]) (.seq (r [s 64 (.bin .eql (t 31) (.const (.int .u8 9))),m 63 64]) (.cond (t 63) (r [m 65 0,fa 66 1 3,l 67 66,fa 68 2 3,l 69 68,m 70 4,s 71 (.build [(.int .u8 0),(.str []),(.str []),.nilS] [(0,1,(.const (.int .u8 3))),(1,1,(t 67)),(2,1,(t 69)),(3,1,(t 70))]),c 72 132 [(t 65),(t 71)]]) (.seq (r [s 74 (.bin .eql (t 31) (.const (.int .u8 4))),m 73 74]) (.cond (t 73) (.seq (r [m 75 0,c 76 71 [(t 75)],m 6 76]) (.seq (r [s 7 (.move (.const (.int .i64 (-1))))]) (.seq (.seq (r [fa 77 6 3,l 78 77,s 79 (.len (t 78)),s 80 (.bin .gtr (t 79) (i 0))]) (.cond (t 80) (r [m 81 0,c 82 71 [(t 81)],m 7 82]) .skip)) (.seq (r [m 83 0,c 84 71 [(t 83)],m 8 84]) (.seq (r [m 85 8,m 9 85]) (.seq (.seq (r [m 86 7,s 87 (.bin .geq (t 86) (i 0))]) (.cond (t 87) (r [m 88 7,m 9 88]) .skip)) (.seq (r [m 89 0,m 90 4,m 91 6,m 92 9,s 93 (.buildF [(.int .i64 0)] 2 [(0,(t 91)),(1,(t 92))]),s 94 (.build [(.int .u8 0),(.str []),.nilS,.nilS] [(0,1,(.const (.int .u8 6))),(2,1,(t 90)),(3,1,(t 93))]),c 95 73 [(t 89),(t 94)]]) (.seq (r [m 96 0,m 97 6,s 98 (.nilck (t 96)),fa 99 8 98,sn (.store 1 (t 99) (t 97))]) (.seq (r [m 100 0,fa 101 5 3,l 102 101,c 103 72 [(t 100),(t 102)]]) (.seq (r [m 104 0,m 105 8,c 106 133 [(t 104),(t 105)]]) (.seq (.seq (r [m 107 7,s 108 (.bin .geq (t 107) (i 0))]) (.cond (t 108) (.seq (r [m 109 0,m 110 7,s 111 (.nilck (t 109)),fa 112 8 111,sn (.store 1 (t 112) (t 110))]) (.seq (r [m 113 0,fa 114 6 3,l 115 114,c 116 72 [(t 113),(t 115)]]) (r [m 117 0,m 118 8,c 119 133 [(t 117),(t 118)]]))) .skip)) (r [m 120 0,m 121 8,s 122 (.nilck (t 120)),fa 123 8 122,sn (.store 1 (t 123) (t 121))])))))))))))) (.seq (r [s 125 (.bin .eql (t 31) (.const (.int .u8 5))),m 124 125]) (.cond (t 124) (.seq (r [m 126 0,c 127 71 [(t 126)],m 10 127]) (.seq (r [m 128 0,c 129 71 [(t 128)],m 11 129]) (.seq (r [m 130 0,c 131 71 [(t 130)],m 12 131]) (.seq (r [m 132 0,m 133 10,c 134 133 [(t 132),(t 133)]]) (.seq (r [m 135 0,m 136 10,s 137 (.nilck (t 135)),fa 138 8 137,sn (.store 1 (t 138) (t 136))]) (.seq (r [m 139 0,m 140 4,m 141 11,m 142 12,s 143 (.buildF [(.int .i64 0)] 2 [(0,(t 141)),(1,(t 142))]),s 144 (.build [(.int .u8 0),(.str []),.nilS,.nilS] [(0,1,(.const (.int .u8 6))),(2,1,(t 140)),(3,1,(t 143))]),c 145 73 [(t 139),(t 144)]]) (.seq (r [m 146 0,m 147 11,s 148 (.nilck (t 146)),fa 149 8 148,sn (.store 1 (t 149) (t 147))]) (.seq (r [m 150 0,m 151 0,s 152 (.nilck (t 151)),fa 153 9 152,l 154 153,m 155 12,s 156 (.buildF [(.int .i64 0)] 1 [(0,(t 155))]),s 157 (.app 3 1 8 (t 154) (t 156)),s 158 (.nilck (t 150)),fa 159 9 158,sn (.store 1 (t 159) (t 157))]) (.seq (r [m 160 0,fa 161 5 3,l 162 161,c 163 72 [(t 160),(t 162)]]) (.seq (.dregion [⟨0,m 164 0,[]⟩,⟨1,m 165 0,[]⟩,⟨2,s 166 (.nilck (t 165)),[]⟩,⟨3,fa 167 9 166,[]⟩,⟨4,l 168 167,[]⟩,⟨5,m 169 0,[]⟩,⟨6,s 170 (.nilck (t 169)),[]⟩,⟨7,fa 171 9 170,[]⟩,⟨8,l 172 171,[]⟩,⟨9,s 173 (.len (t 172)),[]⟩,⟨10,s 174 (.bin .sub (t 173) (i 1)),[]⟩,⟨11,s 175 (.slc 1 (t 168) none (some (t 174)) none),[]⟩,⟨12,s 176 (.nilck (t 164)),[]⟩,⟨13,fa 177 9 176,[]⟩,⟨14,sn (.store 1 (t 177) (t 175)),[]⟩]) (.seq (r [m 178 0,m 179 10,c 180 133 [(t 178),(t 179)]]) (r [m 181 0,m 182 12,s 183 (.nilck (t 181)),fa 184 8 183,sn (.store 1 (t 184) (t 182))])))))))))))) (.seq (r [s 186 (.bin .eql (t 31) (.const (.int .u8 6))),m 185 186]) (.cond (t 185) (.dregion [⟨0,m 187 0,[]⟩,⟨1,m 188 0,[]⟩,⟨2,s 189 (.nilck (t 188)),[]⟩,⟨3,fa 190 9 189,[]⟩,⟨4,l 191 190,[]⟩,⟨5,m 192 0,[]⟩,⟨6,s 193 (.nilck (t 192)),[]⟩,⟨7,fa 194 9 193,[]⟩,⟨8,l 195 194,[]⟩,⟨9,s 196 (.len (t 195)),[]⟩,⟨10,s 197 (.bin .sub (t 196) (i 1)),[]⟩,⟨11,s 198 (.idxA 1 (t 191) (t 197)),[]⟩,⟨12,l 199 198,[]⟩,⟨13,c 200 133 [(t 187),(t 199)],[]⟩]) (.seq (r [s 202 (.bin .eql (t 31) (.const (.int .u8 8))),m 201 202]) (.cond (t 201) (r [m 203 0,m 204 4,s 205 (.build [(.int .u8 0),(.str []),.nilS,.nilS] [(0,1,(.const (.int .u8 7))),(2,1,(t 204))]),c 206 73 [(t 203),(t 205)]]) .skip))))))))))))))))))))):=⟨_,by simp only [QQ];rfl⟩
def GZ:ak:=Bo.1
def mX:List RV:=[]
theorem Ej:Is Tryz.prog (fun _ _=>false) 107 207 GZ mX:=⟨Tryz.f107,Tryz.func107,rfl,by kernel_rfl,by kernel_rfl,Tryz.call107⟩
def A6:CX (.seq (r [s 3 (.box (t 1))]) (.dregion [⟨0,m 4 0,[]⟩,⟨1,s 5 (.nilck (t 4)),[]⟩,⟨2,fa 6 7 5,[]⟩,⟨3,l 7 6,[]⟩,⟨4,m 8 0,[]⟩,⟨5,s 9 (.nilck (t 8)),[]⟩,⟨6,fa 10 8 9,[]⟩,⟨7,l 11 10,[]⟩,⟨8,m 12 0,[]⟩,⟨9,s 13 (.nilck (t 12)),[]⟩,⟨10,fa 14 7 13,[]⟩,⟨11,l 15 14,[]⟩,⟨12,m 16 0,[]⟩,⟨13,s 17 (.nilck (t 16)),[]⟩,⟨14,fa 18 8 17,[]⟩,⟨15,l 19 18,[]⟩,⟨16,s 20 (.idxA 5 (t 15) (t 19)),[]⟩,⟨17,fa 21 0 20,[]⟩,⟨18,l 22 21,[]⟩,⟨19,s 23 (.load 4 true (t 3)),[]⟩,⟨20,s 24 (.buildF [(.int .u8 0),(.str []),(.str []),.nilS] 1 [(0,(t 23))]),[]⟩,⟨21,s 25 (.app 138 4 64 (t 22) (t 24)),[0,1,2,3,4,5,6,7]⟩,⟨22,s 26 (.idxA 5 (t 7) (t 11)),[]⟩,⟨23,fa 27 0 26,[]⟩,⟨24,sn (.store 1 (t 27) (t 25)),[]⟩])):=⟨_,by simp only [QQ];rfl⟩
def GG:ak:=A6.1
def EY:List RV:=[]
theorem DY:Is Tryz.prog (fun _ _=>false) 132 28 GG EY:=⟨Tryz.f132,Tryz.func132,rfl,by kernel_rfl,by kernel_rfl,Tryz.call132⟩
def A3:CX (r [m 4 0,m 5 1,s 6 (.buildF [(.int .i64 0)] 1 [(0,(t 5))]),s 7 (.build [(.int .u8 0),(.str []),.nilS,.nilS] [(0,1,(.const (.int .u8 5))),(3,1,(t 6))]),c 8 73 [(t 4),(t 7)]]):=⟨_,by simp only [QQ];rfl⟩
def GF:ak:=A3.1
def EX:List RV:=[]
theorem DX:Is Tryz.prog (fun _ _=>false) 133 9 GF EX:=⟨Tryz.f133,Tryz.func133,rfl,by kernel_rfl,by kernel_rfl,Tryz.call133⟩
open Go Go.Ab Go.Proofs
set_option linter.unusedVariables false
set_option linter.unusedSimpArgs false
set_option maxRecDepth 20000
structure St where
 kind:Int
 var:Nm
 func:Nm
 terms:List Tm
structure Bk where
 steps:List St
 kind:Int
 func:Nm
 terms:List Tm
 to:List Int
structure Fn where
 name:Nm
 params:List Pm
 result:Int
 locals:List Pm
 blocks:List Bk
def stE (s:St):List AV:=[.int .u8 s.kind,.str s.var,.str s.func,cg s.terms]
def bkE (b:Bk):List AV:=[.lst 4 (b.steps.map stE),.int .u8 b.kind,.str b.func,cg b.terms,cP b.to]
def fnE (f:Fn):List AV:=[.str f.name,bw f.params,.int .i64 f.result,bw f.locals,.lst 5 (f.blocks.map bkE)]
theorem tk (l:List St):∀ z∈l.map stE,z.length=4:=fun z hz=>by
 obtain ⟨r,_,rfl⟩:=List.mem_map.1 hz;rfl
def Bk0:Bk:=⟨[],0,[],[],[]⟩
def kj:List AV:=[.nilS,.int .u8 0,.str [],.nilS,.nilS]
def BkC (h:Heap) (nx:Nat) (cs:List AV) (b:Bk):Prop:=∃ sv tv ov,cs=[sv,.int .u8 b.kind,.str b.func,tv,ov]∧aF 138 4 h nx sv (b.steps.map stE)∧(tv=cg b.terms∨(tv=.nilS∧b.terms=[]))∧(ov=cP b.to∨(ov=.nilS∧b.to=[]))
theorem BkC.len {h:Heap} {nx:Nat} {cs:List AV} {b:Bk} (hb:BkC h nx cs b):cs.length=5:=by
 obtain ⟨_,_,_,rfl,_⟩:=hb;rfl
def hdv (cs:List AV):AV:=cs.headD .nilS
structure ej (h:Heap) (nx:Nat) (v:AV) (cs:List (List AV)) (bs:List Bk):Prop where
 own:aF 97 5 h nx v cs
 len:cs.length=bs.length
 at_:∀ (i:Nat) c b,cs[i]?=some c→bs[i]?=some b→BkC h nx c b
 ap:∀ (i j:Nat) c d,i≠j→cs[i]?=some c→cs[j]?=some d→apart (hdv c) (hdv d)
 av:∀ (i:Nat) c,cs[i]?=some c→apart (hdv c) v
def Fp (v:AV) (cs:List (List AV)) (k:Nat):Prop:=aw v=some k∨∃ (i:Nat) (c:List AV),cs[i]?=some c∧aw (hdv c)=some k
section
variable {h h' h2:Heap} {nx n' n2:Nat} {v v' v2:AV} {cs cs' cs2:List (List AV)} {bs:List Bk}
theorem ej.has (B:ej h nx v cs bs) {i:Nat} {c:List AV} (hc:cs[i]?=some c):∃ b,bs[i]?=some b∧BkC h nx c b:=by
 have hl:=(G9.1 hc).1
 have hb:bs[i]?=some (bs[i]'(by rw [← B.len];exact hl)):=G7 _
 exact ⟨_,hb,B.at_ i c _ hc hb⟩
theorem ej.row (B:ej h nx v cs bs) {i:Nat} {b:Bk} (hb:bs[i]?=some b):∃ c,cs[i]?=some c∧BkC h nx c b:=by
 have hl:=(G9.1 hb).1
 have hc:cs[i]?=some (cs[i]'(by rw [B.len];exact hl)):=G7 _
 exact ⟨_,hc,B.at_ i _ b hc hb⟩
theorem ej.all (B:ej h nx v cs bs):∀ z∈cs,z.length=5:=fun z hz=>by
 obtain ⟨i,hi⟩:=List.getElem?_of_mem hz
 obtain ⟨b,_,hb⟩:=B.has hi
 exact hb.len
theorem ej.lt (B:ej h nx v cs bs) {k:Nat} (hk:Fp v cs k):k<nx:=by
 rcases hk with hk|⟨i,c,hc,hk⟩
 ·exact (B.own.blk hk).2.2
 ·obtain ⟨b,_,sv,tv,ov,rfl,ho,_⟩:=B.has hc
  exact (ho.blk hk).2.2
theorem ej.keep (B:ej h nx v cs bs) (hle:nx≤n') (hk:∀ k o,Fp v cs k→af h k=some o→af h' k=some o):ej h' n' v cs bs :=
 ⟨B.own.keep hle fun k o hb hg=>hk k o (.inl hb) hg,B.len,fun i c b hc hb=>by
  obtain ⟨sv,tv,ov,rfl,ho,r⟩:=B.at_ i c b hc hb
  exact ⟨sv,tv,ov,rfl,ho.keep hle fun k o hb hg=>hk k o (.inr ⟨i,_,hc,hb⟩) hg,r⟩,B.ap,B.av⟩
structure GrB (h:Heap) (nx:Nat) (v:AV) (cs:List (List AV)) (h':Heap) (n':Nat) (v':AV) (cs':List (List AV)):Prop where
 le:nx≤n'
 keep:∀ k o,k<nx→¬ Fp v cs k→af h k=some o→af h' k=some o
 new:∀ k,Fp v' cs' k→nx≤k∨Fp v cs k
theorem GrB.trans (a:GrB h nx v cs h' n' v' cs') (b:GrB h' n' v' cs' h2 n2 v2 cs2):GrB h nx v cs h2 n2 v2 cs2 :=
 ⟨Nat.le_trans a.le b.le,fun k o hk hf hg=>b.keep k o (Nat.lt_of_lt_of_le hk a.le) (fun hf'=>by
  rcases a.new k hf' with h1|h1
  ·omega
  ·exact hf h1) (a.keep k o hk hf hg),fun k hk=>by
  rcases b.new k hk with h1|h1
  ·exact .inl (Nat.le_trans a.le h1)
  ·exact a.new k h1⟩
theorem GrB.refl (hle:nx≤n') (hk:∀ k o,k<nx→af h k=some o→af h' k=some o):GrB h nx v cs h' n' v cs:=⟨hle,fun k o h1 _ h2=>hk k o h1 h2,fun k hk=>.inr hk⟩
theorem ej.block (B:ej h nx v cs bs) (hl:bs.length≤1000000):∃ v' h' n',eC 97 5 96 h nx v (.lst 5 [kj])=some (v',h',n')∧ej h' n' v' (cs++[kj]) (bs++[Bk0])∧GrB h nx v cs h' n' v' (cs++[kj]):=by
 have hcl:=B.len
 obtain ⟨v',h',n',ea,ow,hn,hk,hb⟩:=B.own.grw (bytes:=96) (ns:=[kj]) B.all (by simp [kj]) (by simp only [Hc,Hd];omega) (by simp only [Hc,Hd,maxLen];omega)
 refine ⟨v',h',n',ea,⟨ow,by simp [hcl],fun i c b hc hb'=>?_,fun i j c d hij hc hd=>?_,fun i c hc=>?_⟩,⟨hn,fun k o h1 h2 h3=>hk k o h1 h3 fun e=>h2 (.inl e),fun k hk'=>?_⟩⟩
 ·rw [Hi] at hc hb'
  rw [← hcl] at hb'
  split at hc
  ·rename_i hi
   rw [if_pos hi] at hb'
   obtain ⟨sv,tv,ov,rfl,ho,r⟩:=B.at_ i c b hc hb'
   exact ⟨sv,tv,ov,rfl,ho.keep hn fun k o hbk hg=>hk k o (ho.blk hbk).2.2 hg fun e=>B.av i _ hc k hbk e,r⟩
  ·rename_i hi
   rw [if_neg hi] at hb'
   obtain ⟨e1,e2⟩:c=kj∧b=Bk0:=by
    cases hq:i-cs.length with
    | zero=>rw [hq] at hc hb';simp at hc hb';exact ⟨hc.symm,hb'.symm⟩
    | succ q=>rw [hq] at hc;simp at hc
   subst e1;subst e2
   exact ⟨.nilS,.nilS,.nilS,rfl,.inl ⟨rfl,rfl⟩,.inr ⟨rfl,rfl⟩,.inr ⟨rfl,rfl⟩⟩
 ·rw [Hi] at hc hd
  have z:∀ {x:AV},apart (hdv kj) x:=fun b e _=>by cases e
  split at hc <;> split at hd
  ·exact B.ap i j c d hij hc hd
  ·rename_i h1 h2
   obtain rfl:d=kj:=by
    cases hq:j-cs.length with
    | zero=>rw [hq] at hd;simp at hd;exact hd.symm
    | succ q=>rw [hq] at hd;simp at hd
   exact z.symm
  ·obtain rfl:c=kj:=by
    cases hq:i-cs.length with
    | zero=>rw [hq] at hc;simp at hc;exact hc.symm
    | succ q=>rw [hq] at hc;simp at hc
   exact z
  ·obtain rfl:c=kj:=by
    cases hq:i-cs.length with
    | zero=>rw [hq] at hc;simp at hc;exact hc.symm
    | succ q=>rw [hq] at hc;simp at hc
   exact z
 ·intro k h1 h2
  rw [Hi] at hc
  split at hc
  ·obtain ⟨b,_,sv,tv,ov,rfl,ho,_⟩:=B.has hc
   rcases hb k h2 with h3|h3
   ·have:=(ho.blk h1).2.2;omega
   ·exact B.av i _ hc k h1 h3
  ·obtain rfl:c=kj:=by
    cases hq:i-cs.length with
    | zero=>rw [hq] at hc;simp at hc;exact hc.symm
    | succ q=>rw [hq] at hc;simp at hc
   cases h1
 ·rcases hk' with hk'|⟨i,c,hc,hk'⟩
  ·exact (hb k hk').imp id .inl
  ·rw [Hi] at hc
   split at hc
   ·exact .inr (.inr ⟨i,c,hc,hk'⟩)
   ·obtain rfl:c=kj:=by
     cases hq:i-cs.length with
     | zero=>rw [hq] at hc;simp at hc;exact hc.symm
     | succ q=>rw [hq] at hc;simp at hc
    cases hk'
theorem ej.add (B:ej h nx v cs bs) {i:Nat} {b:Bk} (hb:bs[i]?=some b) (hl:b.steps.length≤1000000) (s:St):∃ bb o sv rest sv' h1 n1 h2 cs',idxA 5 v (i:Int)=some (.op bb o)∧bG h (.op bb o)=some (sv::rest)∧eC 138 4 64 h nx sv (.lst 4 [stE s])=some (sv',h1,n1)∧cellsOf sv'=[sv']∧sv'.plain=true ∧
  eP h1 (.op bb o) [sv']=some h2∧ej h2 n1 v cs' (bs.set i { b with steps:=b.steps++[s] })∧GrB h nx v cs h2 n1 v cs'∧∀ k a,k<nx→¬ Fp v cs k→af h k=some a→af h1 k=some a:=by
 obtain ⟨c,hc,sv,tv,ov,rfl,ho,ht,hv⟩:=B.row hb
 have hil:=(G9.1 hc).1
 obtain ⟨bb,o,rest,i1,i2⟩:=B.own.cell B.all (off:=0) hc rfl
 obtain ⟨sv',h1,n1,ea,ow,hn,hk,hbk⟩:=ho.grw (bytes:=64) (ns:=[stE s]) (tk _) (by simp [stE]) (by simp only [He,Hc,Hd];omega) (by simp only [He,Hc,Hd,maxLen];omega)
 have oapart:=B.av i _ hc
 have qg:aF 97 5 h1 n1 v cs:=B.own.keep hn fun k a h3 h4=>hk k a (B.own.blk h3).2.2 h4 fun e=>oapart k e h3
 obtain ⟨b2,o2,h2,i3,i4,wm,k2⟩:=qg.put B.all (i:=i) (off:=0) hc (by omega) sv'
 rw [i1] at i3;injection i3 with i3;injection i3 with e1 e2;subst e1;subst e2
 have er:([sv,.int .u8 b.kind,.str b.func,tv,ov]:List AV).set 0 sv'=[sv',.int .u8 b.kind,.str b.func,tv,ov]:=rfl
 rw [er] at wm
 obtain ⟨q1,q2⟩:=bE ow
 have hsb:∀ k,aw sv'=some k→nx≤k∨aw sv=some k:=hbk
 have ne:∀ k,aw v=some k→aw sv'≠some k:=fun k h3 e=>by
  rcases hsb k e with h4|h4
  ·have:=(B.own.blk h3).2.2;omega
  ·exact oapart k h4 h3
 have at':∀ j d,(cs.set i [sv',.int .u8 b.kind,.str b.func,tv,ov])[j]?=some d→(j=i∧d=[sv',.int .u8 b.kind,.str b.func,tv,ov])∨(j≠i∧cs[j]?=some d):=fun j d hd=>by
  by_cases e:i=j
  ·rw [← e] at hd
   rw [List.getElem?_set_self hil] at hd
   exact .inl ⟨e.symm,(Option.some.inj hd).symm⟩
  ·rw [List.getElem?_set_ne e] at hd
   exact .inr ⟨fun e'=>e e'.symm,hd⟩
 have other:∀ j d k,j≠i→cs[j]?=some d→aw (hdv d)=some k→aw sv'≠some k:=fun j d k hj hd h3 e=>by
  rcases hsb k e with h4|h4
  ·have:=B.lt (.inr ⟨j,d,hd,h3⟩);omega
  ·exact B.ap j i d _ hj hd hc k h3 h4
 refine ⟨bb,o,sv,rest,sv',h1,n1,h2,_,i1,i2,ea,q1,q2,i4,⟨wm,by simp [B.len],fun j d b' hd hb'=>?_,fun j l d e hjl hd he=>?_,fun j d hd=>?_⟩,⟨hn,fun k a h3 h4 h5=>?_,fun k h3=>?_⟩,fun k a h3 h4 h5=>hk k a h3 h5 fun e=>h4 (.inr ⟨i,_,hc,e⟩)⟩
 ·rcases at' j d hd with ⟨rfl,rfl⟩|⟨hj,hd⟩
  ·rw [Ho,if_pos rfl,if_pos (by rw [← B.len];exact hil)] at hb'
   injection hb' with hb';subst hb'
   refine ⟨sv',tv,ov,rfl,?_,ht,hv⟩
   simp only [List.map_append,List.map_cons,List.map_nil]
   exact ow.keep (H4 _) fun k a h3 h4=>k2 k a h4 fun k' h5 e=>ne k' h5 (e ▸ h3)
  ·rw [Ho,if_neg (fun e=>hj e.symm)] at hb'
   obtain ⟨sv2,tv2,ov2,rfl,ho2,r⟩:=B.at_ j d b' hd hb'
   refine ⟨sv2,tv2,ov2,rfl,ho2.keep hn fun k a h3 h4=>k2 k a (hk k a (ho2.blk h3).2.2 h4 fun e=>B.ap j i _ _ hj hd hc k h3 e) fun k' h5 e=>B.av j _ hd k' (e ▸ h3) h5,r⟩
 ·rcases at' j d hd with ⟨j1,j2⟩|⟨j1,j2⟩ <;> rcases at' l e he with ⟨l1,l2⟩|⟨l1,l2⟩
  ·exact absurd (j1.trans l1.symm) hjl
  ·subst j2;exact fun k h3 h4=>other l e k l1 l2 h4 h3
  ·subst l2;exact fun k h3 h4=>other j d k j1 j2 h3 h4
  ·exact B.ap j l d e hjl j2 l2
 ·rcases at' j d hd with ⟨rfl,rfl⟩|⟨hj,hd⟩
  ·exact fun k h3 h4=>ne k h4 h3
  ·exact B.av j d hd
 ·exact k2 k a (hk k a h3 h5 fun e=>h4 (.inr ⟨i,_,hc,e⟩)) fun k' h6 e=>h4 (.inl (e ▸ h6))
 ·rcases h3 with h3|⟨j,d,hd,h3⟩
  ·exact .inr (.inl h3)
  ·rcases at' j d hd with ⟨rfl,rfl⟩|⟨hj,hd⟩
   ·rcases hsb k h3 with h4|h4
    ·exact .inl h4
    ·exact .inr (.inr ⟨j,_,hc,h4⟩)
   ·exact .inr (.inr ⟨j,d,hd,h3⟩)
theorem iK (cs:List AV) (k:Nat) (a:AV) (r:List AV) (hk:k+(r.length+1)≤cs.length):br cs k (a::r)=(br cs (k+1) r).set k a:=by
 have e:k+(r.length+1)=k+1+r.length:=by omega
 have ht:cs.take (k+1)=cs.take k++[cs[k]'(by omega)]:=by rw [List.take_add_one,G7 (by omega)];rfl
 have hl:(cs.take k).length=k:=by rw [List.length_take];omega
 simp only [br,Hc,e,ht,Hx,HE,List.nil_append]
 rw [List.set_append_right _ _ (by omega),hl,Nat.sub_self,List.set_cons_zero]
theorem ej.end_ (B:ej h nx v cs bs) {i:Nat} {b:Bk} (hb:bs[i]?=some b) (k:Int) (f:Nm) (tv ov:AV) (ts:List Tm) (to:List Int) (ht:tv=cg ts∨(tv=.nilS∧ts=[])) (hv:ov=cP to∨(ov=.nilS∧to=[])):∃ bb o h2 cs',idxA 5 v (i:Int)=some (.op bb o) ∧
  eP h (.op bb (o+1)) [.int .u8 k,.str f,tv,ov]=some h2∧ej h2 nx v cs' (bs.set i { b with kind:=k,func:=f,terms:=ts,to:=to })∧GrB h nx v cs h2 nx v cs':=by
 obtain ⟨c,hc,sv,tv0,ov0,rfl,ho,_,_⟩:=B.row hb
 have hil:=(G9.1 hc).1
 have hall:=B.all
 rcases B.own with ⟨rfl,rfl⟩|⟨bb,rfl,hbb,hlt⟩
 ·simp at hil
 have hfl:cs.flatten.length=cs.length*5:=gS hall
 have hle:i*5+5≤cs.length*5:=by omega
 have p1:=gR cs i 4 ov _ hall hc (by omega)
 have hall1:∀ z∈cs.set i ([sv,.int .u8 b.kind,.str b.func,tv0,ov0].set 4 ov),z.length=5:=oi hall hc ov
 have hc1:(cs.set i ([sv,.int .u8 b.kind,.str b.func,tv0,ov0].set 4 ov))[i]?=some [sv,.int .u8 b.kind,.str b.func,tv0,ov]:=by rw [Ho,if_pos rfl,if_pos hil];rfl
 have p2:=gR _ i 3 tv _ hall1 hc1 (by omega)
 have hall2:=oi (off:=3) hall1 hc1 tv
 have hc2:((cs.set i ([sv,.int .u8 b.kind,.str b.func,tv0,ov0].set 4 ov)).set i ([sv,.int .u8 b.kind,.str b.func,tv0,ov].set 3 tv))[i]?=some [sv,.int .u8 b.kind,.str b.func,tv,ov]:=by rw [Ho,if_pos rfl,if_pos (by simpa using hil)];rfl
 have p3:=gR _ i 2 (.str f) _ hall2 hc2 (by omega)
 have hall3:=oi (off:=2) hall2 hc2 (.str f)
 have hc3:(((cs.set i ([sv,.int .u8 b.kind,.str b.func,tv0,ov0].set 4 ov)).set i ([sv,.int .u8 b.kind,.str b.func,tv0,ov].set 3 tv)).set i ([sv,.int .u8 b.kind,.str b.func,tv,ov].set 2 (.str f)))[i]?=some [sv,.int .u8 b.kind,.str f,tv,ov]:=by rw [Ho,if_pos rfl,if_pos (by simpa using hil)];rfl
 have p4:=gR _ i 1 (.int .u8 k) _ hall3 hc3 (by omega)
 have es:br cs.flatten (i*5+1) [.int .u8 k,.str f,tv,ov]=(cs.set i [sv,.int .u8 k,.str f,tv,ov]).flatten:=by
  rw [iK _ _ _ _ (by simp only [Hc,Hd];omega),iK _ _ _ _ (by simp only [Hc,Hd];omega),iK _ _ _ _ (by simp only [Hc,Hd];omega),jE _ _ _ (by omega)]
  rw [show i*5+1+1=i*5+2 from rfl,show i*5+2+1=i*5+3 from rfl,show i*5+3+1=i*5+4 from rfl,← p1,← p2,← p3,← p4]
  simp only [List.set_set]
  rfl
 have at':∀ j d,(cs.set i [sv,.int .u8 k,.str f,tv,ov])[j]?=some d→(j=i∧d=[sv,.int .u8 k,.str f,tv,ov])∨(j≠i∧cs[j]?=some d):=fun j d hd=>by
  by_cases e:i=j
  ·rw [← e] at hd
   rw [List.getElem?_set_self hil] at hd
   exact .inl ⟨e.symm,(Option.some.inj hd).symm⟩
  ·rw [List.getElem?_set_ne e] at hd
   exact .inr ⟨fun e'=>e e'.symm,hd⟩
 have hdv':∀ j d,(cs.set i [sv,.int .u8 k,.str f,tv,ov])[j]?=some d→∃ d0,cs[j]?=some d0∧hdv d0=hdv d:=fun j d hd=>by
  rcases at' j d hd with ⟨rfl,rfl⟩|⟨_,hd⟩
  ·exact ⟨_,hc,rfl⟩
  ·exact ⟨d,hd,rfl⟩
 refine ⟨bb,0+i*5,bO h bb (.cells (br cs.flatten (0+i*5+1) [.int .u8 k,.str f,tv,ov])),cs.set i [sv,.int .u8 k,.str f,tv,ov],?_,?_,⟨.inr ⟨bb,by simp,?_,hlt⟩,by simp [B.len],fun j d b' hd hb'=>?_,fun j l d e hjl hd he=>?_,fun j d hd=>?_⟩,⟨H4 _,fun q a h3 h4 h5=>?_,fun q h3=>?_⟩⟩
 ·have:(i:Int)<(cs.length:Int):=by omega
  simp [idxA,this]
 ·simp only [eP,hbb,Hc,Hd]
  rw [if_pos (by omega)]
 ·rw [cl,if_pos rfl,Nat.zero_add,es]
 ·rcases at' j d hd with ⟨rfl,rfl⟩|⟨hj,hd⟩
  ·rw [Ho,if_pos rfl,if_pos (by rw [← B.len];exact hil)] at hb'
   injection hb' with hb';subst hb'
   exact ⟨sv,tv,ov,rfl,ho.keep (H4 _) fun q a h3 h4=>by
    rw [cl,if_neg]
    ·exact h4
    ·intro e;subst e;exact B.av j _ hc _ h3 rfl,ht,hv⟩
  ·rw [Ho,if_neg (fun e=>hj e.symm)] at hb'
   obtain ⟨sv2,tv2,ov2,rfl,ho2,r⟩:=B.at_ j d b' hd hb'
   exact ⟨sv2,tv2,ov2,rfl,ho2.keep (H4 _) fun q a h3 h4=>by
    rw [cl,if_neg]
    ·exact h4
    ·intro e;subst e;exact B.av j _ hd _ h3 rfl,r⟩
 ·obtain ⟨d0,e1,e2⟩:=hdv' j d hd
  obtain ⟨f0,e3,e4⟩:=hdv' l e he
  rw [← e2,← e4];exact B.ap j l d0 f0 hjl e1 e3
 ·obtain ⟨d0,e1,e2⟩:=hdv' j d hd
  rw [← e2];exact B.av j d0 e1
 ·rw [cl,if_neg]
  ·exact h5
  ·intro e;subst e;exact h4 (.inl rfl)
 ·rcases h3 with h3|⟨j,d,hd,h3⟩
  ·exact .inr (.inl h3)
  ·obtain ⟨d0,e1,e2⟩:=hdv' j d hd
   exact .inr (.inr ⟨j,d0,e1,by rw [e2];exact h3⟩)
end
abbrev WSt:=List Bk × Int
def mkB (s:WSt):WSt:=(s.1++[Bk0],s.2)
def fW (t:St) (s:WSt):WSt:=(s.1.modify s.2.toNat (fun b=>{ b with steps:=b.steps++[t] }),s.2)
def cQ (k:Int) (ts:List Tm) (to:List Int) (s:WSt):WSt:=if s.2=-1 then s else (s.1.modify s.2.toNat (fun b=>{ b with kind:=k,func:=[],terms:=ts,to:=to }),-1)
def jmp (to:Int) (s:WSt):WSt:=cQ 5 [] [to] s
def opB (i:Int) (s:WSt):WSt:=(s.1,i)
mutual
def stG (p:Pr) (kn:List Pm) (ex:Int):Sm→WSt→WSt
 | .mk k n fn w l b e,s =>
  let ts:=l.map (exT p kn)
  let m:Int:=s.1.length
  if k=1∨k=2 then fW ⟨1,n,[],ts⟩ s
  else if k=3 then fW ⟨2,[],[],[(ts.drop 1).headD (dF 0 0),elT (uJ p n) (vr p n) (hdT ts)]⟩ s
  else if k=4 then
   (if e.isEmpty=true then opB (m+1) (jmp (m+1) (slG p kn ex b (opB m (cQ 6 ts [m,m+1] (mkB (mkB s))))))
   else opB (m+2) (jmp (m+2) (slG p kn ex e (opB (m+1) (jmp (m+2) (slG p kn ex b (opB m (cQ 6 ts [m,m+1] (mkB (mkB (mkB s)))))))))))
  else if k=5 then opB (m+2) (jmp m (slG p kn (m+2) b (opB (m+1) (cQ 6 ts [m+1,m+2] (opB m (jmp m (mkB (mkB (mkB s)))))))))
  else if k=6 then jmp ex s
  else if k=7 then fW ⟨4,[],[],ts⟩ s
  else if k=8 then cQ 7 ts [] s
  else fW ⟨3,n,fn,ts⟩ s
def slG (p:Pr) (kn:List Pm) (ex:Int):List Sm→WSt→WSt
 | [],s=>s
 | x::r,s=>if s.2=-1 then s else slG p kn ex r (stG p kn ex x s)
end
def Op (s:WSt):Prop:=s.2=-1∨(0≤s.2∧s.2<s.1.length)
mutual
def nst:Sm→Nat
 | .mk _ _ _ _ _ b e=>1+dr b+dr e
def dr:List Sm→Nat
 | []=>0
 | x::r=>nst x+dr r
end
theorem aW (s:WSt):(mkB s).1.length=s.1.length+1:=by simp [mkB]
theorem mW (t:St) (s:WSt):(fW t s).1.length=s.1.length:=by simp [fW]
theorem dn (k:Int) (ts:List Tm) (to:List Int) (s:WSt):(cQ k ts to s).1.length=s.1.length:=by
 unfold cQ;split <;> simp
theorem ep (to:Int) (s:WSt):(jmp to s).1.length=s.1.length:=dn _ _ _ _
theorem dy (i:Int) (s:WSt):(opB i s).1.length=s.1.length:=rfl
mutual
theorem nY (p:Pr) (kn:List Pm):∀ (x:Sm) (ex:Int) (s:WSt),s.1.length≤(stG p kn ex x s).1.length∧(stG p kn ex x s).1.length≤s.1.length+3*nst x∧(Op s→Op (stG p kn ex x s))
 | .mk k n fn w l b e,ex,s=>by
  rw [stG,nst]
  have op1:∀ (q:WSt) (to:Int),Op (jmp to q):=fun q to=>by
   unfold jmp cQ;split
   ·rename_i h;exact .inl h
   ·exact .inl rfl
  have ad:∀ (t:St),s.1.length≤(fW t s).1.length∧(fW t s).1.length≤s.1.length+3*(1+dr b+dr e)∧(Op s→Op (fW t s)):=fun t=>by
   refine ⟨by rw [mW];omega,by rw [mW];omega,fun h=>?_⟩
   have:=mW t s
   unfold Op at h ⊢
   rw [this];exact h
  try simp only
  split
  ·exact ad _
  split
  ·exact ad _
  split
  ·split
   ·have h1:=dh p kn b ex (opB s.1.length (cQ 6 (l.map (exT p kn)) [(s.1.length:Int),s.1.length+1] (mkB (mkB s))))
    simp only [dy,ep,dn,aW] at h1 ⊢
    refine ⟨by omega,by omega,fun _=>.inr ⟨by simp [opB];omega,?_⟩⟩
    simp only [opB,ep] at h1 ⊢;omega
   ·have h1:=dh p kn b ex (opB s.1.length (cQ 6 (l.map (exT p kn)) [(s.1.length:Int),s.1.length+1] (mkB (mkB (mkB s)))))
    have h2:=dh p kn e ex (opB (s.1.length+1) (jmp (s.1.length+2) (slG p kn ex b (opB s.1.length (cQ 6 (l.map (exT p kn)) [(s.1.length:Int),s.1.length+1] (mkB (mkB (mkB s))))))))
    simp only [dy,ep,dn,aW] at h1 h2 ⊢
    refine ⟨by omega,by omega,fun _=>.inr ⟨by simp [opB];omega,?_⟩⟩
    simp only [opB,ep] at h1 h2 ⊢;omega
  split
  ·have h1:=dh p kn b (s.1.length+2) (opB (s.1.length+1) (cQ 6 (l.map (exT p kn)) [(s.1.length:Int)+1,s.1.length+2] (opB s.1.length (jmp s.1.length (mkB (mkB (mkB s)))))))
   simp only [dy,ep,dn,aW] at h1 ⊢
   refine ⟨by omega,by omega,fun _=>.inr ⟨by simp [opB];omega,?_⟩⟩
   simp only [opB,ep] at h1 ⊢;omega
  split
  ·exact ⟨by rw [ep];omega,by rw [ep];omega,fun _=>op1 _ _⟩
  split
  ·exact ad _
  split
  ·refine ⟨by rw [dn];omega,by rw [dn];omega,fun h=>?_⟩
   unfold cQ;split
   ·exact h
   ·exact .inl rfl
  ·exact ad _
theorem dh (p:Pr) (kn:List Pm):∀ (l:List Sm) (ex:Int) (s:WSt),s.1.length≤(slG p kn ex l s).1.length∧(slG p kn ex l s).1.length≤s.1.length+3*dr l∧(Op s→Op (slG p kn ex l s))
 | [],ex,s=>by simp [slG]
 | x::r,ex,s=>by
  rw [slG,dr]
  split
  ·exact ⟨by omega,by omega,id⟩
  ·have h1:=nY p kn x ex s
   have h2:=dh p kn r ex (stG p kn ex x s)
   exact ⟨by omega,by omega,fun h=>h2.2.2 (h1.2.2 h)⟩
end
mutual
def okS (p:Pr) (K:List Pm) (loop:Bool):Sm→Prop
 | .mk k n fn w l b e=>(k=1∨k=2∨k=3∨k=4∨k=5∨k=6∨k=7∨k=8∨k=9)∧(∀ x∈l,wfE x=true∧(exW p K x).1=0)∧(k=3→¬ arI p n<0∧l.length=2)∧(k=6→loop=true)∧okL p K (loop||decide (k=5)) b∧okL p K loop e
def okL (p:Pr) (K:List Pm) (loop:Bool):List Sm→Prop
 | []=>True
 | x::r=>okS p K loop x∧okL p K loop r
end
theorem wN:∀ (a b:List Pm) (n:Nm),¬ kw a n=0→kw (a++b) n=kw a n
 | [],b,n,h=>absurd rfl h
 | v::a,b,n,h=>by
  simp only [HE,kw] at h ⊢
  split
  ·rfl
  ·rename_i h1
   rw [if_neg h1] at h
   exact wN a b n h
theorem zK {p:Pr} {a:List Pm} (b:List Pm) {k w:Int} {n:Nm} {op:Int} {ws:List Int} (h:(exK p a k w n op ws).1=0):exK p (a++b) k w n op ws=exK p a k w n op ws:=by
 unfold exK at h ⊢
 by_cases h2:k=2
 ·rw [if_pos h2] at h ⊢
  rw [if_pos h2]
  split at h
  ·cases h
  ·rename_i h3
   rw [wN a b n h3]
 ·simp only [if_neg h2]
mutual
theorem tK {p:Pr} {a:List Pm} (b:List Pm):∀ x:Ex,(exW p a x).1=0→exW p (a++b) x=exW p a x
 | .mk k w bi n op s,h=>by
  rw [exW] at h ⊢
  rw [exW]
  split at h
  ·rename_i h1
   have e:=nI b s h1
   rw [e,if_pos h1,if_pos h1,zK b h]
  ·rename_i h1;exact absurd h h1
theorem nI {p:Pr} {a:List Pm} (b:List Pm):∀ l:List Ex,(a9 p a l).1=0→a9 p (a++b) l=a9 p a l
 | [],h=>by simp [a9]
 | x::r,h=>by
  rw [a9] at h ⊢
  rw [a9]
  split at h
  ·rename_i h1
   rw [tK b x h1,if_pos h1,if_pos h1,nI b r h]
  ·rename_i h1;exact absurd h h1
end
theorem qD {p:Pr} {kn:List Pm}:∀ {l:List Ex},(a9 p kn l).1=0→∀ x∈l,(exW p kn x).1=0
 | [],h,x,hx=>by simp at hx
 | a::r,h,x,hx=>by
  rw [a9] at h
  split at h
  ·rename_i h2
   rcases List.mem_cons.1 hx with rfl|hx
   ·exact h2
   ·exact qD h x hx
  ·rename_i h2;exact absurd h h2
theorem tz (p:Pr) (res:Int) (kn:List Pm) (k:Int) (n fn:Nm) (w:Int) (ws:List Int) (loop:Bool):∃ e,(rlE p res kn k n fn w ws loop).2=kn++e:=by
 unfold rlE
 repeat' split
 all_goals first
  | exact ⟨_,rfl⟩
  | exact ⟨[],by simp⟩
mutual
theorem yY (p:Pr) (res:Int):∀ (x:Sm) (kn:List Pm) (loop:Bool),∃ e,(stW p res x kn loop).2=kn++e
 | .mk k n fn w l bo el,kn,loop=>by
  rw [stW]
  obtain ⟨e1,h1⟩:=tz p res kn k n fn w (a9 p kn l).2 loop
  obtain ⟨e2,h2⟩:=jn p res bo (rlE p res kn k n fn w (a9 p kn l).2 loop).2 (loop||decide (k=5))
  obtain ⟨e3,h3⟩:=jn p res el (blW p res bo (rlE p res kn k n fn w (a9 p kn l).2 loop).2 (loop||decide (k=5))).2 loop
  split
  ·split
   ·split
    ·exact ⟨e1++(e2++e3),by rw [h3,h2,h1];simp⟩
    ·exact ⟨e1++e2,by rw [h2,h1];simp⟩
   ·exact ⟨e1,h1⟩
  ·exact ⟨[],by simp⟩
theorem jn (p:Pr) (res:Int):∀ (l:List Sm) (kn:List Pm) (loop:Bool),∃ e,(blW p res l kn loop).2=kn++e
 | [],kn,loop=>⟨[],by simp [blW]⟩
 | x::r,kn,loop=>by
  rw [blW]
  obtain ⟨e1,h1⟩:=yY p res x kn loop
  obtain ⟨e2,h2⟩:=jn p res r (stW p res x kn loop).2 loop
  split
  ·exact ⟨e1++e2,by rw [h2,h1];simp⟩
  ·exact ⟨e1,h1⟩
end
theorem vD {k:Int} {n f:Nm} {w:Int} {a b c:Nat} (h:wfM k n f w a b c=true):(k=1∨k=2∨k=3∨k=4∨k=5∨k=6∨k=7∨k=8∨k=9)∧(k=3→a=2):=by
 unfold wfM at h
 by_cases c1:k=1
 ·omega
 by_cases c2:k=2
 ·omega
 by_cases c3:k=3
 ·subst c3;simp at h;omega
 by_cases c4:k=4
 ·omega
 by_cases c5:k=5
 ·omega
 by_cases c6:k=6
 ·omega
 by_cases c7:k=7
 ·omega
 by_cases c8:k=8
 ·omega
 by_cases c9:k=9
 ·omega
 simp [c1,c2,c3,c4,c5,c6,c7,c8,c9] at h
mutual
theorem B8 (p:Pr) (res:Int):∀ (x:Sm) (kn K:List Pm) (loop:Bool),wfS x=true→(stW p res x kn loop).1=0→(∃ e,K=(stW p res x kn loop).2++e)→okS p K loop x
 | .mk k n fn w l bo el,kn,K,loop,hw,h,hK=>by
  rw [bQ,HR,HR,HR] at hw
  obtain ⟨⟨⟨hm,he⟩,hb⟩,hl⟩:=hw
  obtain ⟨hk,h3⟩:=vD hm
  rw [stW] at h hK
  split at h
  ·rename_i c1
   rw [if_pos c1] at hK
   split at h
   ·rename_i c2
    rw [if_pos c2] at hK
    split at h
    ·rename_i c3
     rw [if_pos c3] at hK
     obtain ⟨e1,e1'⟩:=tz p res kn k n fn w (a9 p kn l).2 loop
     obtain ⟨e2,e2'⟩:=jn p res bo (rlE p res kn k n fn w (a9 p kn l).2 loop).2 (loop||decide (k=5))
     obtain ⟨e3,e3'⟩:=jn p res el (blW p res bo (rlE p res kn k n fn w (a9 p kn l).2 loop).2 (loop||decide (k=5))).2 loop
     obtain ⟨e4,rfl⟩:=hK
     refine ⟨hk,fun x hx=>⟨Hh.1 he x hx,?_⟩,fun k3=>⟨fun ha=>?_,h3 k3⟩,fun k6=>?_,mF p res bo _ _ _ (Hh.1 hb) c3 ⟨e3++e4,by rw [e3'];simp⟩,mF p res el _ _ _ (Hh.1 hl) h ⟨e4,rfl⟩⟩
     ·have:=qD c1 x hx
      rw [e3',e2',e1',Hx,Hx,Hx,tK _ x this];exact this
     ·subst k3
      unfold rlE at c2
      simp [ha] at c2
     ·subst k6
      unfold rlE at c2
      simp at c2
      exact c2
    ·rename_i c3;exact absurd h c3
   ·rename_i c2;exact absurd h c2
  ·rename_i c1;exact absurd h c1
theorem mF (p:Pr) (res:Int):∀ (l:List Sm) (kn K:List Pm) (loop:Bool),(∀ x∈l,wfS x=true)→(blW p res l kn loop).1=0→(∃ e,K=(blW p res l kn loop).2++e)→okL p K loop l
 | [],kn,K,loop,hw,h,hK=>trivial
 | x::r,kn,K,loop,hw,h,hK=>by
  rw [blW] at h hK
  split at h
  ·rename_i c1
   rw [if_pos c1] at hK
   obtain ⟨e2,e2'⟩:=jn p res r (stW p res x kn loop).2 loop
   obtain ⟨e4,rfl⟩:=hK
   exact ⟨B8 p res x kn _ loop (hw x (by simp)) c1 ⟨e2++e4,by rw [e2'];simp⟩,mF p res r _ _ loop (fun y hy=>hw y (by simp [hy])) h ⟨e4,rfl⟩⟩
  ·rename_i c1;exact absurd h c1
end
theorem oE {p:Pr} {K:List Pm} {loop:Bool}:∀ {l:List Sm} {x:Sm},okL p K loop l→x∈l→okS p K loop x
 | [],x,_,h=>by simp at h
 | y::r,x,ho,h=>by
  rcases List.mem_cons.1 h with rfl|h
  ·exact ho.1
  ·exact oE ho.2 h
end Go.Proofs.YtgeieafamocnhaaGreatDoor
