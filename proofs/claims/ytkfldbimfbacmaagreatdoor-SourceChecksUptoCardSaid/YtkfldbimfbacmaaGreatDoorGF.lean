/- Codes, part 3. -/
import Derived.Test.YtkfldbimfbacmaaGreatDoorGE
namespace Go.Proofs.YtkfldbimfbacmaaGreatDoor
open Go Go.Ab Go.Sa Go.Proofs
open Nat (reduceEqDiff reduceAdd reduceLeDiff reduceLT)
set_option maxRecDepth 100000
def A95p : CX (.seq (r [s 4 (.move b0)]) (.seq (r [m 5 0,c 6 104 [(t 5)],m 7 6,gt 8 7 (.move (t 1)),gt 9 7 (.move (t 0)),tc 10 7 105 [(t 9)],gt 11 7 (.bin .leq (t 8) (t 10)),s 12 (.pick (t 7) (t 11) b0),m 4 12]) .ret)) := ⟨_, by simp only [QQ]; rfl⟩
def A95 : ACode := A95p.1
def R95 : List RV := [.tmp 4]
theorem is95 : Is Tryz.prog (fun _ _ => false) 95 13 A95 R95 := ⟨Tryz.f95, Tryz.func95, rfl, by kernel_rfl, by kernel_rfl, Tryz.call95⟩
def A96p : CX (.seq (r [s 2 (.box (t 0)),s 3 (.move b0)]) (.seq (r [fa 4 0 2,l 5 4,l 6 1,s 7 (.bin .eql (t 5) (t 6)),m 3 7]) .ret)) := ⟨_, by simp only [QQ]; rfl⟩
def A96 : ACode := A96p.1
def R96 : List RV := [.tmp 3]
theorem is96 : Is Tryz.prog (fun _ _ => false) 96 8 A96 R96 := ⟨Tryz.f96, Tryz.func96, rfl, by kernel_rfl, by kernel_rfl, Tryz.call96⟩
def A97p : CX (.seq (r [s 2 (.move (i 0))]) (.seq (.seq (r [m 3 0]) (.cond (t 3) (.seq (r [s 2 (.move (i 0))]) .ret) .skip)) (.seq (r [s 2 (.move (i 14))]) .ret))) := ⟨_, by simp only [QQ]; rfl⟩
def A97 : ACode := A97p.1
def R97 : List RV := [.tmp 2]
theorem is97 : Is Tryz.prog (fun _ _ => false) 97 4 A97 R97 := ⟨Tryz.f97, Tryz.func97, rfl, by kernel_rfl, by kernel_rfl, Tryz.call97⟩
def A98l0p : CX (.seq (r [s 33 (.bin .lss (t 32) (t 31))]) (.seq (.cond (t 33) .skip (.exit 0)) (.seq (.block 1 (.seq (r [s 34 (.idxA 2 (t 30) (t 32)),s 35 (.load 2 true (t 34)),s 11 (.alloc [(.str []),(.int .i64 0)]),sn (.store 2 (t 11) (t 35))]) (r [m 36 9,fa 37 1 11,l 38 37,s 39 (.buildF [(.int .i64 0)] 1 [(0,(t 38))]),s 40 (.app 3 1 8 (t 36) (t 39)),m 9 40]))) (r [s 41 (.bin .add (t 32) (i 1)),m 32 41])))) := ⟨_, by simp only [QQ]; rfl⟩
def A98l0 : ACode := A98l0p.1
def A98p : CX (.seq (r [s 4 (.box (t 1)),s 6 (.move (i 0))]) (.seq (.dregion [⟨0,m 12 0,[]⟩,⟨1,s 13 (.nilck (t 12)),[]⟩,⟨2,fa 14 0 13,[]⟩,⟨3,s 15 (.load 2 true (t 14)),[]⟩,⟨4,fa 16 2 4,[]⟩,⟨5,l 17 16,[]⟩,⟨6,c 18 106 [(t 15),(t 17)],[]⟩,⟨7,m 7 18,[]⟩]) (.seq (.seq (r [m 19 7,s 20 (.bin .lss (t 19) (i 0))]) (.cond (t 20) (.seq (r [s 6 (.move (i 16))]) .ret) .skip)) (.seq (r [m 21 0,s 22 (.nilck (t 21)),fa 23 0 22,fa 24 1 23,l 25 24,m 26 7,s 27 (.idxA 4 (t 25) (t 26)),s 28 (.load 4 true (t 27)),s 8 (.alloc [(.str []),.nilS,(.int .i64 0),.nilS]),sn (.store 4 (t 8) (t 28))]) (.seq (r [s 9 (.move ns)]) (.seq (.seq (r [fa 29 1 8,l 30 29,s 31 (.len (t 30)),s 32 (.move (i 0))]) (.block 0 (.loop A98l0))) (.seq (.seq (r [m 42 2,m 43 9,c 44 107 [(t 42),(t 43)],s 45 (.un .not (t 44))]) (.cond (t 45) (.seq (r [s 6 (.move (i 14))]) .ret) .skip)) (.seq (.seq (r [fa 46 1 4,l 47 46,s 48 (.bin .eql (t 47) (.const (.string ⟨#[]⟩)))]) (.cond (t 48) (.seq (r [s 6 (.move (i 0))]) .ret) .skip)) (.seq (.seq (r [m 49 0,fa 50 1 4,l 51 50,c 52 74 [(t 49),(t 51)],s 53 (.bin .eql (t 52) (i 0))]) (.cond (t 53) (.seq (r [s 6 (.move (i 16))]) .ret) .skip)) (.seq (.dregion [⟨0,m 54 0,[]⟩,⟨1,fa 55 1 4,[]⟩,⟨2,l 56 55,[]⟩,⟨4,fa 58 2 8,[]⟩,⟨5,l 59 58,[]⟩,⟨3,c 57 74 [(t 54),(t 56)],[4,5]⟩,⟨6,s 60 (.bin .eql (t 57) (t 59)),[]⟩,⟨7,c 61 97 [(t 60)],[]⟩,⟨8,m 6 61,[]⟩]) .ret)))))))))) := ⟨_, by simp only [QQ]; rfl⟩
def A98 : ACode := A98p.1
def R98 : List RV := [.tmp 6]
theorem is98 : Is Tryz.prog (fun _ _ => false) 98 62 A98 R98 := ⟨Tryz.f98, Tryz.func98, rfl, by kernel_rfl, by kernel_rfl, Tryz.call98⟩
def A99l0p : CX (.seq (.seq (r [m 5 4,fa 6 5 1,l 7 6,s 8 (.len (t 7)),s 9 (.bin .lss (t 5) (t 8))]) (.cond (t 9) .skip (.exit 0))) (.seq (.block 1 (r [m 12 3,fa 13 5 1,l 14 13,m 15 4,s 16 (.idxA 6 (t 14) (t 15)),s 17 (.load 6 true (t 16)),c 18 99 [(t 17)],s 19 (.bin .add (t 12) (t 18)),m 3 19])) (r [m 10 4,s 11 (.bin .add (t 10) (i 1)),m 4 11]))) := ⟨_, by simp only [QQ]; rfl⟩
def A99l0 : ACode := A99l0p.1
def A99p : CX (.seq (r [s 1 (.box (t 0)),s 2 (.move (i 0))]) (.seq (r [s 3 (.move (i 1))]) (.seq (.seq (r [s 4 (.move (i 0))]) (.block 0 (.loop A99l0))) (.seq (r [m 20 3,m 2 20]) .ret)))) := ⟨_, by simp only [QQ]; rfl⟩
def A99 : ACode := A99p.1
def R99 : List RV := [.tmp 2]
theorem is99 : Is Tryz.prog (fun _ _ => false) 99 21 A99 R99 := ⟨Tryz.f99, Tryz.func99, rfl, by kernel_rfl, by kernel_rfl, Tryz.call99⟩
def A100l0p : CX (.seq (.seq (r [m 5 4,fa 6 5 1,l 7 6,s 8 (.len (t 7)),s 9 (.bin .lss (t 5) (t 8))]) (.cond (t 9) .skip (.exit 0))) (.seq (.block 1 (r [m 12 3,fa 13 5 1,l 14 13,m 15 4,s 16 (.idxA 6 (t 14) (t 15)),s 17 (.load 6 true (t 16)),c 18 100 [(t 17)],s 19 (.mx (t 12) (t 18)),m 3 19])) (r [m 10 4,s 11 (.bin .add (t 10) (i 1)),m 4 11]))) := ⟨_, by simp only [QQ]; rfl⟩
def A100l0 : ACode := A100l0p.1
def A100p : CX (.seq (r [s 1 (.box (t 0)),s 2 (.move (i 0))]) (.seq (r [s 3 (.move (i 0))]) (.seq (.seq (r [s 4 (.move (i 0))]) (.block 0 (.loop A100l0))) (.seq (r [m 20 3,s 21 (.bin .add (t 20) (i 1)),m 2 21]) .ret)))) := ⟨_, by simp only [QQ]; rfl⟩
def A100 : ACode := A100p.1
def R100 : List RV := [.tmp 2]
theorem is100 : Is Tryz.prog (fun _ _ => false) 100 22 A100 R100 := ⟨Tryz.f100, Tryz.func100, rfl, by kernel_rfl, by kernel_rfl, Tryz.call100⟩
def A101l0p : CX (.seq (.seq (r [m 6 3,fa 7 5 1,l 8 7,s 9 (.len (t 8)),s 10 (.bin .lss (t 6) (t 9))]) (.cond (t 10) .skip (.exit 0))) (.seq (.block 1 (.seq (r [fa 13 5 1,l 14 13,m 15 3,s 16 (.idxA 6 (t 14) (t 15)),s 17 (.load 6 true (t 16)),c 18 101 [(t 17)],s 19 (.un .not (t 18))]) (.cond (t 19) (.seq (r [s 2 (.move b0)]) .ret) .skip))) (r [m 11 3,s 12 (.bin .add (t 11) (i 1)),m 3 12]))) := ⟨_, by simp only [QQ]; rfl⟩
def A101l0 : ACode := A101l0p.1
def A101p : CX (.seq (r [s 1 (.box (t 0)),s 2 (.move b0)]) (.seq (.seq (r [s 3 (.move (i 0))]) (.block 0 (.loop A101l0))) (.seq (r [fa 20 5 1,l 21 20,s 22 (.len (t 21)),m 4 22]) (.seq (r [fa 23 1 1,l 24 23,s 25 (.bin .eql (t 24) (i 0)),m 26 25,ta 27 26 2 1,tl 28 26 27,gt 29 26 (.bin .eql (t 28) (.const (.int .u64 0))),s 30 (.pick (t 26) (t 29) b0),m 31 30,ta 32 31 4 1,tl 33 31 32,gt 34 31 (.bin .eql (t 33) (.const (.int .u8 0))),s 35 (.pick (t 31) (t 34) b0),m 5 35]) (.seq (.seq (r [fa 36 0 1,l 37 36]) (.block 2 (.seq (r [s 39 (.bin .eql (t 37) (.const (.int .u8 1))),m 38 39]) (.cond (t 38) (.seq (r [fa 40 1 1,l 41 40,c 42 52 [(t 41)],m 43 42,ta 44 43 2 1,tl 45 43 44,ta 46 43 1 1,tl 47 43 46,gt 48 43 (.conv .u64 (t 47)),gt 49 43 (.bin .shl (.const (.int .u64 1)) (t 48)),gt 50 43 (.bin .lss (t 45) (t 49)),s 51 (.pick (t 43) (t 50) b0),m 52 51,ta 53 52 3 1,tl 54 52 53,gt 55 52 (.bin .eql (t 54) (.const (.string ⟨#[]⟩))),s 56 (.pick (t 52) (t 55) b0),m 57 56,ta 58 57 4 1,tl 59 57 58,gt 60 57 (.bin .eql (t 59) (.const (.int .u8 0))),s 61 (.pick (t 57) (t 60) b0),m 62 61,gt 63 62 (.move (t 4)),gt 64 62 (.bin .eql (t 63) (i 0)),s 65 (.pick (t 62) (t 64) b0),m 2 65]) .ret) (.seq (r [s 67 (.bin .eql (t 37) (.const (.int .u8 2))),m 66 67]) (.cond (t 66) (.seq (r [m 68 5,m 69 68,ta 70 69 3 1,tl 71 69 70,tc 72 69 51 [(t 71)],s 73 (.pick (t 69) (t 72) b0),m 74 73,gt 75 74 (.move (t 4)),gt 76 74 (.bin .eql (t 75) (i 0)),s 77 (.pick (t 74) (t 76) b0),m 2 77]) .ret) (.seq (r [s 79 (.bin .eql (t 37) (.const (.int .u8 3))),m 78 79]) (.cond (t 78) (.seq (r [m 80 5,m 81 80,ta 82 81 3 1,tl 83 81 82,tc 84 81 51 [(t 83)],s 85 (.pick (t 81) (t 84) b0),m 86 85,gt 87 86 (.move (t 4)),gt 88 86 (.bin .eql (t 87) (i 1)),s 89 (.pick (t 86) (t 88) b0),m 2 89]) .ret) (.seq (.seq (r [s 91 (.bin .eql (t 37) (.const (.int .u8 4))),m 90 91]) (.cond (t 90) .skip (r [s 92 (.bin .eql (t 37) (.const (.int .u8 5))),m 90 92]))) (.cond (t 90) (.seq (r [m 93 5,m 94 93,ta 95 94 3 1,tl 96 94 95,gt 97 94 (.bin .eql (t 96) (.const (.string ⟨#[]⟩))),s 98 (.pick (t 94) (t 97) b0),m 99 98,gt 100 99 (.move (t 4)),gt 101 99 (.bin .eql (t 100) (i 1)),s 102 (.pick (t 99) (t 101) b0),m 2 102]) .ret) (.seq (r [s 104 (.bin .eql (t 37) (.const (.int .u8 6))),m 103 104]) (.cond (t 103) (.seq (r [fa 105 1 1,l 106 105,s 107 (.bin .eql (t 106) (i 0)),m 108 107,ta 109 108 2 1,tl 110 108 109,gt 111 108 (.bin .eql (t 110) (.const (.int .u64 0))),s 112 (.pick (t 108) (t 111) b0),m 113 112,ta 114 113 3 1,tl 115 113 114,gt 116 113 (.bin .eql (t 115) (.const (.string ⟨#[]⟩))),s 117 (.pick (t 113) (t 116) b0),m 118 117,ta 119 118 4 1,tl 120 118 119,tc 121 118 108 [(t 120)],gt 122 118 (.bin .neq (t 121) (.const (.string ⟨#[]⟩))),s 123 (.pick (t 118) (t 122) b0),m 124 123,gt 125 124 (.move (t 4)),gt 126 124 (.bin .eql (t 125) (i 2)),s 127 (.pick (t 124) (t 126) b0),m 2 127]) .ret) (.seq (.seq (r [s 129 (.bin .eql (t 37) (.const (.int .u8 7))),m 128 129]) (.cond (t 128) .skip (r [s 130 (.bin .eql (t 37) (.const (.int .u8 8))),m 128 130]))) (.cond (t 128) (.seq (r [fa 131 1 1,l 132 131,c 133 52 [(t 132)],m 134 133,ta 135 134 2 1,tl 136 134 135,gt 137 134 (.bin .eql (t 136) (.const (.int .u64 0))),s 138 (.pick (t 134) (t 137) b0),m 139 138,ta 140 139 4 1,tl 141 139 140,gt 142 139 (.bin .eql (t 141) (.const (.int .u8 0))),s 143 (.pick (t 139) (t 142) b0),m 144 143,ta 145 144 3 1,tl 146 144 145,gt 147 144 (.bin .eql (t 146) (.const (.string ⟨#[]⟩))),s 148 (.pick (t 144) (t 147) b0),m 149 148,gt 150 149 (.move (t 4)),gt 151 149 (.bin .eql (t 150) (i 1)),s 152 (.pick (t 149) (t 151) b0),m 2 152]) .ret) .skip)))))))))))))) (.seq (r [s 2 (.move b0)]) .ret)))))) := ⟨_, by simp only [QQ]; rfl⟩
def A101 : ACode := A101p.1
def R101 : List RV := [.tmp 2]
theorem is101 : Is Tryz.prog (fun _ _ => false) 101 153 A101 R101 := ⟨Tryz.f101, Tryz.func101, rfl, by kernel_rfl, by kernel_rfl, Tryz.call101⟩
def A102l0p : CX (.seq (.seq (r [m 8 6,fa 9 5 3,l 10 9,s 11 (.len (t 10)),s 12 (.bin .lss (t 8) (t 11))]) (.cond (t 12) .skip (.exit 0))) (.seq (.block 1 (r [m 15 5,m 16 0,fa 17 5 3,l 18 17,m 19 6,s 20 (.idxA 6 (t 18) (t 19)),s 21 (.load 6 true (t 20)),c 22 102 [(t 16),(t 21)],s 23 (.buildF [(.int .i64 0)] 1 [(0,(t 22))]),s 24 (.app 3 1 8 (t 15) (t 23)),m 5 24])) (r [m 13 6,s 14 (.bin .add (t 13) (i 1)),m 6 14]))) := ⟨_, by simp only [QQ]; rfl⟩
def A102l0 : ACode := A102l0p.1
def A102p : CX (.seq (r [s 3 (.box (t 1)),s 4 (.move (i 0))]) (.seq (r [s 5 (.move ns)]) (.seq (.seq (r [s 6 (.move (i 0))]) (.block 0 (.loop A102l0))) (.seq (.seq (r [m 25 0,s 26 (.nilck (t 25)),fa 27 4 26,l 28 27,s 29 (.bin .neq (t 28) (i 0))]) (.cond (t 29) (.seq (r [s 4 (.move (i 0))]) .ret) .skip)) (.seq (.seq (r [fa 30 0 3,l 31 30]) (.block 2 (.seq (r [s 33 (.bin .eql (t 31) (.const (.int .u8 2))),m 32 33]) (.cond (t 32) (.seq (r [m 34 0,m 35 0,fa 36 3 3,l 37 36,c 38 83 [(t 35),(t 37)],s 39 (.bin .eql (t 38) (i 0)),c 40 82 [(t 34),(t 39),(i 16)]]) (.seq (r [m 41 0,fa 42 3 3,l 43 42,c 44 83 [(t 41),(t 43)],m 4 44]) .ret)) (.seq (r [s 46 (.bin .eql (t 31) (.const (.int .u8 3))),m 45 46]) (.cond (t 45) (.seq (.dregion [⟨0,m 47 0,[]⟩,⟨1,s 48 (.nilck (t 47)),[]⟩,⟨2,fa 49 0 48,[]⟩,⟨3,s 50 (.load 2 true (t 49)),[]⟩,⟨4,fa 51 3 3,[]⟩,⟨5,l 52 51,[]⟩,⟨6,c 53 84 [(t 50),(t 52)],[]⟩,⟨7,m 7 53,[]⟩]) (.seq (.seq (r [m 54 7,s 55 (.bin .lss (t 54) (i 0))]) (.cond (t 55) (.seq (r [m 56 0,c 57 82 [(t 56),b1,(i 16)]]) (.seq (r [s 4 (.move (i 0))]) .ret)) .skip)) (.seq (r [m 58 0,m 59 5,s 60 (.idxA 1 (t 59) (i 0)),l 61 60,s 62 (.bin .neq (t 61) (i 32)),c 63 82 [(t 58),(t 62),(i 14)]]) (.seq (r [m 64 0,s 65 (.nilck (t 64)),fa 66 0 65,fa 67 0 66,l 68 67,m 69 7,s 70 (.idxA 3 (t 68) (t 69)),fa 71 1 70,l 72 71,m 4 72]) .ret)))) (.seq (.seq (r [s 74 (.bin .eql (t 31) (.const (.int .u8 4))),m 73 74]) (.cond (t 73) .skip (r [s 75 (.bin .eql (t 31) (.const (.int .u8 5))),m 73 75]))) (.cond (t 73) (.seq (r [m 76 5,s 77 (.idxA 1 (t 76) (i 0)),l 78 77,m 4 78]) .ret) (.seq (r [s 80 (.bin .eql (t 31) (.const (.int .u8 6))),m 79 80]) (.cond (t 79) (.seq (.dregion [⟨0,m 81 0,[]⟩,⟨1,m 82 5,[]⟩,⟨2,s 83 (.idxA 1 (t 82) (i 0)),[]⟩,⟨3,l 84 83,[]⟩,⟨4,m 85 5,[]⟩,⟨5,s 86 (.idxA 1 (t 85) (i 1)),[]⟩,⟨6,l 87 86,[]⟩,⟨7,s 88 (.bin .neq (t 84) (t 87)),[]⟩,⟨8,c 89 82 [(t 81),(t 88),(i 14)],[]⟩]) (.seq (.seq (r [fa 90 4 3,l 91 90,s 92 (.bin .geq (t 91) (.const (.int .u8 16)))]) (.cond (t 92) (.seq (r [s 4 (.move (i 1))]) .ret) .skip)) (.seq (r [m 93 5,s 94 (.idxA 1 (t 93) (i 0)),l 95 94,m 4 95]) .ret))) .skip)))))))))) (.seq (r [fa 96 1 3,l 97 96,m 4 97]) .ret)))))) := ⟨_, by simp only [QQ]; rfl⟩
def A102 : ACode := A102p.1
def R102 : List RV := [.tmp 4]
theorem is102 : Is Tryz.prog (fun _ _ => false) 102 98 A102 R102 := ⟨Tryz.f102, Tryz.func102, rfl, by kernel_rfl, by kernel_rfl, Tryz.call102⟩
def A103l0p : CX (.seq (.seq (r [m 36 8,m 37 2,s 38 (.len (t 37)),s 39 (.bin .lss (t 36) (t 38)),m 40 39,gt 41 40 (.move (t 8)),ta 42 40 1 7,tl 43 40 42,gt 44 40 (.len (t 43)),gt 45 40 (.bin .lss (t 41) (t 44)),s 46 (.pick (t 40) (t 45) b0)]) (.cond (t 46) .skip (.exit 0))) (.seq (.block 1 (.dregion [⟨0,m 49 0,[]⟩,⟨1,m 50 2,[]⟩,⟨2,m 51 8,[]⟩,⟨3,s 52 (.idxA 1 (t 50) (t 51)),[]⟩,⟨4,l 53 52,[]⟩,⟨5,fa 54 1 7,[]⟩,⟨6,l 55 54,[]⟩,⟨7,m 56 8,[]⟩,⟨8,s 57 (.idxA 2 (t 55) (t 56)),[]⟩,⟨9,fa 58 1 57,[]⟩,⟨10,l 59 58,[]⟩,⟨11,s 60 (.bin .neq (t 53) (t 59)),[]⟩,⟨12,c 61 82 [(t 49),(t 60),(i 14)],[]⟩])) (r [m 47 8,s 48 (.bin .add (t 47) (i 1)),m 8 48]))) := ⟨_, by simp only [QQ]; rfl⟩
def A103l0 : ACode := A103l0p.1
def A103p : CX (.seq (r [s 4 (.box (t 1))]) (.seq (.dregion [⟨0,m 9 0,[]⟩,⟨1,s 10 (.nilck (t 9)),[]⟩,⟨2,fa 11 0 10,[]⟩,⟨3,s 12 (.load 2 true (t 11)),[]⟩,⟨4,fa 13 2 4,[]⟩,⟨5,l 14 13,[]⟩,⟨6,c 15 109 [(t 12),(t 14)],[]⟩,⟨7,m 6 15,[]⟩]) (.seq (.seq (r [m 16 6,s 17 (.bin .lss (t 16) (i 0))]) (.cond (t 17) (.seq (r [m 18 0,c 19 82 [(t 18),b1,(i 16)]]) .ret) .skip)) (.seq (r [m 20 0,s 21 (.nilck (t 20)),fa 22 0 21,fa 23 1 22,l 24 23,m 25 6,s 26 (.idxA 4 (t 24) (t 25)),s 27 (.load 4 true (t 26)),s 7 (.alloc [(.str []),.nilS,(.int .i64 0),.nilS]),sn (.store 4 (t 7) (t 27))]) (.seq (r [m 28 0,m 29 2,s 30 (.len (t 29)),fa 31 1 7,l 32 31,s 33 (.len (t 32)),s 34 (.bin .neq (t 30) (t 33)),c 35 82 [(t 28),(t 34),(i 14)]]) (.seq (.seq (r [s 8 (.move (i 0))]) (.block 0 (.loop A103l0))) (.seq (r [fa 62 1 4,l 63 62,s 64 (.bin .neq (t 63) (.const (.string ⟨#[]⟩)))]) (.cond (t 64) (.seq (r [m 65 0,m 66 0,fa 67 1 4,l 68 67,c 69 83 [(t 66),(t 68)],s 70 (.bin .eql (t 69) (i 0)),c 71 82 [(t 65),(t 70),(i 16)]]) (.dregion [⟨0,m 72 0,[]⟩,⟨1,m 73 0,[]⟩,⟨2,fa 74 1 4,[]⟩,⟨3,l 75 74,[]⟩,⟨5,fa 77 2 7,[]⟩,⟨6,l 78 77,[]⟩,⟨4,c 76 83 [(t 73),(t 75)],[0,5,6]⟩,⟨7,s 79 (.bin .neq (t 76) (t 78)),[]⟩,⟨8,c 80 82 [(t 72),(t 79),(i 14)],[]⟩])) .skip)))))))) := ⟨_, by simp only [QQ]; rfl⟩
def A103 : ACode := A103p.1
def R103 : List RV := []
theorem is103 : Is Tryz.prog (fun _ _ => false) 103 81 A103 R103 := ⟨Tryz.f103, Tryz.func103, rfl, by kernel_rfl, by kernel_rfl, Tryz.call103⟩
def A104p : CX (.seq (r [s 2 (.move b0)]) (.seq (r [m 3 0,s 4 (.bin .geq (t 3) (i 1)),m 5 4,gt 6 5 (.move (t 0)),gt 7 5 (.bin .leq (t 6) (i 64)),s 8 (.pick (t 5) (t 7) b0),m 2 8]) .ret)) := ⟨_, by simp only [QQ]; rfl⟩
def A104 : ACode := A104p.1
def R104 : List RV := [.tmp 2]
theorem is104 : Is Tryz.prog (fun _ _ => false) 104 9 A104 R104 := ⟨Tryz.f104, Tryz.func104, rfl, by kernel_rfl, by kernel_rfl, Tryz.call104⟩
def A105p : CX (.seq (r [s 2 (.move (.const (.int .u64 0)))]) (.seq (.seq (r [m 3 0,c 4 104 [(t 3)],s 5 (.un .not (t 4))]) (.cond (t 5) (.seq (r [s 2 (.move (.const (.int .u64 0)))]) .ret) .skip)) (.seq (r [m 6 0,s 7 (.bin .sub (i 64) (t 6)),s 8 (.bin .shr (.const (.int .u64 18446744073709551615)) (t 7)),m 2 8]) .ret))) := ⟨_, by simp only [QQ]; rfl⟩
def A105 : ACode := A105p.1
def R105 : List RV := [.tmp 2]
theorem is105 : Is Tryz.prog (fun _ _ => false) 105 9 A105 R105 := ⟨Tryz.f105, Tryz.func105, rfl, by kernel_rfl, by kernel_rfl, Tryz.call105⟩
def A106p : CX (.seq (r [s 2 (.box (t 0)),s 3 (.box (t 1)),s 4 (.move (i 0))]) (.seq (r [fa 5 1 2,l 6 5,s 7 (.mkfn (.func 110) [(t 3)]),c 8 67 [(t 6),(t 7)],m 4 8]) .ret)) := ⟨_, by simp only [QQ]; rfl⟩
def A106 : ACode := A106p.1
def R106 : List RV := [.tmp 4]
theorem is106 : Is Tryz.prog (fun _ _ => false) 106 9 A106 R106 := ⟨Tryz.f106, Tryz.func106, rfl, by kernel_rfl, by kernel_rfl, Tryz.call106⟩
def A107l0p : CX (.seq (r [s 14 (.bin .lss (t 13) (t 12))]) (.seq (.cond (t 14) .skip (.exit 0)) (.seq (.block 1 (.seq (r [m 15 13,m 5 15]) (.seq (.dregion [⟨0,m 16 0,[]⟩,⟨1,m 17 5,[]⟩,⟨2,s 18 (.idxA 1 (t 16) (t 17)),[]⟩,⟨3,l 19 18,[]⟩,⟨4,m 20 1,[]⟩,⟨5,m 21 5,[]⟩,⟨6,s 22 (.idxA 1 (t 20) (t 21)),[]⟩,⟨7,l 23 22,[]⟩,⟨8,s 24 (.bin .neq (t 19) (t 23)),[]⟩]) (.cond (t 24) (.seq (r [s 4 (.move b0)]) .ret) .skip)))) (r [s 25 (.bin .add (t 13) (i 1)),m 13 25])))) := ⟨_, by simp only [QQ]; rfl⟩
def A107l0 : ACode := A107l0p.1
def A107p : CX (.seq (r [s 4 (.move b0)]) (.seq (.seq (r [m 6 0,s 7 (.len (t 6)),m 8 1,s 9 (.len (t 8)),s 10 (.bin .neq (t 7) (t 9))]) (.cond (t 10) (.seq (r [s 4 (.move b0)]) .ret) .skip)) (.seq (.seq (r [m 11 0,s 12 (.len (t 11)),s 13 (.move (i 0))]) (.block 0 (.loop A107l0))) (.seq (r [s 4 (.move b1)]) .ret)))) := ⟨_, by simp only [QQ]; rfl⟩
def A107 : ACode := A107p.1
def R107 : List RV := [.tmp 4]
theorem is107 : Is Tryz.prog (fun _ _ => false) 107 26 A107 R107 := ⟨Tryz.f107, Tryz.func107, rfl, by kernel_rfl, by kernel_rfl, Tryz.call107⟩
def A108p : CX (.seq (r [s 2 (.move (.const (.string ⟨#[]⟩)))]) (.seq (.seq (r [m 3 0]) (.block 0 (.seq (r [s 5 (.bin .eql (t 3) (.const (.int .u8 5))),m 4 5]) (.cond (t 4) (.seq (r [s 2 (.move (.const (.string ⟨#[43]⟩)))]) .ret) (.seq (r [s 7 (.bin .eql (t 3) (.const (.int .u8 6))),m 6 7]) (.cond (t 6) (.seq (r [s 2 (.move (.const (.string ⟨#[45]⟩)))]) .ret) (.seq (r [s 9 (.bin .eql (t 3) (.const (.int .u8 7))),m 8 9]) (.cond (t 8) (.seq (r [s 2 (.move (.const (.string ⟨#[42]⟩)))]) .ret) (.seq (r [s 11 (.bin .eql (t 3) (.const (.int .u8 8))),m 10 11]) (.cond (t 10) (.seq (r [s 2 (.move (.const (.string ⟨#[38]⟩)))]) .ret) (.seq (r [s 13 (.bin .eql (t 3) (.const (.int .u8 9))),m 12 13]) (.cond (t 12) (.seq (r [s 2 (.move (.const (.string ⟨#[124]⟩)))]) .ret) (.seq (r [s 15 (.bin .eql (t 3) (.const (.int .u8 10))),m 14 15]) (.cond (t 14) (.seq (r [s 2 (.move (.const (.string ⟨#[94]⟩)))]) .ret) (.seq (r [s 17 (.bin .eql (t 3) (.const (.int .u8 11))),m 16 17]) (.cond (t 16) (.seq (r [s 2 (.move (.const (.string ⟨#[60,60]⟩)))]) .ret) (.seq (r [s 19 (.bin .eql (t 3) (.const (.int .u8 12))),m 18 19]) (.cond (t 18) (.seq (r [s 2 (.move (.const (.string ⟨#[62,62]⟩)))]) .ret) (.seq (r [s 21 (.bin .eql (t 3) (.const (.int .u8 13))),m 20 21]) (.cond (t 20) (.seq (r [s 2 (.move (.const (.string ⟨#[126,62]⟩)))]) .ret) (.seq (r [s 23 (.bin .eql (t 3) (.const (.int .u8 14))),m 22 23]) (.cond (t 22) (.seq (r [s 2 (.move (.const (.string ⟨#[47]⟩)))]) .ret) (.seq (r [s 25 (.bin .eql (t 3) (.const (.int .u8 15))),m 24 25]) (.cond (t 24) (.seq (r [s 2 (.move (.const (.string ⟨#[37]⟩)))]) .ret) (.seq (r [s 27 (.bin .eql (t 3) (.const (.int .u8 16))),m 26 27]) (.cond (t 26) (.seq (r [s 2 (.move (.const (.string ⟨#[61,61]⟩)))]) .ret) (.seq (r [s 29 (.bin .eql (t 3) (.const (.int .u8 17))),m 28 29]) (.cond (t 28) (.seq (r [s 2 (.move (.const (.string ⟨#[60]⟩)))]) .ret) (.seq (r [s 31 (.bin .eql (t 3) (.const (.int .u8 18))),m 30 31]) (.cond (t 30) (.seq (r [s 2 (.move (.const (.string ⟨#[60,126]⟩)))]) .ret) .skip)))))))))))))))))))))))))))))) (.seq (r [s 2 (.move (.const (.string ⟨#[]⟩)))]) .ret))) := ⟨_, by simp only [QQ]; rfl⟩
def A108 : ACode := A108p.1
def R108 : List RV := [.tmp 2]
theorem is108 : Is Tryz.prog (fun _ _ => false) 108 32 A108 R108 := ⟨Tryz.f108, Tryz.func108, rfl, by kernel_rfl, by kernel_rfl, Tryz.call108⟩
def A109l0p : CX (.seq (.seq (r [m 6 5,fa 7 1 2,l 8 7,s 9 (.len (t 8)),s 10 (.bin .lss (t 6) (t 9))]) (.cond (t 10) .skip (.exit 0))) (.seq (.block 1 (.seq (r [fa 13 1 2,l 14 13,m 15 5,s 16 (.idxA 4 (t 14) (t 15)),fa 17 0 16,l 18 17,m 19 1,s 20 (.bin .eql (t 18) (t 19))]) (.cond (t 20) (.seq (r [m 21 5,m 4 21]) .ret) .skip))) (r [m 11 5,s 12 (.bin .add (t 11) (i 1)),m 5 12]))) := ⟨_, by simp only [QQ]; rfl⟩
def A109l0 : ACode := A109l0p.1
def A109p : CX (.seq (r [s 2 (.box (t 0)),s 4 (.move (i 0))]) (.seq (.seq (r [s 5 (.move (i 0))]) (.block 0 (.loop A109l0))) (.seq (r [s 4 (.move (.const (.int .i64 (-1))))]) .ret))) := ⟨_, by simp only [QQ]; rfl⟩
def A109 : ACode := A109p.1
def R109 : List RV := [.tmp 4]
theorem is109 : Is Tryz.prog (fun _ _ => false) 109 22 A109 R109 := ⟨Tryz.f109, Tryz.func109, rfl, by kernel_rfl, by kernel_rfl, Tryz.call109⟩
def A110p : CX (.seq (r [s 2 (.box (t 0)),s 3 (.move b0)]) (.seq (r [fa 4 0 2,l 5 4,l 6 1,s 7 (.bin .eql (t 5) (t 6)),m 3 7]) .ret)) := ⟨_, by simp only [QQ]; rfl⟩
def A110 : ACode := A110p.1
def R110 : List RV := [.tmp 3]
theorem is110 : Is Tryz.prog (fun _ _ => false) 110 8 A110 R110 := ⟨Tryz.f110, Tryz.func110, rfl, by kernel_rfl, by kernel_rfl, Tryz.call110⟩
end Go.Proofs.YtkfldbimfbacmaaGreatDoor
namespace Go.Proofs.YtkfldbimfbacmaaGreatDoor
open Go Go.Ab Go.Proofs
open Nat (reduceEqDiff reduceAdd reduceLeDiff reduceLT)
set_option linter.unusedVariables false
set_option linter.unusedSimpArgs false
set_option maxRecDepth 20000
theorem mixed : Tryz.prog.follows .mixedOrders = true := by kernel_rfl
theorem ced_cases (p : Prop) [Decidable p] : (¬ p ∧ p = False) ∨ (p ∧ p = True) := by
  by_cases h : p
  · exact .inr ⟨h, eq_true h⟩
  · exact .inl ⟨h, eq_false h⟩
theorem btf (b : Bool) : b = true ∨ b = false := by cases b <;> simp
theorem dec_cases (p : Prop) [Decidable p] : (p ∧ p = True) ∨ (¬ p ∧ p = False) := by
  by_cases h : p
  · exact .inl ⟨h, eq_true h⟩
  · exact .inr ⟨h, eq_false h⟩
def wide (w : Int) : Bool := decide (1 ≤ w) && decide (w ≤ 64)
theorem w104' (w : Int) : Pure Tryz.prog 104 [.int .i64 w] (.bool (wide w)) := by
  refine Pure.of fun nx => AC.go mixed is104 (by simp) ?_
  by_cases c1 : (1 : Int) ≤ w
  · simp -implicitDefEqProofs only [RR, RE, RP, RG, takeV, reduceEqDiff, ↓reduceIte, reduceCtorEq, reduceAdd, reduceLeDiff, reduceLT, Nat.reduceBEq, A104, A104p, wide, c1, R104, Bool.true_and]
  · simp -implicitDefEqProofs only [RR, RE, RP, RG, takeV, reduceEqDiff, ↓reduceIte, reduceCtorEq, reduceAdd, reduceLeDiff, reduceLT, Nat.reduceBEq, A104, A104p, wide, c1, R104, Bool.false_and]
def mask (w : Int) : Int := if wide w = true then (18446744073709551615 : Int).fdiv (2 ^ (64 - w).toNat) else 0
theorem w105 (w : Int) : Pure Tryz.prog 105 [.int .i64 w] (.int .u64 (mask w)) := by
  refine Pure.of fun nx => AC.go mixed is105 (by simp) ?_
  simp -implicitDefEqProofs only [RR, RE, RP, RG, takeV, reduceEqDiff, ↓reduceIte, reduceCtorEq, reduceAdd, reduceLeDiff, reduceLT, Nat.reduceBEq, A105, A105p]
  refine (w104' w).use fun n1 hn1 => ?_
  by_cases c1 : wide w = true
  · have c2 := c1
    simp only [wide, Bool.and_eq_true, decide_eq_true_eq] at c2
    have e1 : IntKind.i64.wrap (64 - w) = 64 - w := w64 (by omega) (by omega)
    have e2 : min (64 - w).toNat IntKind.u64.bits = (64 - w).toNat := by simp only [IntKind.bits]; omega
    simp -implicitDefEqProofs only [RR, RE, RP, RG, takeV, reduceEqDiff, ↓reduceIte, reduceCtorEq, reduceAdd, reduceLeDiff, reduceLT, Nat.reduceBEq, c1, unA, e1, b_shr _ _ _ _ (show (0 : Int) ≤ 64 - w by omega), e2, mask, R105]
  · simp only [Bool.not_eq_true] at c1
    simp -implicitDefEqProofs only [RR, RE, RP, RG, takeV, reduceEqDiff, ↓reduceIte, reduceCtorEq, reduceAdd, reduceLeDiff, reduceLT, Nat.reduceBEq, c1, unA, mask, R105, Bool.false_eq_true]
def okB (w b : Int) : Bool := wide w && decide (b ≤ mask w)
theorem w95 (w x : Int) : Pure Tryz.prog 95 [.int .i64 w, .int .u64 x] (.bool (okB w x)) := by
  refine Pure.of fun nx => AC.go mixed is95 (by simp) ?_
  simp -implicitDefEqProofs only [RR, RE, RP, RG, takeV, reduceEqDiff, ↓reduceIte, reduceCtorEq, reduceAdd, reduceLeDiff, reduceLT, Nat.reduceBEq, A95, A95p]
  refine (w104' w).use fun n1 hn1 => ?_
  by_cases c1 : wide w = true
  · simp -implicitDefEqProofs only [RR, RE, RP, RG, takeV, reduceEqDiff, ↓reduceIte, reduceCtorEq, reduceAdd, reduceLeDiff, reduceLT, Nat.reduceBEq, c1]
    refine (w105 w).use fun n2 hn2 => ?_
    simp -implicitDefEqProofs only [RR, RE, RP, RG, takeV, reduceEqDiff, ↓reduceIte, reduceCtorEq, reduceAdd, reduceLeDiff, reduceLT, Nat.reduceBEq, c1, R95, okB, Bool.true_and]
  · simp only [Bool.not_eq_true] at c1
    simp -implicitDefEqProofs only [RR, RE, RP, RG, takeV, reduceEqDiff, ↓reduceIte, reduceCtorEq, reduceAdd, reduceLeDiff, reduceLT, Nat.reduceBEq, c1, R95, okB, Bool.false_and]
theorem w52 (w : Int) : Pure Tryz.prog 52 [.int .i64 w] (.bool (sized w)) := by
  refine Pure.of fun nx => AC.go mixed is52 (by simp) ?_
  rcases dec_cases (w = 1) with ⟨c1, d1⟩ | ⟨c1, d1⟩
  · simp -implicitDefEqProofs only [RR, RE, RP, RG, takeV, reduceEqDiff, ↓reduceIte, reduceCtorEq, reduceAdd, reduceLeDiff, reduceLT, Nat.reduceBEq, A52, A52p, sized, d1, R52]
  rcases dec_cases (w = 8) with ⟨c2, d2⟩ | ⟨c2, d2⟩
  · simp -implicitDefEqProofs only [RR, RE, RP, RG, takeV, reduceEqDiff, ↓reduceIte, reduceCtorEq, reduceAdd, reduceLeDiff, reduceLT, Nat.reduceBEq, A52, A52p, sized, d1, d2, R52]
  rcases dec_cases (w = 16) with ⟨c3, d3⟩ | ⟨c3, d3⟩
  · simp -implicitDefEqProofs only [RR, RE, RP, RG, takeV, reduceEqDiff, ↓reduceIte, reduceCtorEq, reduceAdd, reduceLeDiff, reduceLT, Nat.reduceBEq, A52, A52p, sized, d1, d2, d3, R52]
  · simp -implicitDefEqProofs only [RR, RE, RP, RG, takeV, reduceEqDiff, ↓reduceIte, reduceCtorEq, reduceAdd, reduceLeDiff, reduceLT, Nat.reduceBEq, A52, A52p, sized, d1, d2, d3, R52]
def wordN (w : Int) : Nm := if w = 1 then [98, 105, 116] else if w = 8 then [98, 121, 116, 101] else if w = 16 then [104, 97, 108, 102] else if w = 32 then [119, 111, 114, 100] else []
def sizeM : List (AV × AV) := [(.str [98, 105, 116], .int .i64 1), (.str [98, 121, 116, 101], .int .i64 8), (.str [104, 97, 108, 102], .int .i64 16), (.str [119, 111, 114, 100], .int .i64 32)]
theorem w91 (nx : Nat) : AC Tryz.prog 91 [] [] nx fun y h' n' => ∃ b, y = .ret (.mp b) ∧ b < n' ∧ hget h' b = some (.map sizeM [0, 1, 2, 3] 4) := by
  refine AC.go mixed is91 (by simp) ?_
  have e1 : ∀ h : Heap, setA ((nx, .map [] [] 0) :: h) .str (.mp nx) (.str [98, 105, 116]) (.int .i64 1) = some ((nx, .map (sizeM.take 1) [0] 1) :: (nx, .map [] [] 0) :: h) := fun h => by simp [setA, hget, hset, isKey, findA, sizeM]
  have e2 : ∀ h : Heap, setA ((nx, .map (sizeM.take 1) [0] 1) :: h) .str (.mp nx) (.str [98, 121, 116, 101]) (.int .i64 8) = some ((nx, .map (sizeM.take 2) [0, 1] 2) :: (nx, .map (sizeM.take 1) [0] 1) :: h) := fun h => by simp [setA, hget, hset, isKey, findA, sizeM, eqC]
  have e3 : ∀ h : Heap, setA ((nx, .map (sizeM.take 2) [0, 1] 2) :: h) .str (.mp nx) (.str [104, 97, 108, 102]) (.int .i64 16) = some ((nx, .map (sizeM.take 3) [0, 1, 2] 3) :: (nx, .map (sizeM.take 2) [0, 1] 2) :: h) := fun h => by simp [setA, hget, hset, isKey, findA, sizeM, eqC]
  have e4 : ∀ h : Heap, setA ((nx, .map (sizeM.take 3) [0, 1, 2] 3) :: h) .str (.mp nx) (.str [119, 111, 114, 100]) (.int .i64 32) = some ((nx, .map sizeM [0, 1, 2, 3] 4) :: (nx, .map (sizeM.take 3) [0, 1, 2] 3) :: h) := fun h => by simp [setA, hget, hset, isKey, findA, sizeM, eqC]
  simp -implicitDefEqProofs only [RR, RE, RP, RG, takeV, reduceEqDiff, ↓reduceIte, reduceCtorEq, reduceAdd, reduceLeDiff, reduceLT, Nat.reduceBEq, A91, A91p, e1, e2, e3, e4, R91]
  exact ⟨nx, rfl, by omega, by simp [hget]⟩
theorem nodup_len : ∀ (n : Nat) (l : List Nat), l.Nodup → (∀ x ∈ l, x < n) → l.length ≤ n
  | 0, l, _, h => by
    cases l with
    | nil => simp
    | cons a l => have := h a (by simp); omega
  | n + 1, l, hn, h => by
    have ih := nodup_len n (l.erase n) (hn.erase n) fun x hx => by
      have h1 := (List.Nodup.mem_erase_iff hn).1 hx
      have := h x h1.2
      have := h1.1
      omega
    rw [List.length_erase] at ih
    split at ih <;> omega
theorem ofV_mark : ofV (.tuple #[]) = none := rfl
theorem size_at {i : Nat} {q x : AV} {s : Nat} (k1 : sizeM[i]? = some (q, x)) (k2 : [0, 1, 2, 3][i]? = some s) : s = i ∧ i < 4 ∧ ∃ nm m, q = .str nm ∧ x = .int .i64 m ∧ wordN m = nm ∧ nm ≠ [] ∧ sizeM[i]? = some (.str (wordN m), .int .i64 m) := by
  have h4 : i < 4 := (List.getElem?_eq_some_iff.1 k1).1
  match i, h4 with
  | 0, _ => simp [sizeM] at k1 k2; exact ⟨k2.symm, by omega, _, _, k1.1.symm, k1.2.symm, rfl, by simp, rfl⟩
  | 1, _ => simp [sizeM] at k1 k2; exact ⟨k2.symm, by omega, _, _, k1.1.symm, k1.2.symm, rfl, by simp, rfl⟩
  | 2, _ => simp [sizeM] at k1 k2; exact ⟨k2.symm, by omega, _, _, k1.1.symm, k1.2.symm, rfl, by simp, rfl⟩
  | 3, _ => simp [sizeM] at k1 k2; exact ⟨k2.symm, by omega, _, _, k1.1.symm, k1.2.symm, rfl, by simp, rfl⟩
theorem ent_size {h : Heap} {n b i s : Nat} {seen : List Nat} {q x : AV} (hm : hget h b = some (.map sizeM [0, 1, 2, 3] 4)) (hn : n ≠ b) (k1 : sizeM[i]? = some (q, x)) (k2 : [0, 1, 2, 3][i]? = some s) : entH ((n, .mit b 4 (seen ++ [s]) 4) :: h) (.op n 0) = some (.tup [q, x]) := by
  have h4 : i < 4 := (List.getElem?_eq_some_iff.1 k1).1
  have e1 : hget ((n, .mit b 4 (seen ++ [s]) 4) :: h) n = some (.mit b 4 (seen ++ [s]) 4) := by rw [hget_cons, if_pos rfl]
  have e2 : hget ((n, .mit b 4 (seen ++ [s]) 4) :: h) b = some (.map sizeM [0, 1, 2, 3] 4) := by rw [hget_cons, if_neg hn]; exact hm
  have e3 : (seen ++ [s]).getLast? = some s := by simp
  simp only [entH, e1, e2, e3, if_true]
  match i, h4 with
  | 0, _ => simp [sizeM] at k1 k2; subst k2; simp [entA, sizeM, k1]
  | 1, _ => simp [sizeM] at k1 k2; subst k2; simp [entA, sizeM, k1]
  | 2, _ => simp [sizeM] at k1 k2; subst k2; simp [entA, sizeM, k1]
  | 3, _ => simp [sizeM] at k1 k2; subst k2; simp [entA, sizeM, k1]
theorem w66 (w : Int) : Pure Tryz.prog 66 [.int .i64 w] (.str (wordN w)) := by
  refine Pure.of fun nx => AC.go mixed is66 (by simp) ?_
  simp -implicitDefEqProofs only [RR, RE, RP, RG, takeV, reduceEqDiff, ↓reduceIte, reduceCtorEq, reduceAdd, reduceLeDiff, reduceLT, Nat.reduceBEq, A66, A66p]
  refine (w91 nx).mono ?_
  rintro y h n ⟨b, rfl, hbn, hb⟩
  have er : rngA h n (.mp b) = some ((n, .mit b 4 [] 4) :: h) := by simp only [rngA, hb]
  simp -implicitDefEqProofs only [RR, RE, RP, RG, takeV, reduceEqDiff, ↓reduceIte, reduceCtorEq, reduceAdd, reduceLeDiff, reduceLT, Nat.reduceBEq, er]
  refine go_rounds (fun q st => ∃ seen : List Nat, q = 4 - seen.length ∧ seen.length ≤ 4 ∧ seen.Nodup ∧ (∀ s ∈ seen, s < 4) ∧ (∀ i q m, sizeM[i]? = some (q, .int .i64 m) → i ∈ seen → m ≠ w) ∧ eget st.env 0 = some (.int .i64 w) ∧ eget st.env 6 = some (.op n 0) ∧ hget st.heap n = some (.mit b 4 seen 4) ∧ hget st.heap b = some (.map sizeM [0, 1, 2, 3] 4) ∧ st.dm = []) (n := 4) mixed
    ⟨[], rfl, by simp, by simp, by simp, by simp, by simp [eget], by simp [eget], by simp [hget], by rw [hget_cons, if_neg (by omega)]; exact hb, rfl⟩ ?_
  rintro q ⟨env, heap, nx', dm⟩ ⟨seen, rfl, hlen, hnd, hlt, hne, g0, g6, g7, g8, hdm⟩
  simp only at g0 g6 g7 g8 hdm
  subst hdm
  simp -implicitDefEqProofs only [RR, RE, RP, RG, takeV, reduceEqDiff, ↓reduceIte, reduceCtorEq, reduceAdd, reduceLeDiff, reduceLT, Nat.reduceBEq, A66l0, A66l0p, g6, ofV_mark]
  refine ⟨rfl, b, 4, 4, 4, seen, [0, 1, 2, 3], sizeM, g7, g8, by decide, by omega, fun hall => ?_, fun i qq x s k1 k2 k3 => ?_⟩
  · have h1 := hne 0 _ 1 rfl (hall 0 (by simp))
    have h2 := hne 1 _ 8 rfl (hall 1 (by simp))
    have h3 := hne 2 _ 16 rfl (hall 2 (by simp))
    have h4 := hne 3 _ 32 rfl (hall 3 (by simp))
    have hw : wordN w = [] := by unfold wordN; rw [if_neg (Ne.symm h1), if_neg (Ne.symm h2), if_neg (Ne.symm h3), if_neg (Ne.symm h4)]
    simp -implicitDefEqProofs only [RR, RE, RP, RG, takeV, reduceEqDiff, ↓reduceIte, reduceCtorEq, reduceAdd, reduceLeDiff, reduceLT, Nat.reduceBEq, R66, hw]
  · have ee := ent_size (n := n) (b := b) (seen := seen) g8 (by omega) k1 k2
    obtain ⟨rfl, h4, nm, m, rfl, rfl, rfl, hnm, hat⟩ := size_at k1 k2
    rcases dec_cases (m = w) with ⟨c1, d1⟩ | ⟨c1, d1⟩
    · subst c1
      simp -implicitDefEqProofs only [RR, RE, RP, RG, takeV, reduceEqDiff, ↓reduceIte, reduceCtorEq, reduceAdd, reduceLeDiff, reduceLT, Nat.reduceBEq, g0, g6, ee, R66]
    · simp -implicitDefEqProofs only [RR, RE, RP, RG, takeV, reduceEqDiff, ↓reduceIte, reduceCtorEq, reduceAdd, reduceLeDiff, reduceLT, Nat.reduceBEq, g0, g6, ee, d1]
      have hnd2 : (seen ++ [s]).Nodup := by
        rw [List.nodup_append]
        exact ⟨hnd, by simp, fun a ha b hb e => by simp at hb; subst hb; subst e; exact k3 ha⟩
      have hlt2 : ∀ t ∈ seen ++ [s], t < 4 := fun t ht => by
        rcases List.mem_append.1 ht with h | h
        · exact hlt t h
        · simp at h; omega
      have hlen2 := nodup_len 4 _ hnd2 hlt2
      rw [List.length_append] at hlen2
      simp only [List.length_cons, List.length_nil] at hlen2
      have hne2 : ∀ (j : Nat) (q' : AV) (m' : Int), sizeM[j]? = some (q', .int .i64 m') → j ∈ seen ++ [s] → m' ≠ w := by
        intro j q' m' hj hjs
        rcases List.mem_append.1 hjs with h | h
        · exact hne j q' m' hj h
        · simp at h; subst h
          rw [hat] at hj
          simp only [Option.some.injEq, Prod.mk.injEq, AV.int.injEq, true_and] at hj
          rw [← hj.2]; exact c1
      refine ⟨4 - (seen ++ [s]).length, by rw [List.length_append]; simp only [List.length_cons, List.length_nil]; omega, seen ++ [s], ?_⟩
      repeat' apply And.intro
      all_goals first | assumption | rfl | (rw [List.length_append]; exact hlen2) | (simp [eget, *]; done) | (rw [if_neg (by omega)]; exact g8)
theorem word_sized (w : Int) : (wordN w ≠ []) ↔ sized w = true := by
  unfold wordN sized
  by_cases h1 : w = 1 <;> by_cases h2 : w = 8 <;> by_cases h3 : w = 16 <;> by_cases h4 : w = 32 <;> simp [h1, h2, h3, h4]
theorem w41 (w : Int) : Pure Tryz.prog 41 [.int .i64 w] (.bool (sized w)) := by
  refine Pure.of fun nx => AC.go mixed is41 (by simp) ?_
  simp -implicitDefEqProofs only [RR, RE, RP, RG, takeV, reduceEqDiff, ↓reduceIte, reduceCtorEq, reduceAdd, reduceLeDiff, reduceLT, Nat.reduceBEq, A41, A41p]
  refine (w66 w).use fun n1 hn1 => ?_
  have e1 : binA .neq (.str (wordN w)) (.str []) = some (.bool (sized w)) := by
    rw [b_str]
    simp only [strA]
    congr 2
    have := word_sized w
    cases h : sized w
    · rw [h] at this
      have h2 : wordN w = [] := Classical.byContradiction fun h3 => by have := this.1 h3; cases this
      rw [h2]; rfl
    · have h2 := this.2 h
      cases hw : wordN w with
      | nil => exact absurd hw h2
      | cons a l => rfl
  simp -implicitDefEqProofs only [RR, RE, RP, RG, takeV, reduceEqDiff, ↓reduceIte, reduceCtorEq, reduceAdd, reduceLeDiff, reduceLT, Nat.reduceBEq, e1, R41]
end Go.Proofs.YtkfldbimfbacmaaGreatDoor
namespace Go.Proofs.YtkfldbimfbacmaaGreatDoor
open Go Go.Ab Go.Proofs
open Nat (reduceEqDiff reduceAdd reduceLeDiff reduceLT)
set_option linter.unusedVariables false
set_option linter.unusedSimpArgs false
set_option maxRecDepth 20000
def okAt (i : Nat) (b : UInt8) : Prop := (97 ≤ b.toNat ∧ b.toNat ≤ 122) ∨ (65 ≤ b.toNat ∧ b.toNat ≤ 90) ∨ (i ≠ 0 ∧ (b.toNat = 95 ∨ (48 ≤ b.toNat ∧ b.toNat ≤ 57)))
def isName (s : List UInt8) : Prop := 1 ≤ s.length ∧ s.length ≤ 24 ∧ ∀ j b, s[j]? = some b → okAt j b
theorem w63 (s : List UInt8) (v : Bool) (hv : v = true ↔ isName s) (hs : s.length ≤ 100000) : Pure Tryz.prog 63 [.str s] (.bool v) := by
  refine Pure.of fun nx => AC.go mixed is63 (by simp) ?_
  by_cases l1 : (s.length : Int) < 1
  case pos =>
    obtain rfl : v = false := by
      cases v with
      | false => rfl
      | true => have := (hv.1 rfl).1; omega
    simp -implicitDefEqProofs only [RR, RE, RP, RG, takeV, reduceEqDiff, ↓reduceIte, reduceCtorEq, reduceAdd, reduceLeDiff, reduceLT, Nat.reduceBEq, A63, A63p, l1, R63]
  by_cases l2 : (24 : Int) < (s.length : Int)
  case pos =>
    obtain rfl : v = false := by
      cases v with
      | false => rfl
      | true => have := (hv.1 rfl).2.1; omega
    simp -implicitDefEqProofs only [RR, RE, RP, RG, takeV, reduceEqDiff, ↓reduceIte, reduceCtorEq, reduceAdd, reduceLeDiff, reduceLT, Nat.reduceBEq, A63, A63p, l1, l2, R63]
  simp -implicitDefEqProofs only [RR, RE, RP, RG, takeV, reduceEqDiff, ↓reduceIte, reduceCtorEq, reduceAdd, reduceLeDiff, reduceLT, Nat.reduceBEq, A63, A63p, l1, l2]
  refine go_rounds (fun q st => ∃ i : Nat, q = s.length - i ∧ i ≤ s.length ∧ (∀ j b, j < i → s[j]? = some b → okAt j b) ∧ eget st.env 0 = some (.str s) ∧ eget st.env 15 = some (.int .i64 s.length) ∧ eget st.env 16 = some (.int .i64 i) ∧ st.dm = []) (n := s.length) mixed
    ⟨0, rfl, by omega, fun j b hj => by omega, by simp [eget], by simp [eget], by simp [eget], rfl⟩ ?_
  rintro q ⟨env, heap, nx', dm⟩ ⟨i, rfl, hi, hok, h0, h15, h16, hdm⟩
  simp only at h0 h15 h16 hdm
  subst hdm
  by_cases hl : (i : Int) < (s.length : Int)
  case neg =>
    obtain rfl : v = true := hv.2 ⟨by omega, by omega, fun j b hb => hok j b (by have := (List.getElem?_eq_some_iff.1 hb).1; omega) hb⟩
    simp -implicitDefEqProofs only [RR, RE, RP, RG, takeV, reduceEqDiff, ↓reduceIte, reduceCtorEq, reduceAdd, reduceLeDiff, reduceLT, Nat.reduceBEq, A63l0, A63l0p, h15, h16, hl, R63]
  have hb := List.getElem?_eq_getElem (show i < s.length by omega)
  generalize s[i] = b at hb
  have ei : (0 : Int) ≤ (i : Int) := Int.natCast_nonneg _
  have f1 : IntKind.i64.wrap ((i : Int) + 1) = ((i + 1 : Nat) : Int) := by rw [w64 (by omega) (by omega)]; omega
  by_cases hk : okAt i b
  · have hok2 : ∀ j b, j < i + 1 → s[j]? = some b → okAt j b := by
      intro j b' hj hb'
      rcases Nat.lt_or_ge j i with h | h
      · exact hok j b' h hb'
      · obtain rfl : j = i := by omega
        rw [hb] at hb'; injection hb' with hb'; subst hb'; exact hk
    unfold okAt at hk
    by_cases c1 : (97 : Int) ≤ (b.toNat : Int) <;> by_cases c2 : (b.toNat : Int) ≤ 122 <;> (try (exfalso; omega)) <;> by_cases c3 : (65 : Int) ≤ (b.toNat : Int) <;> (try (exfalso; omega)) <;> by_cases c4 : (b.toNat : Int) ≤ 90 <;> (try (exfalso; omega)) <;> rcases dec_cases ((i : Int) = 0) with ⟨c5, d5⟩ | ⟨c5, d5⟩ <;> (try (exfalso; omega)) <;> rcases dec_cases ((b.toNat : Int) = 95) with ⟨c6, d6⟩ | ⟨c6, d6⟩ <;> (try (exfalso; omega)) <;> by_cases c7 : (b.toNat : Int) < 48 <;> (try (exfalso; omega)) <;> by_cases c8 : (57 : Int) < (b.toNat : Int) <;> (try (exfalso; omega))
    all_goals
      simp -implicitDefEqProofs only [RR, RE, RP, RG, takeV, reduceEqDiff, ↓reduceIte, reduceCtorEq, reduceAdd, reduceLeDiff, reduceLT, Nat.reduceBEq, A63l0, A63l0p, h0, h15, h16, hl, ei, Int.toNat_natCast, hb, unA, c1, c2, c3, c4, d5, d6, c7, c8, f1]
      refine ⟨s.length - (i + 1), by omega, i + 1, ?_⟩
      repeat' apply And.intro
      all_goals first | assumption | rfl | omega | (simp [eget, *]; done)
  · obtain rfl : v = false := by
      cases v with
      | false => rfl
      | true => exact absurd ((hv.1 rfl).2.2 i b hb) hk
    unfold okAt at hk
    by_cases c1 : (97 : Int) ≤ (b.toNat : Int) <;> by_cases c2 : (b.toNat : Int) ≤ 122 <;> (try (exfalso; omega)) <;> by_cases c3 : (65 : Int) ≤ (b.toNat : Int) <;> (try (exfalso; omega)) <;> by_cases c4 : (b.toNat : Int) ≤ 90 <;> (try (exfalso; omega)) <;> rcases dec_cases ((i : Int) = 0) with ⟨c5, d5⟩ | ⟨c5, d5⟩ <;> (try (exfalso; omega)) <;> rcases dec_cases ((b.toNat : Int) = 95) with ⟨c6, d6⟩ | ⟨c6, d6⟩ <;> (try (exfalso; omega)) <;> by_cases c7 : (b.toNat : Int) < 48 <;> (try (exfalso; omega)) <;> by_cases c8 : (57 : Int) < (b.toNat : Int) <;> (try (exfalso; omega))
    all_goals
      simp -implicitDefEqProofs only [RR, RE, RP, RG, takeV, reduceEqDiff, ↓reduceIte, reduceCtorEq, reduceAdd, reduceLeDiff, reduceLT, Nat.reduceBEq, A63l0, A63l0p, h0, h15, h16, hl, ei, Int.toNat_natCast, hb, unA, c1, c2, c3, c4, d5, d6, c7, c8, R63]
theorem w79 (s : List UInt8) (v : Bool) (hv : v = true ↔ isName s) (hs : s.length ≤ 100000) : Pure Tryz.prog 79 [.str s] (.bool v) := by
  refine Pure.of fun nx => AC.go mixed is79 (by simp) ?_
  by_cases l1 : (s.length : Int) = 0
  case pos =>
    obtain rfl : v = false := by
      cases v with
      | false => rfl
      | true => have := (hv.1 rfl).1; omega
    simp -implicitDefEqProofs only [RR, RE, RP, RG, takeV, reduceEqDiff, ↓reduceIte, reduceCtorEq, reduceAdd, reduceLeDiff, reduceLT, Nat.reduceBEq, A79, A79p, l1, R79]
  by_cases l2 : (24 : Int) < (s.length : Int)
  case pos =>
    obtain rfl : v = false := by
      cases v with
      | false => rfl
      | true => have := (hv.1 rfl).2.1; omega
    simp -implicitDefEqProofs only [RR, RE, RP, RG, takeV, reduceEqDiff, ↓reduceIte, reduceCtorEq, reduceAdd, reduceLeDiff, reduceLT, Nat.reduceBEq, A79, A79p, l1, l2, R79]
  simp -implicitDefEqProofs only [RR, RE, RP, RG, takeV, reduceEqDiff, ↓reduceIte, reduceCtorEq, reduceAdd, reduceLeDiff, reduceLT, Nat.reduceBEq, A79, A79p, l1, l2]
  refine go_rounds (fun q st => ∃ i : Nat, q = s.length - i ∧ i ≤ s.length ∧ (∀ j b, j < i → s[j]? = some b → okAt j b) ∧ eget st.env 0 = some (.str s) ∧ eget st.env 3 = some (.int .i64 i) ∧ st.dm = []) (n := s.length) mixed
    ⟨0, rfl, by omega, fun j b hj => by omega, by simp [eget], by simp [eget], rfl⟩ ?_
  rintro q ⟨env, heap, nx', dm⟩ ⟨i, rfl, hi, hok, h0, h3, hdm⟩
  simp only at h0 h3 hdm
  subst hdm
  by_cases hl : (i : Int) < (s.length : Int)
  case neg =>
    obtain rfl : v = true := hv.2 ⟨by omega, by omega, fun j b hb => hok j b (by have := (List.getElem?_eq_some_iff.1 hb).1; omega) hb⟩
    simp -implicitDefEqProofs only [RR, RE, RP, RG, takeV, reduceEqDiff, ↓reduceIte, reduceCtorEq, reduceAdd, reduceLeDiff, reduceLT, Nat.reduceBEq, A79l0, A79l0p, h0, h3, hl, R79]
  have hb := List.getElem?_eq_getElem (show i < s.length by omega)
  generalize s[i] = b at hb
  have ei : (0 : Int) ≤ (i : Int) := Int.natCast_nonneg _
  have f1 : IntKind.i64.wrap ((i : Int) + 1) = ((i + 1 : Nat) : Int) := by rw [w64 (by omega) (by omega)]; omega
  by_cases hk : okAt i b
  · have hok2 : ∀ j b, j < i + 1 → s[j]? = some b → okAt j b := by
      intro j b' hj hb'
      rcases Nat.lt_or_ge j i with h | h
      · exact hok j b' h hb'
      · obtain rfl : j = i := by omega
        rw [hb] at hb'; injection hb' with hb'; subst hb'; exact hk
    unfold okAt at hk
    by_cases c1 : (97 : Int) ≤ (b.toNat : Int) <;> by_cases c2 : (b.toNat : Int) ≤ 122 <;> (try (exfalso; omega)) <;> by_cases c3 : (65 : Int) ≤ (b.toNat : Int) <;> (try (exfalso; omega)) <;> by_cases c4 : (b.toNat : Int) ≤ 90 <;> (try (exfalso; omega)) <;> rcases dec_cases ((i : Int) = 0) with ⟨c5, d5⟩ | ⟨c5, d5⟩ <;> (try (exfalso; omega)) <;> rcases dec_cases ((b.toNat : Int) = 95) with ⟨c6, d6⟩ | ⟨c6, d6⟩ <;> (try (exfalso; omega)) <;> by_cases c7 : (48 : Int) ≤ (b.toNat : Int) <;> (try (exfalso; omega)) <;> by_cases c8 : (b.toNat : Int) ≤ 57 <;> (try (exfalso; omega))
    all_goals
      simp -implicitDefEqProofs only [RR, RE, RP, RG, takeV, reduceEqDiff, ↓reduceIte, reduceCtorEq, reduceAdd, reduceLeDiff, reduceLT, Nat.reduceBEq, A79l0, A79l0p, h0, h3, hl, ei, Int.toNat_natCast, hb, unA, c1, c2, c3, c4, d5, d6, c7, c8, f1]
      refine ⟨s.length - (i + 1), by omega, i + 1, ?_⟩
      repeat' apply And.intro
      all_goals first | assumption | rfl | omega | (simp [eget, *]; done)
  · obtain rfl : v = false := by
      cases v with
      | false => rfl
      | true => exact absurd ((hv.1 rfl).2.2 i b hb) hk
    unfold okAt at hk
    by_cases c1 : (97 : Int) ≤ (b.toNat : Int) <;> by_cases c2 : (b.toNat : Int) ≤ 122 <;> (try (exfalso; omega)) <;> by_cases c3 : (65 : Int) ≤ (b.toNat : Int) <;> (try (exfalso; omega)) <;> by_cases c4 : (b.toNat : Int) ≤ 90 <;> (try (exfalso; omega)) <;> rcases dec_cases ((i : Int) = 0) with ⟨c5, d5⟩ | ⟨c5, d5⟩ <;> (try (exfalso; omega)) <;> rcases dec_cases ((b.toNat : Int) = 95) with ⟨c6, d6⟩ | ⟨c6, d6⟩ <;> (try (exfalso; omega)) <;> by_cases c7 : (48 : Int) ≤ (b.toNat : Int) <;> (try (exfalso; omega)) <;> by_cases c8 : (b.toNat : Int) ≤ 57 <;> (try (exfalso; omega))
    all_goals
      simp -implicitDefEqProofs only [RR, RE, RP, RG, takeV, reduceEqDiff, ↓reduceIte, reduceCtorEq, reduceAdd, reduceLeDiff, reduceLT, Nat.reduceBEq, A79l0, A79l0p, h0, h3, hl, ei, Int.toNat_natCast, hb, unA, c1, c2, c3, c4, d5, d6, c7, c8, R79]
instance (i : Nat) (b : UInt8) : Decidable (okAt i b) := by unfold okAt; infer_instance
def nameB : Nat → List UInt8 → Bool
  | _, [] => true
  | i, b :: l => decide (okAt i b) && nameB (i + 1) l
theorem nameB_iff : ∀ (l : List UInt8) (i : Nat), nameB i l = true ↔ ∀ j b, l[j]? = some b → okAt (i + j) b
  | [], i => by simp [nameB]
  | c :: l, i => by
    rw [nameB, Bool.and_eq_true, decide_eq_true_eq, nameB_iff l (i + 1)]
    constructor
    · rintro ⟨h1, h2⟩ j b hb
      cases j with
      | zero => simp at hb; subst hb; exact h1
      | succ j => have := h2 j b (by simpa using hb); rw [show i + (j + 1) = i + 1 + j by omega]; exact this
    · intro h
      refine ⟨h 0 c rfl, fun j b hb => ?_⟩
      have := h (j + 1) b (by simpa using hb)
      rw [show i + 1 + j = i + (j + 1) by omega]; exact this
theorem name_is {s : List UInt8} {v : Bool} (h : (decide (1 ≤ s.length) && (decide (s.length ≤ 24) && nameB 0 s)) = v) : v = true ↔ isName s := by
  subst h
  rw [Bool.and_eq_true, Bool.and_eq_true, decide_eq_true_eq, decide_eq_true_eq, nameB_iff]
  simp only [Nat.zero_add]
  exact Iff.rfl
def nameOk (s : Nm) : Bool := decide (1 ≤ s.length) && (decide (s.length ≤ 24) && nameB 0 s)
theorem w63' (s : Nm) (hs : s.length ≤ 100000) : Pure Tryz.prog 63 [.str s] (.bool (nameOk s)) := w63 s _ (name_is rfl) hs
theorem w79' (s : Nm) (hs : s.length ≤ 100000) : Pure Tryz.prog 79 [.str s] (.bool (nameOk s)) := w79 s _ (name_is rfl) hs
def fi {α : Type} (p : α → Bool) : List α → Nat → Int
  | [], _ => -1
  | x :: r, i => if p x = true then (i : Int) else fi p r (i + 1)
theorem fi_step {α : Type} {p : α → Bool} {l : List α} {i : Nat} {x : α} (h : l[i]? = some x) : fi p (l.drop i) i = if p x = true then (i : Int) else fi p (l.drop (i + 1)) (i + 1) := by
  have hl := (List.getElem?_eq_some_iff.1 h).1
  have e : l.drop i = x :: l.drop (i + 1) := by
    rw [List.drop_eq_getElem_cons hl]; congr 1
    rw [List.getElem?_eq_getElem hl] at h; injection h
  rw [e, fi]
theorem fi_any {α : Type} (p : α → Bool) : ∀ (l : List α) (i : Nat), decide (0 ≤ fi p l i) = l.any p
  | [], _ => by simp [fi]
  | x :: r, i => by
    simp only [fi, List.any_cons]
    split
    · rename_i h; simp [h]
    · rename_i h; rw [fi_any p r (i + 1)]; simp only [Bool.not_eq_true] at h; simp [h]
def strsA (l : List Nm) : AV := .lst 1 (l.map fun s => [.str s])
theorem strs_len (l : List Nm) : lenA (strsA l) = some l.length := by simp [strsA, len_map]
theorem strs_idx {l : List Nm} {n : Nat} {r : Nm} (h : l[n]? = some r) : idxA 1 (strsA l) (n : Int) = some (.fp [.str r]) := idxA_map (f := fun s => [AV.str s]) h
theorem w90 (l : List Nm) (v : Nm) (hl : l.length ≤ 100000) : Pure Tryz.prog 90 [strsA l, .str v] (.int .i64 (fi (fun x => v == x) l 0)) := by
  refine Pure.of fun nx => AC.go mixed is90 (by simp) ?_
  have lv := strs_len l
  simp -implicitDefEqProofs only [RR, RE, RP, RG, takeV, reduceEqDiff, ↓reduceIte, reduceCtorEq, reduceAdd, reduceLeDiff, reduceLT, Nat.reduceBEq, A90, A90p, lv]
  refine go_rounds (fun q st => ∃ i : Nat, q = l.length - i ∧ i ≤ l.length ∧ fi (fun x => v == x) (l.drop i) i = fi (fun x => v == x) l 0 ∧ eget st.env 0 = some (strsA l) ∧ eget st.env 1 = some (.str v) ∧ eget st.env 7 = some (.int .i64 l.length) ∧ eget st.env 8 = some (.int .i64 i) ∧ st.dm = []) (n := l.length) mixed
    ⟨0, rfl, by omega, by simp, by simp [eget], by simp [eget], by simp [eget], by simp [eget], rfl⟩ ?_
  rintro q ⟨env, heap, nx', dm⟩ ⟨i, rfl, hi, hf, g0, g1, g7, g8, hdm⟩
  simp only at g0 g1 g7 g8 hdm
  subst hdm
  by_cases hc : (i : Int) < (l.length : Int)
  case neg =>
    have : l.drop i = [] := List.drop_of_length_le (by omega)
    rw [this, fi] at hf
    rw [← hf]
    simp -implicitDefEqProofs only [RR, RE, RP, RG, takeV, reduceEqDiff, ↓reduceIte, reduceCtorEq, reduceAdd, reduceLeDiff, reduceLT, Nat.reduceBEq, A90l0, A90l0p, g7, g8, hc, R90]
  have hr := List.getElem?_eq_getElem (show i < l.length by omega)
  generalize l[i] = r at hr
  rw [fi_step hr] at hf
  have ix := strs_idx hr
  have f1 : IntKind.i64.wrap ((i : Int) + 1) = ((i + 1 : Nat) : Int) := by rw [w64 (by omega) (by omega)]; omega
  cases hv : (v == r) with
  | true =>
    simp only [hv, if_true] at hf
    rw [← hf]
    simp -implicitDefEqProofs only [RR, RE, RP, RG, takeV, reduceEqDiff, ↓reduceIte, reduceCtorEq, reduceAdd, reduceLeDiff, reduceLT, Nat.reduceBEq, A90l0, A90l0p, g0, g1, g7, g8, hc, ix, b_str, strA, hv, R90]
  | false =>
    simp only [hv, Bool.false_eq_true, if_false] at hf
    simp -implicitDefEqProofs only [RR, RE, RP, RG, takeV, reduceEqDiff, ↓reduceIte, reduceCtorEq, reduceAdd, reduceLeDiff, reduceLT, Nat.reduceBEq, A90l0, A90l0p, g0, g1, g7, g8, hc, ix, b_str, strA, hv, f1]
    refine ⟨l.length - (i + 1), by omega, i + 1, ?_⟩
    repeat' apply And.intro
    all_goals first | assumption | rfl | omega | (simp [eget, *]; done)
theorem w64z (l : List Nm) (v : Nm) (hl : l.length ≤ 100000) : Pure Tryz.prog 64 [strsA l, .str v] (.bool (l.any fun x => v == x)) := by
  refine Pure.of fun nx => AC.go mixed is64 (by simp) ?_
  simp -implicitDefEqProofs only [RR, RE, RP, RG, takeV, reduceEqDiff, ↓reduceIte, reduceCtorEq, reduceAdd, reduceLeDiff, reduceLT, Nat.reduceBEq, A64, A64p]
  refine (w90 l v hl).use fun n1 hn1 => ?_
  have e := fi_any (fun x => v == x) l 0
  simp -implicitDefEqProofs only [RR, RE, RP, RG, takeV, reduceEqDiff, ↓reduceIte, reduceCtorEq, reduceAdd, reduceLeDiff, reduceLT, Nat.reduceBEq, e, R64]
def ownW : List Nm := [[97, 114, 114, 97, 121], [102, 117, 110, 99], [118, 97, 114], [105, 102], [101, 108, 115, 101], [119, 104, 105, 108, 101], [98, 114, 101, 97, 107], [116, 101, 108, 108], [114, 101, 116, 117, 114, 110], [115, 105, 103, 110, 101, 100], [98, 105, 116], [98, 121, 116, 101], [104, 97, 108, 102], [119, 111, 114, 100]]
theorem w65 : Pure Tryz.prog 65 [] (strsA ownW) := by
  refine Pure.of fun nx => AC.go mixed is65 (by simp) ?_
  have n0 : ((14 : Nat) = 0) = False := eq_false (by decide)
  simp -implicitDefEqProofs only [RR, RE, RP, RG, takeV, reduceEqDiff, ↓reduceIte, reduceCtorEq, reduceAdd, reduceLeDiff, reduceLT, Nat.reduceBEq, A65, A65p, n0, R65, if_false]
  rfl
def isNm (s : Nm) : Bool := nameOk s && !(ownW.any fun x => s == x)
theorem w40 (s : Nm) (hs : s.length ≤ 100000) : Pure Tryz.prog 40 [.str s] (.bool (isNm s)) := by
  refine Pure.of fun nx => AC.go mixed is40 (by simp) ?_
  simp -implicitDefEqProofs only [RR, RE, RP, RG, takeV, reduceEqDiff, ↓reduceIte, reduceCtorEq, reduceAdd, reduceLeDiff, reduceLT, Nat.reduceBEq, A40, A40p]
  refine (w63' s hs).use fun n1 hn1 => ?_
  cases h : nameOk s with
  | false =>
    have e : isNm s = false := by simp [isNm, h]
    simp -implicitDefEqProofs only [RR, RE, RP, RG, takeV, reduceEqDiff, ↓reduceIte, reduceCtorEq, reduceAdd, reduceLeDiff, reduceLT, Nat.reduceBEq, h, e, R40]
  | true =>
    have e : isNm s = !(ownW.any fun x => s == x) := by simp [isNm, h]
    simp -implicitDefEqProofs only [RR, RE, RP, RG, takeV, reduceEqDiff, ↓reduceIte, reduceCtorEq, reduceAdd, reduceLeDiff, reduceLT, Nat.reduceBEq, h]
    refine w65.use fun n2 hn2 => ?_
    simp -implicitDefEqProofs only [RR, RE, RP, RG, takeV, reduceEqDiff, ↓reduceIte, reduceCtorEq, reduceAdd, reduceLeDiff, reduceLT, Nat.reduceBEq]
    refine (w64z ownW s (by decide)).use fun n3 hn3 => ?_
    simp -implicitDefEqProofs only [RR, RE, RP, RG, takeV, reduceEqDiff, ↓reduceIte, reduceCtorEq, reduceAdd, reduceLeDiff, reduceLT, Nat.reduceBEq, unA, e, R40]
theorem w80 (s : Nm) : Pure Tryz.prog 80 [.str s] (.bool (ownW.any fun x => s == x)) := by
  refine Pure.of fun nx => AC.go mixed is80 (by simp) ?_
  have lv := strs_len ownW
  have e0 : ∀ i : Nat, fi (fun x => s == x) (ownW.drop i) i = fi (fun x => s == x) ownW 0 → decide (0 ≤ fi (fun x => s == x) (ownW.drop i) i) = ownW.any fun x => s == x := fun i h => by rw [h, fi_any]
  have eo : strsA ownW = .lst 1 [[.str [97, 114, 114, 97, 121]], [.str [102, 117, 110, 99]], [.str [118, 97, 114]], [.str [105, 102]], [.str [101, 108, 115, 101]], [.str [119, 104, 105, 108, 101]], [.str [98, 114, 101, 97, 107]], [.str [116, 101, 108, 108]], [.str [114, 101, 116, 117, 114, 110]], [.str [115, 105, 103, 110, 101, 100]], [.str [98, 105, 116]], [.str [98, 121, 116, 101]], [.str [104, 97, 108, 102]], [.str [119, 111, 114, 100]]] := rfl
  simp -implicitDefEqProofs only [RR, RE, RP, RG, takeV, reduceEqDiff, ↓reduceIte, reduceCtorEq, reduceAdd, reduceLeDiff, reduceLT, Nat.reduceBEq, A80, A80p]
  refine go_rounds (fun q st => ∃ i : Nat, q = ownW.length - i ∧ i ≤ ownW.length ∧ fi (fun x => s == x) (ownW.drop i) i = fi (fun x => s == x) ownW 0 ∧ eget st.env 0 = some (.str s) ∧ eget st.env 3 = some (.int .i64 i) ∧ st.dm = []) (n := ownW.length) mixed
    ⟨0, rfl, by omega, by simp, by simp [eget], by simp [eget], rfl⟩ ?_
  rintro q ⟨env, heap, nx', dm⟩ ⟨i, rfl, hi, hf, g0, g3, hdm⟩
  simp only at g0 g3 hdm
  subst hdm
  have e1 := e0 i hf
  have l14 : ownW.length = 14 := rfl
  by_cases hc : (i : Int) < (ownW.length : Int)
  case neg =>
    have : ownW.drop i = [] := List.drop_of_length_le (by omega)
    rw [this, fi] at e1
    rw [← e1]
    simp -implicitDefEqProofs only [RR, RE, RP, RG, takeV, reduceEqDiff, ↓reduceIte, reduceCtorEq, reduceAdd, reduceLeDiff, reduceLT, Nat.reduceBEq, A80l0, A80l0p, ← eo, lv, g0, g3, hc, R80]
    rfl
  have hr := List.getElem?_eq_getElem (show i < ownW.length by omega)
  generalize ownW[i] = r at hr
  rw [fi_step hr] at hf e1
  have ix := strs_idx hr
  have f1 : IntKind.i64.wrap ((i : Int) + 1) = ((i + 1 : Nat) : Int) := by rw [w64 (by omega) (by omega)]; omega
  have hsym : (r == s) = (s == r) := by
    cases h : (r == s) <;> cases h2 : (s == r) <;> simp_all
  cases hv : (s == r) with
  | true =>
    simp only [hv, if_true] at e1
    have : decide ((0 : Int) ≤ (i : Int)) = true := by simp
    rw [this] at e1
    rw [← e1]
    simp -implicitDefEqProofs only [RR, RE, RP, RG, takeV, reduceEqDiff, ↓reduceIte, reduceCtorEq, reduceAdd, reduceLeDiff, reduceLT, Nat.reduceBEq, A80l0, A80l0p, ← eo, lv, g0, g3, hc, ix, b_str, strA, hsym, hv, R80]
  | false =>
    simp only [hv, Bool.false_eq_true, if_false] at hf
    simp -implicitDefEqProofs only [RR, RE, RP, RG, takeV, reduceEqDiff, ↓reduceIte, reduceCtorEq, reduceAdd, reduceLeDiff, reduceLT, Nat.reduceBEq, A80l0, A80l0p, ← eo, lv, g0, g3, hc, ix, b_str, strA, hsym, hv, f1]
    refine ⟨ownW.length - (i + 1), by omega, i + 1, ?_⟩
    repeat' apply And.intro
    all_goals first | assumption | rfl | omega | (simp [eget, *]; done)
theorem w51 (s : Nm) (hs : s.length ≤ 100000) : Pure Tryz.prog 51 [.str s] (.bool (isNm s)) := by
  refine Pure.of fun nx => AC.go mixed is51 (by simp) ?_
  simp -implicitDefEqProofs only [RR, RE, RP, RG, takeV, reduceEqDiff, ↓reduceIte, reduceCtorEq, reduceAdd, reduceLeDiff, reduceLT, Nat.reduceBEq, A51, A51p]
  refine (w79' s hs).use fun n1 hn1 => ?_
  cases h : nameOk s with
  | false =>
    have e : isNm s = false := by simp [isNm, h]
    simp -implicitDefEqProofs only [RR, RE, RP, RG, takeV, reduceEqDiff, ↓reduceIte, reduceCtorEq, reduceAdd, reduceLeDiff, reduceLT, Nat.reduceBEq, h, e, R51]
  | true =>
    have e : isNm s = !(ownW.any fun x => s == x) := by simp [isNm, h]
    simp -implicitDefEqProofs only [RR, RE, RP, RG, takeV, reduceEqDiff, ↓reduceIte, reduceCtorEq, reduceAdd, reduceLeDiff, reduceLT, Nat.reduceBEq, h]
    refine (w80 s).use fun n2 hn2 => ?_
    simp -implicitDefEqProofs only [RR, RE, RP, RG, takeV, reduceEqDiff, ↓reduceIte, reduceCtorEq, reduceAdd, reduceLeDiff, reduceLT, Nat.reduceBEq, unA, e, R51]
end Go.Proofs.YtkfldbimfbacmaaGreatDoor
namespace Go.Proofs.YtkfldbimfbacmaaGreatDoor
open Go Go.Ab Go.Proofs
open Nat (reduceEqDiff reduceAdd reduceLeDiff reduceLT)
set_option linter.unusedVariables false
set_option linter.unusedSimpArgs false
set_option maxRecDepth 20000
theorem exs_len (l : List Ex) : lenA (exsA l) = some l.length := by simp [exsA, len_map]
theorem exs_idx {l : List Ex} {n : Nat} {r : Ex} (h : l[n]? = some r) : idxA 6 (exsA l) (n : Int) = some (.fp (exE r)) := idxA_map h
theorem ex_len (x : Ex) : (exE x).length = 6 := by rw [exE_eq]; rfl
theorem ex_take (x : Ex) : (exE x).take 6 = exE x := List.take_of_length_le (by rw [ex_len]; omega)
theorem nodes_eq (x : Ex) : nodes x = nodesL x.sub + 1 := by cases x; simp [nodes, Ex.sub]
theorem depth_eq (x : Ex) : depth x = depthL x.sub + 1 := by cases x; simp [depth, Ex.sub]
theorem nodesL_app : ∀ (a b : List Ex), nodesL (a ++ b) = nodesL a + nodesL b
  | [], b => by simp [nodesL]
  | x :: a, b => by simp only [List.cons_append, nodesL, nodesL_app a b]; omega
theorem depthL_app : ∀ (a b : List Ex), depthL (a ++ b) = max (depthL a) (depthL b)
  | [], b => by simp [depthL]
  | x :: a, b => by simp only [List.cons_append, depthL, depthL_app a b]; omega
theorem take_succ {α : Type} {l : List α} {i : Nat} {r : α} (h : l[i]? = some r) : l.take (i + 1) = l.take i ++ [r] := by
  rw [List.take_add_one, h]; rfl
theorem nodesL_take {l : List Ex} {i : Nat} {r : Ex} (h : l[i]? = some r) : nodesL (l.take (i + 1)) = nodesL (l.take i) + nodes r := by
  rw [take_succ h, nodesL_app]; simp [nodesL]
theorem depthL_take {l : List Ex} {i : Nat} {r : Ex} (h : l[i]? = some r) : depthL (l.take (i + 1)) = max (depthL (l.take i)) (depth r) := by
  rw [take_succ h, depthL_app]; simp [depthL]
theorem nodesL_le {l : List Ex} (i : Nat) : nodesL (l.take i) ≤ nodesL l := by
  have := nodesL_app (l.take i) (l.drop i)
  rw [List.take_append_drop] at this
  omega
theorem nodes_pos (x : Ex) : 1 ≤ nodes x := by rw [nodes_eq]; omega
theorem nodesL_len : ∀ (l : List Ex), l.length ≤ nodesL l
  | [] => by simp
  | x :: r => by have := nodesL_len r; have := nodes_pos x; simp only [List.length_cons, nodesL]; omega
theorem nodesL_mem {l : List Ex} {i : Nat} {r : Ex} (h : l[i]? = some r) : nodes r ≤ nodesL l := by
  have := nodesL_take h
  have := nodesL_le (l := l) (i + 1)
  omega
theorem depth_nodes : ∀ (n : Nat) (x : Ex), nodes x ≤ n → depth x ≤ nodes x := by
  intro n
  induction n with
  | zero => intro x hx; have := nodes_pos x; omega
  | succ n ih =>
    intro x hx
    rw [depth_eq, nodes_eq] at *
    have key : ∀ l : List Ex, nodesL l ≤ n → depthL l ≤ nodesL l := by
      intro l
      induction l with
      | nil => intro _; simp [depthL]
      | cons y l ihl =>
        intro hl
        simp only [nodesL, depthL] at hl ⊢
        have := ih y (by omega)
        have := ihl (by omega)
        omega
    have := key x.sub (by omega)
    omega
theorem depthL_nodes {l : List Ex} (i : Nat) : depthL (l.take i) ≤ nodesL l := by
  have h1 : depthL (l.take i) ≤ depthL l := by
    have := depthL_app (l.take i) (l.drop i)
    rw [List.take_append_drop] at this
    omega
  have h2 : ∀ l : List Ex, depthL l ≤ nodesL l := by
    intro l
    induction l with
    | nil => simp [depthL]
    | cons y l ihl => simp only [nodesL, depthL]; have := depth_nodes _ y (Nat.le_refl _); omega
  have := h2 l
  omega
theorem w89 : ∀ (n : Nat) (x : Ex), nodes x ≤ n → nodes x ≤ 4611686018427387904 → Pure Tryz.prog 89 [.agg (exE x)] (.tup [.int .i64 (nodes x), .int .i64 (depth x)]) := by
  intro n
  induction n with
  | zero => intro x hx; have := nodes_pos x; omega
  | succ n ih =>
    intro x hn hB
    refine Pure.of fun nx => AC.go mixed is89 (by simp) ?_
    have hnd := nodes_eq x
    have hdd := depth_eq x
    have hlen := nodesL_len x.sub
    have hdl := depthL_nodes (l := x.sub) x.sub.length
    rw [List.take_length] at hdl
    have lv := exs_len x.sub
    rw [exE_eq]
    simp -implicitDefEqProofs only [RR, RE, RP, RG, takeV, reduceEqDiff, ↓reduceIte, reduceCtorEq, reduceAdd, reduceLeDiff, reduceLT, Nat.reduceBEq, A89, A89p, lv]
    refine go_rounds (fun q st => ∃ i : Nat, q = x.sub.length - i ∧ i ≤ x.sub.length ∧ eget st.env 2 = some (.int .i64 (nodesL (x.sub.take i))) ∧ eget st.env 3 = some (.int .i64 (depthL (x.sub.take i))) ∧ eget st.env 9 = some (exsA x.sub) ∧ eget st.env 10 = some (.int .i64 x.sub.length) ∧ eget st.env 11 = some (.int .i64 i) ∧ st.dm = []) (n := x.sub.length) mixed
      ⟨0, rfl, by omega, by simp [eget, nodesL], by simp [eget, depthL], by simp [eget], by simp [eget], by simp [eget], rfl⟩ ?_
    rintro q ⟨env, heap, nx', dm⟩ ⟨i, rfl, hi, g2, g3, g9, g10, g11, hdm⟩
    simp only at g2 g3 g9 g10 g11 hdm
    subst hdm
    have f1 : IntKind.i64.wrap ((i : Int) + 1) = ((i + 1 : Nat) : Int) := by rw [w64 (by omega) (by omega)]; omega
    by_cases hc : (i : Int) < (x.sub.length : Int)
    case neg =>
      have ht : x.sub.take i = x.sub := List.take_of_length_le (by omega)
      rw [ht] at g2 g3
      have a1 : IntKind.i64.wrap ((nodesL x.sub : Int) + 1) = (nodes x : Int) := by rw [w64 (by omega) (by omega)]; omega
      have a2 : IntKind.i64.wrap ((depthL x.sub : Int) + 1) = (depth x : Int) := by rw [w64 (by omega) (by omega)]; omega
      simp -implicitDefEqProofs only [RR, RE, RP, RG, takeV, reduceEqDiff, ↓reduceIte, reduceCtorEq, reduceAdd, reduceLeDiff, reduceLT, Nat.reduceBEq, A89l0, A89l0p, g2, g3, g10, g11, hc, a1, a2, R89]
    have hr := List.getElem?_eq_getElem (show i < x.sub.length by omega)
    generalize x.sub[i] = r at hr
    have ix := exs_idx hr
    have m1 := nodesL_mem hr
    have t1 := nodesL_take hr
    have t2 := depthL_take hr
    have t3 := nodesL_le (l := x.sub) (i + 1)
    have rl := ex_len r
    have rt := ex_take r
    simp -implicitDefEqProofs only [RR, RE, RP, RG, takeV, reduceEqDiff, ↓reduceIte, reduceCtorEq, reduceAdd, reduceLeDiff, reduceLT, Nat.reduceBEq, A89l0, A89l0p, g2, g3, g9, g10, g11, hc, ix, rl, rt]
    refine (ih r (by omega) (by omega)).use fun n1 hn1 => ?_
    have a1 : IntKind.i64.wrap ((nodesL (x.sub.take i) : Int) + (nodes r : Int)) = (nodesL (x.sub.take (i + 1)) : Int) := by rw [w64 (by omega) (by omega)]; omega
    have a2 : (if (depth r : Int) > (depthL (x.sub.take i) : Int) then (depth r : Int) else (depthL (x.sub.take i) : Int)) = (depthL (x.sub.take (i + 1)) : Int) := by split <;> omega
    simp -implicitDefEqProofs only [RR, RE, RP, RG, takeV, reduceEqDiff, ↓reduceIte, reduceCtorEq, reduceAdd, reduceLeDiff, reduceLT, Nat.reduceBEq, g2, g3, g11, f1, a1, a2, gt_iff_lt]
    refine ⟨x.sub.length - (i + 1), by omega, i + 1, ?_⟩
    repeat' apply And.intro
    all_goals first | assumption | rfl | omega | (simp [eget, *]; done)
theorem big_eq (x : Ex) : (decide (50 < (nodes x : Int)) || decide (14 < (depth x : Int))) = big x := by
  unfold big
  congr 1
  · apply decide_eq_decide.2; omega
  · apply decide_eq_decide.2; omega
theorem w61 (x : Ex) (hx : nodes x ≤ 4611686018427387904) : Pure Tryz.prog 61 [.agg (exE x)] (.bool (big x)) := by
  refine Pure.of fun nx => AC.go mixed is61 (by simp) ?_
  have rl := ex_len x
  have rt := ex_take x
  have e := big_eq x
  simp -implicitDefEqProofs only [RR, RE, RP, RG, takeV, reduceEqDiff, ↓reduceIte, reduceCtorEq, reduceAdd, reduceLeDiff, reduceLT, Nat.reduceBEq, A61, A61p, rl, rt]
  refine (w89 _ x (Nat.le_refl _) hx).use fun n1 hn1 => ?_
  rcases dec_cases ((50 : Int) < (nodes x : Int)) with ⟨c1, d1⟩ | ⟨c1, d1⟩
  · simp only [d1, decide_true, Bool.true_or] at e
    simp -implicitDefEqProofs only [RR, RE, RP, RG, takeV, reduceEqDiff, ↓reduceIte, reduceCtorEq, reduceAdd, reduceLeDiff, reduceLT, Nat.reduceBEq, d1, ← e, R61]
  · simp only [d1, decide_false, Bool.false_or] at e
    simp -implicitDefEqProofs only [RR, RE, RP, RG, takeV, reduceEqDiff, ↓reduceIte, reduceCtorEq, reduceAdd, reduceLeDiff, reduceLT, Nat.reduceBEq, d1, e, R61]
theorem w99 : ∀ (n : Nat) (x : Ex), nodes x ≤ n → nodes x ≤ 4611686018427387904 → Pure Tryz.prog 99 [.agg (exE x)] (.int .i64 (nodes x)) := by
  intro n
  induction n with
  | zero => intro x hx; have := nodes_pos x; omega
  | succ n ih =>
    intro x hn hB
    refine Pure.of fun nx => AC.go mixed is99 (by simp) ?_
    have hnd := nodes_eq x
    have hlen := nodesL_len x.sub
    have lv := exs_len x.sub
    rw [exE_eq]
    simp -implicitDefEqProofs only [RR, RE, RP, RG, takeV, reduceEqDiff, ↓reduceIte, reduceCtorEq, reduceAdd, reduceLeDiff, reduceLT, Nat.reduceBEq, A99, A99p, lv]
    refine go_rounds (fun q st => ∃ i : Nat, q = x.sub.length - i ∧ i ≤ x.sub.length ∧ eget st.env 1 = some (.op nx 0) ∧ eget st.env 3 = some (.int .i64 (nodesL (x.sub.take i) + 1)) ∧ eget st.env 4 = some (.int .i64 i) ∧ hget st.heap nx = some (.cells [.int .u8 x.kind, .int .i64 x.width, .int .u64 x.bits, .str x.name, .int .u8 x.op, exsA x.sub]) ∧ st.dm = []) (n := x.sub.length) mixed
      ⟨0, rfl, by omega, by simp [eget], by simp [eget, nodesL], by simp [eget], by simp [hget], rfl⟩ ?_
    rintro q ⟨env, heap, nx', dm⟩ ⟨i, rfl, hi, g1, g3, g4, gh, hdm⟩
    simp only at g1 g3 g4 gh hdm
    subst hdm
    have f1 : IntKind.i64.wrap ((i : Int) + 1) = ((i + 1 : Nat) : Int) := by rw [w64 (by omega) (by omega)]; omega
    by_cases hc : (i : Int) < (x.sub.length : Int)
    case neg =>
      have ht : x.sub.take i = x.sub := List.take_of_length_le (by omega)
      rw [ht] at g3
      have e3 : (nodesL x.sub : Int) + 1 = (nodes x : Int) := by omega
      rw [e3] at g3
      simp -implicitDefEqProofs only [RR, RE, RP, RG, takeV, reduceEqDiff, ↓reduceIte, reduceCtorEq, reduceAdd, reduceLeDiff, reduceLT, Nat.reduceBEq, A99l0, A99l0p, g1, g3, g4, gh, lv, hc, R99]
    have hr := List.getElem?_eq_getElem (show i < x.sub.length by omega)
    generalize x.sub[i] = r at hr
    have ix := exs_idx hr
    have m1 := nodesL_mem hr
    have t1 := nodesL_take hr
    have t3 := nodesL_le (l := x.sub) (i + 1)
    have rl := ex_len r
    have rt := ex_take r
    simp -implicitDefEqProofs only [RR, RE, RP, RG, takeV, reduceEqDiff, ↓reduceIte, reduceCtorEq, reduceAdd, reduceLeDiff, reduceLT, Nat.reduceBEq, A99l0, A99l0p, g1, g3, g4, gh, lv, hc, ix, rl, rt]
    refine (ih r (by omega) (by omega)).use fun n1 hn1 => ?_
    have a1 : IntKind.i64.wrap ((nodesL (x.sub.take i) : Int) + 1 + (nodes r : Int)) = (nodesL (x.sub.take (i + 1)) : Int) + 1 := by rw [w64 (by omega) (by omega)]; omega
    simp -implicitDefEqProofs only [RR, RE, RP, RG, takeV, reduceEqDiff, ↓reduceIte, reduceCtorEq, reduceAdd, reduceLeDiff, reduceLT, Nat.reduceBEq, g1, g3, g4, f1, a1]
    refine ⟨x.sub.length - (i + 1), by omega, i + 1, ?_⟩
    repeat' apply And.intro
    all_goals first | assumption | rfl | omega | (simp [eget, *]; done)
theorem w100 : ∀ (n : Nat) (x : Ex), nodes x ≤ n → nodes x ≤ 4611686018427387904 → Pure Tryz.prog 100 [.agg (exE x)] (.int .i64 (depth x)) := by
  intro n
  induction n with
  | zero => intro x hx; have := nodes_pos x; omega
  | succ n ih =>
    intro x hn hB
    refine Pure.of fun nx => AC.go mixed is100 (by simp) ?_
    have hnd := nodes_eq x
    have hdd := depth_eq x
    have hlen := nodesL_len x.sub
    have hdl := depthL_nodes (l := x.sub) x.sub.length
    rw [List.take_length] at hdl
    have lv := exs_len x.sub
    rw [exE_eq]
    simp -implicitDefEqProofs only [RR, RE, RP, RG, takeV, reduceEqDiff, ↓reduceIte, reduceCtorEq, reduceAdd, reduceLeDiff, reduceLT, Nat.reduceBEq, A100, A100p, lv]
    refine go_rounds (fun q st => ∃ i : Nat, q = x.sub.length - i ∧ i ≤ x.sub.length ∧ eget st.env 1 = some (.op nx 0) ∧ eget st.env 3 = some (.int .i64 (depthL (x.sub.take i))) ∧ eget st.env 4 = some (.int .i64 i) ∧ hget st.heap nx = some (.cells [.int .u8 x.kind, .int .i64 x.width, .int .u64 x.bits, .str x.name, .int .u8 x.op, exsA x.sub]) ∧ st.dm = []) (n := x.sub.length) mixed
      ⟨0, rfl, by omega, by simp [eget], by simp [eget, depthL], by simp [eget], by simp [hget], rfl⟩ ?_
    rintro q ⟨env, heap, nx', dm⟩ ⟨i, rfl, hi, g1, g3, g4, gh, hdm⟩
    simp only at g1 g3 g4 gh hdm
    subst hdm
    have f1 : IntKind.i64.wrap ((i : Int) + 1) = ((i + 1 : Nat) : Int) := by rw [w64 (by omega) (by omega)]; omega
    by_cases hc : (i : Int) < (x.sub.length : Int)
    case neg =>
      have ht : x.sub.take i = x.sub := List.take_of_length_le (by omega)
      rw [ht] at g3
      have a2 : IntKind.i64.wrap ((depthL x.sub : Int) + 1) = (depth x : Int) := by rw [w64 (by omega) (by omega)]; omega
      simp -implicitDefEqProofs only [RR, RE, RP, RG, takeV, reduceEqDiff, ↓reduceIte, reduceCtorEq, reduceAdd, reduceLeDiff, reduceLT, Nat.reduceBEq, A100l0, A100l0p, g1, g3, g4, gh, lv, hc, a2, R100]
    have hr := List.getElem?_eq_getElem (show i < x.sub.length by omega)
    generalize x.sub[i] = r at hr
    have ix := exs_idx hr
    have m1 := nodesL_mem hr
    have t2 := depthL_take hr
    have rl := ex_len r
    have rt := ex_take r
    simp -implicitDefEqProofs only [RR, RE, RP, RG, takeV, reduceEqDiff, ↓reduceIte, reduceCtorEq, reduceAdd, reduceLeDiff, reduceLT, Nat.reduceBEq, A100l0, A100l0p, g1, g3, g4, gh, lv, hc, ix, rl, rt]
    refine (ih r (by omega) (by omega)).use fun n1 hn1 => ?_
    have a2 : (if (depth r : Int) > (depthL (x.sub.take i) : Int) then (depth r : Int) else (depthL (x.sub.take i) : Int)) = (depthL (x.sub.take (i + 1)) : Int) := by split <;> omega
    simp -implicitDefEqProofs only [RR, RE, RP, RG, takeV, reduceEqDiff, ↓reduceIte, reduceCtorEq, reduceAdd, reduceLeDiff, reduceLT, Nat.reduceBEq, g1, g3, g4, f1, a2, gt_iff_lt]
    refine ⟨x.sub.length - (i + 1), by omega, i + 1, ?_⟩
    repeat' apply And.intro
    all_goals first | assumption | rfl | omega | (simp [eget, *]; done)
theorem w78 (x : Ex) (hx : nodes x ≤ 4611686018427387904) : Pure Tryz.prog 78 [.agg (exE x)] (.bool (big x)) := by
  refine Pure.of fun nx => AC.go mixed is78 (by simp) ?_
  have rl := ex_len x
  have rt := ex_take x
  have e := big_eq x
  simp -implicitDefEqProofs only [RR, RE, RP, RG, takeV, reduceEqDiff, ↓reduceIte, reduceCtorEq, reduceAdd, reduceLeDiff, reduceLT, Nat.reduceBEq, A78, A78p, rl, rt]
  refine (w99 _ x (Nat.le_refl _) hx).use fun n1 hn1 => ?_
  rcases dec_cases ((50 : Int) < (nodes x : Int)) with ⟨c1, d1⟩ | ⟨c1, d1⟩
  · simp only [d1, decide_true, Bool.true_or] at e
    simp -implicitDefEqProofs only [RR, RE, RP, RG, takeV, reduceEqDiff, ↓reduceIte, reduceCtorEq, reduceAdd, reduceLeDiff, reduceLT, Nat.reduceBEq, d1, ← e, R78]
  · simp only [d1, decide_false, Bool.false_or] at e
    simp -implicitDefEqProofs only [RR, RE, RP, RG, takeV, reduceEqDiff, ↓reduceIte, reduceCtorEq, reduceAdd, reduceLeDiff, reduceLT, Nat.reduceBEq, d1, rl, rt]
    refine (w100 _ x (Nat.le_refl _) hx).use fun n2 hn2 => ?_
    simp -implicitDefEqProofs only [RR, RE, RP, RG, takeV, reduceEqDiff, ↓reduceIte, reduceCtorEq, reduceAdd, reduceLeDiff, reduceLT, Nat.reduceBEq, d1, e, R78]
end Go.Proofs.YtkfldbimfbacmaaGreatDoor
namespace Go.Proofs.YtkfldbimfbacmaaGreatDoor
open Go Go.Ab Go.Proofs
open Nat (reduceEqDiff reduceAdd reduceLeDiff reduceLT)
set_option linter.unusedVariables false
set_option linter.unusedSimpArgs false
set_option maxRecDepth 20000
theorem AC_keep {P : Program} {f : FuncId} {xs : List AV} {h : Heap} {nx : Nat} {r : AV} (hc : AC P f xs h nx fun y h' n' => y = .ret r ∧ ∀ b o, b < nx → hget h b = some o → hget h' b = some o) : AC P f xs h nx fun y h' n' => y = .ret r ∧ h' = h ∧ nx ≤ n' :=
  AC.live hc.1 fun hlive => hc.sub fun y h' n' hle ⟨hy, hk⟩ => ⟨h, fun b o hb => hk b o (hlive b o hb) hb, hy, rfl, hle⟩
theorem c_exs (l : List Ex) : cellsOf (exsA l) = [exsA l] := rfl
theorem p_exs (l : List Ex) : (exsA l).plain = true := rfl
theorem c_sms (l : List Sm) : cellsOf (smsA l) = [smsA l] := rfl
theorem p_sms (l : List Sm) : (smsA l).plain = true := rfl
theorem c_ars (l : List Ar) : cellsOf (arsA l) = [arsA l] := rfl
theorem p_ars (l : List Ar) : (arsA l).plain = true := rfl
theorem c_fus (l : List Fu) : cellsOf (fusA l) = [fusA l] := rfl
theorem p_fus (l : List Fu) : (fusA l).plain = true := rfl
theorem c_pms (l : List Pm) : cellsOf (pmsA l) = [pmsA l] := rfl
theorem p_pms (l : List Pm) : (pmsA l).plain = true := rfl
theorem any_not {α : Type} (g : α → Bool) : ∀ l : List α, (!(l.any fun x => !g x)) = l.all g
  | [] => rfl
  | x :: r => by
    simp only [List.any_cons, List.all_cons, Bool.not_or, Bool.not_not, any_not g r]
theorem sms_len (l : List Sm) : lenA (smsA l) = some l.length := by simp [smsA, len_map]
theorem sms_idx {l : List Sm} {n : Nat} {r : Sm} (h : l[n]? = some r) : idxA 7 (smsA l) (n : Int) = some (.fp (smE r)) := idxA_map h
theorem sm_len (x : Sm) : (smE x).length = 7 := by rw [smE_eq]; rfl
theorem sm_take (x : Sm) : (smE x).take 7 = smE x := List.take_of_length_le (by rw [sm_len]; omega)
theorem ars_len (l : List Ar) : lenA (arsA l) = some l.length := by simp [arsA, len_map]
theorem ars_idx {l : List Ar} {n : Nat} {r : Ar} (h : l[n]? = some r) : idxA 3 (arsA l) (n : Int) = some (.fp (arE r)) := idxA_map h
theorem ar_len (x : Ar) : (arE x).length = 3 := rfl
theorem ar_take (x : Ar) : (arE x).take 3 = arE x := rfl
theorem fus_len (l : List Fu) : lenA (fusA l) = some l.length := by simp [fusA, len_map]
theorem fus_idx {l : List Fu} {n : Nat} {r : Fu} (h : l[n]? = some r) : idxA 4 (fusA l) (n : Int) = some (.fp (fuE r)) := idxA_map h
theorem fu_len (x : Fu) : (fuE x).length = 4 := rfl
theorem fu_take (x : Fu) : (fuE x).take 4 = fuE x := rfl
theorem pms_len (l : List Pm) : lenA (pmsA l) = some l.length := by simp [pmsA, len_map]
theorem pms_idx {l : List Pm} {n : Nat} {r : Pm} (h : l[n]? = some r) : idxA 2 (pmsA l) (n : Int) = some (.fp (pmE r)) := idxA_map h
theorem pm_len (x : Pm) : (pmE x).length = 2 := rfl
theorem pm_take (x : Pm) : (pmE x).take 2 = pmE x := rfl
theorem w88 {c : FuncId} {caps : List AV} (p : Ex → Bool) (l : List Ex) (h : Heap) (nx : Nat) (hl : l.length ≤ 4611686018427387904) (hp : ∀ x ∈ l, ∀ n, nx ≤ n → AC Tryz.prog c (.agg (exE x) :: caps) h n fun y h' n' => y = .ret (.bool (p x)) ∧ h' = h ∧ n ≤ n') :
    AC Tryz.prog 88 [exsA l, .fn (.func c) caps] h nx fun y h' n' => y = .ret (.int .i64 (fi p l 0)) ∧ h' = h ∧ nx ≤ n' := by
  refine AC.go mixed is88 (by simp) ?_
  have lv := exs_len l
  simp -implicitDefEqProofs only [RR, RE, RP, RG, takeV, reduceEqDiff, ↓reduceIte, reduceCtorEq, reduceAdd, reduceLeDiff, reduceLT, Nat.reduceBEq, A88, A88p, lv]
  refine go_rounds (fun q st => ∃ i : Nat, q = l.length - i ∧ i ≤ l.length ∧ fi p (l.drop i) i = fi p l 0 ∧ eget st.env 0 = some (exsA l) ∧ eget st.env 1 = some (.fn (.func c) caps) ∧ eget st.env 7 = some (.int .i64 l.length) ∧ eget st.env 8 = some (.int .i64 i) ∧ st.heap = h ∧ nx ≤ st.nx ∧ st.dm = []) (n := l.length) mixed
    ⟨0, rfl, by omega, by simp, by simp [eget], by simp [eget], by simp [eget], by simp [eget], rfl, Nat.le_refl _, rfl⟩ ?_
  rintro q ⟨env, heap, nx', dm⟩ ⟨i, rfl, hi, hf, g0, g1, g7, g8, hh, hnx, hdm⟩
  simp only at g0 g1 g7 g8 hh hnx hdm
  subst hdm; subst hh
  by_cases hc : (i : Int) < (l.length : Int)
  case neg =>
    have : l.drop i = [] := List.drop_of_length_le (by omega)
    rw [this, fi] at hf
    rw [← hf]
    simp -implicitDefEqProofs only [RR, RE, RP, RG, takeV, reduceEqDiff, ↓reduceIte, reduceCtorEq, reduceAdd, reduceLeDiff, reduceLT, Nat.reduceBEq, A88l0, A88l0p, g7, g8, hc, R88]
    exact hnx
  have hr := List.getElem?_eq_getElem (show i < l.length by omega)
  generalize l[i] = r at hr
  rw [fi_step hr] at hf
  have ix := exs_idx hr
  have rl := ex_len r
  have rt := ex_take r
  have f1 : IntKind.i64.wrap ((i : Int) + 1) = ((i + 1 : Nat) : Int) := by rw [w64 (by omega) (by omega)]; omega
  simp -implicitDefEqProofs only [RR, RE, RP, RG, takeV, reduceEqDiff, ↓reduceIte, reduceCtorEq, reduceAdd, reduceLeDiff, reduceLT, Nat.reduceBEq, A88l0, A88l0p, g0, g1, g7, g8, hc, ix, rl, rt]
  refine (hp r (List.mem_of_getElem? hr) nx' hnx).mono ?_
  rintro y h' n1 ⟨rfl, rfl, hn1⟩
  cases hv : p r with
  | true =>
    simp only [hv, if_true] at hf
    rw [← hf]
    simp -implicitDefEqProofs only [RR, RE, RP, RG, takeV, reduceEqDiff, ↓reduceIte, reduceCtorEq, reduceAdd, reduceLeDiff, reduceLT, Nat.reduceBEq, g0, g1, g7, g8, R88]
    omega
  | false =>
    simp only [hv, Bool.false_eq_true, if_false] at hf
    simp -implicitDefEqProofs only [RR, RE, RP, RG, takeV, reduceEqDiff, ↓reduceIte, reduceCtorEq, reduceAdd, reduceLeDiff, reduceLT, Nat.reduceBEq, g0, g1, g7, g8, f1]
    refine ⟨l.length - (i + 1), by omega, i + 1, ?_⟩
    repeat' apply And.intro
    all_goals first | assumption | rfl | omega | (simp [eget, *]; done)
theorem w60 {c : FuncId} {caps : List AV} (p : Ex → Bool) (l : List Ex) (h : Heap) (nx : Nat) (hl : l.length ≤ 4611686018427387904) (hp : ∀ x ∈ l, ∀ n, nx ≤ n → AC Tryz.prog c (.agg (exE x) :: caps) h n fun y h' n' => y = .ret (.bool (p x)) ∧ h' = h ∧ n ≤ n') :
    AC Tryz.prog 60 [exsA l, .fn (.func c) caps] h nx fun y h' n' => y = .ret (.bool (l.any p)) ∧ h' = h ∧ nx ≤ n' := by
  refine AC.go mixed is60 (by simp) ?_
  simp -implicitDefEqProofs only [RR, RE, RP, RG, takeV, reduceEqDiff, ↓reduceIte, reduceCtorEq, reduceAdd, reduceLeDiff, reduceLT, Nat.reduceBEq, A60, A60p]
  refine (w88 p l h nx hl hp).mono ?_
  rintro y h' n1 ⟨rfl, rfl, hn1⟩
  have e := fi_any p l 0
  simp -implicitDefEqProofs only [RR, RE, RP, RG, takeV, reduceEqDiff, ↓reduceIte, reduceCtorEq, reduceAdd, reduceLeDiff, reduceLT, Nat.reduceBEq, e, R60]
  exact hn1
theorem w94 {c : FuncId} (g : Ex → Bool) (x : Ex) (b : Nat) (h : Heap) (nx : Nat) (hb : hget h b = some (.cells [.fn (.func c) []])) (hbn : b < nx) (hp : Pure Tryz.prog c [.agg (exE x)] (.bool (g x))) :
    AC Tryz.prog 94 [.agg (exE x), .op b 0] h nx fun y h' n' => y = .ret (.bool (!g x)) ∧ h' = h ∧ nx ≤ n' := by
  refine AC_keep (AC.go mixed is94 (by simp) ?_)
  have rl := ex_len x
  have rt := ex_take x
  have nb : (nx = b) = False := eq_false (by omega)
  simp -implicitDefEqProofs only [RR, RE, RP, RG, takeV, reduceEqDiff, ↓reduceIte, reduceCtorEq, reduceAdd, reduceLeDiff, reduceLT, Nat.reduceBEq, A94, A94p, rl, rt, hb, nb]
  refine hp.use fun n1 hn1 => ?_
  simp -implicitDefEqProofs only [RR, RE, RP, RG, takeV, reduceEqDiff, ↓reduceIte, reduceCtorEq, reduceAdd, reduceLeDiff, reduceLT, Nat.reduceBEq, unA, R94]
  intro k o hk ho
  rw [if_neg (by omega)]; exact ho
theorem w72 {c : FuncId} (g : Ex → Bool) (l : List Ex) (hl : l.length ≤ 4611686018427387904) (hp : ∀ x ∈ l, Pure Tryz.prog c [.agg (exE x)] (.bool (g x))) : Pure Tryz.prog 72 [exsA l, .fn (.func c) []] (.bool (l.all g)) := by
  refine Pure.of fun nx => AC.go mixed is72 (by simp) ?_
  simp -implicitDefEqProofs only [RR, RE, RP, RG, takeV, reduceEqDiff, ↓reduceIte, reduceCtorEq, reduceAdd, reduceLeDiff, reduceLT, Nat.reduceBEq, A72, A72p]
  refine (w60 (fun x => !g x) l _ _ hl fun x hx n hn => w94 g x nx _ n (by simp [hget]) (by omega) (hp x hx)).mono ?_
  rintro y h' n1 ⟨rfl, rfl, hn1⟩
  have e := any_not g l
  simp -implicitDefEqProofs only [RR, RE, RP, RG, takeV, reduceEqDiff, ↓reduceIte, reduceCtorEq, reduceAdd, reduceLeDiff, reduceLT, Nat.reduceBEq, unA, e, R72]
theorem w62 {c : FuncId} {caps : List AV} (p : Ar → Bool) (l : List Ar) (h : Heap) (nx : Nat) (hl : l.length ≤ 4611686018427387904) (hp : ∀ x ∈ l, ∀ n, nx ≤ n → AC Tryz.prog c (.agg (arE x) :: caps) h n fun y h' n' => y = .ret (.bool (p x)) ∧ h' = h ∧ n ≤ n') :
    AC Tryz.prog 62 [arsA l, .fn (.func c) caps] h nx fun y h' n' => y = .ret (.int .i64 (fi p l 0)) ∧ h' = h ∧ nx ≤ n' := by
  refine AC.go mixed is62 (by simp) ?_
  have lv := ars_len l
  simp -implicitDefEqProofs only [RR, RE, RP, RG, takeV, reduceEqDiff, ↓reduceIte, reduceCtorEq, reduceAdd, reduceLeDiff, reduceLT, Nat.reduceBEq, A62, A62p, lv]
  refine go_rounds (fun q st => ∃ i : Nat, q = l.length - i ∧ i ≤ l.length ∧ fi p (l.drop i) i = fi p l 0 ∧ eget st.env 0 = some (arsA l) ∧ eget st.env 1 = some (.fn (.func c) caps) ∧ eget st.env 7 = some (.int .i64 l.length) ∧ eget st.env 8 = some (.int .i64 i) ∧ st.heap = h ∧ nx ≤ st.nx ∧ st.dm = []) (n := l.length) mixed
    ⟨0, rfl, by omega, by simp, by simp [eget], by simp [eget], by simp [eget], by simp [eget], rfl, Nat.le_refl _, rfl⟩ ?_
  rintro q ⟨env, heap, nx', dm⟩ ⟨i, rfl, hi, hf, g0, g1, g7, g8, hh, hnx, hdm⟩
  simp only at g0 g1 g7 g8 hh hnx hdm
  subst hdm; subst hh
  by_cases hc : (i : Int) < (l.length : Int)
  case neg =>
    have : l.drop i = [] := List.drop_of_length_le (by omega)
    rw [this, fi] at hf
    rw [← hf]
    simp -implicitDefEqProofs only [RR, RE, RP, RG, takeV, reduceEqDiff, ↓reduceIte, reduceCtorEq, reduceAdd, reduceLeDiff, reduceLT, Nat.reduceBEq, A62l0, A62l0p, g7, g8, hc, R62]
    exact hnx
  have hr := List.getElem?_eq_getElem (show i < l.length by omega)
  generalize l[i] = r at hr
  rw [fi_step hr] at hf
  have ix := ars_idx hr
  have rl := ar_len r
  have rt := ar_take r
  have f1 : IntKind.i64.wrap ((i : Int) + 1) = ((i + 1 : Nat) : Int) := by rw [w64 (by omega) (by omega)]; omega
  simp -implicitDefEqProofs only [RR, RE, RP, RG, takeV, reduceEqDiff, ↓reduceIte, reduceCtorEq, reduceAdd, reduceLeDiff, reduceLT, Nat.reduceBEq, A62l0, A62l0p, g0, g1, g7, g8, hc, ix, rl, rt]
  refine (hp r (List.mem_of_getElem? hr) nx' hnx).mono ?_
  rintro y h' n1 ⟨rfl, rfl, hn1⟩
  cases hv : p r with
  | true =>
    simp only [hv, if_true] at hf
    rw [← hf]
    simp -implicitDefEqProofs only [RR, RE, RP, RG, takeV, reduceEqDiff, ↓reduceIte, reduceCtorEq, reduceAdd, reduceLeDiff, reduceLT, Nat.reduceBEq, g0, g1, g7, g8, R62]
    omega
  | false =>
    simp only [hv, Bool.false_eq_true, if_false] at hf
    simp -implicitDefEqProofs only [RR, RE, RP, RG, takeV, reduceEqDiff, ↓reduceIte, reduceCtorEq, reduceAdd, reduceLeDiff, reduceLT, Nat.reduceBEq, g0, g1, g7, g8, f1]
    refine ⟨l.length - (i + 1), by omega, i + 1, ?_⟩
    repeat' apply And.intro
    all_goals first | assumption | rfl | omega | (simp [eget, *]; done)
theorem w38 {c : FuncId} {caps : List AV} (p : Ar → Bool) (l : List Ar) (h : Heap) (nx : Nat) (hl : l.length ≤ 4611686018427387904) (hp : ∀ x ∈ l, ∀ n, nx ≤ n → AC Tryz.prog c (.agg (arE x) :: caps) h n fun y h' n' => y = .ret (.bool (p x)) ∧ h' = h ∧ n ≤ n') :
    AC Tryz.prog 38 [arsA l, .fn (.func c) caps] h nx fun y h' n' => y = .ret (.bool (l.any p)) ∧ h' = h ∧ nx ≤ n' := by
  refine AC.go mixed is38 (by simp) ?_
  simp -implicitDefEqProofs only [RR, RE, RP, RG, takeV, reduceEqDiff, ↓reduceIte, reduceCtorEq, reduceAdd, reduceLeDiff, reduceLT, Nat.reduceBEq, A38, A38p]
  refine (w62 p l h nx hl hp).mono ?_
  rintro y h' n1 ⟨rfl, rfl, hn1⟩
  have e := fi_any p l 0
  simp -implicitDefEqProofs only [RR, RE, RP, RG, takeV, reduceEqDiff, ↓reduceIte, reduceCtorEq, reduceAdd, reduceLeDiff, reduceLT, Nat.reduceBEq, e, R38]
  exact hn1
theorem w39 {c : FuncId} (g : Ar → Bool) (x : Ar) (b : Nat) (h : Heap) (nx : Nat) (hb : hget h b = some (.cells [.fn (.func c) []])) (hbn : b < nx) (hp : Pure Tryz.prog c [.agg (arE x)] (.bool (g x))) :
    AC Tryz.prog 39 [.agg (arE x), .op b 0] h nx fun y h' n' => y = .ret (.bool (!g x)) ∧ h' = h ∧ nx ≤ n' := by
  refine AC_keep (AC.go mixed is39 (by simp) ?_)
  have rl := ar_len x
  have rt := ar_take x
  have nb : (nx = b) = False := eq_false (by omega)
  simp -implicitDefEqProofs only [RR, RE, RP, RG, takeV, reduceEqDiff, ↓reduceIte, reduceCtorEq, reduceAdd, reduceLeDiff, reduceLT, Nat.reduceBEq, A39, A39p, rl, rt, hb, nb]
  refine hp.use fun n1 hn1 => ?_
  simp -implicitDefEqProofs only [RR, RE, RP, RG, takeV, reduceEqDiff, ↓reduceIte, reduceCtorEq, reduceAdd, reduceLeDiff, reduceLT, Nat.reduceBEq, unA, R39]
  intro k o hk ho
  rw [if_neg (by omega)]; exact ho
theorem w20 {c : FuncId} (g : Ar → Bool) (l : List Ar) (hl : l.length ≤ 4611686018427387904) (hp : ∀ x ∈ l, Pure Tryz.prog c [.agg (arE x)] (.bool (g x))) : Pure Tryz.prog 20 [arsA l, .fn (.func c) []] (.bool (l.all g)) := by
  refine Pure.of fun nx => AC.go mixed is20 (by simp) ?_
  simp -implicitDefEqProofs only [RR, RE, RP, RG, takeV, reduceEqDiff, ↓reduceIte, reduceCtorEq, reduceAdd, reduceLeDiff, reduceLT, Nat.reduceBEq, A20, A20p]
  refine (w38 (fun x => !g x) l _ _ hl fun x hx n hn => w39 g x nx _ n (by simp [hget]) (by omega) (hp x hx)).mono ?_
  rintro y h' n1 ⟨rfl, rfl, hn1⟩
  have e := any_not g l
  simp -implicitDefEqProofs only [RR, RE, RP, RG, takeV, reduceEqDiff, ↓reduceIte, reduceCtorEq, reduceAdd, reduceLeDiff, reduceLT, Nat.reduceBEq, unA, e, R20]
theorem w67 {c : FuncId} {caps : List AV} (p : Fu → Bool) (l : List Fu) (h : Heap) (nx : Nat) (hl : l.length ≤ 4611686018427387904) (hp : ∀ x ∈ l, ∀ n, nx ≤ n → AC Tryz.prog c (.agg (fuE x) :: caps) h n fun y h' n' => y = .ret (.bool (p x)) ∧ h' = h ∧ n ≤ n') :
    AC Tryz.prog 67 [fusA l, .fn (.func c) caps] h nx fun y h' n' => y = .ret (.int .i64 (fi p l 0)) ∧ h' = h ∧ nx ≤ n' := by
  refine AC.go mixed is67 (by simp) ?_
  have lv := fus_len l
  simp -implicitDefEqProofs only [RR, RE, RP, RG, takeV, reduceEqDiff, ↓reduceIte, reduceCtorEq, reduceAdd, reduceLeDiff, reduceLT, Nat.reduceBEq, A67, A67p, lv]
  refine go_rounds (fun q st => ∃ i : Nat, q = l.length - i ∧ i ≤ l.length ∧ fi p (l.drop i) i = fi p l 0 ∧ eget st.env 0 = some (fusA l) ∧ eget st.env 1 = some (.fn (.func c) caps) ∧ eget st.env 7 = some (.int .i64 l.length) ∧ eget st.env 8 = some (.int .i64 i) ∧ st.heap = h ∧ nx ≤ st.nx ∧ st.dm = []) (n := l.length) mixed
    ⟨0, rfl, by omega, by simp, by simp [eget], by simp [eget], by simp [eget], by simp [eget], rfl, Nat.le_refl _, rfl⟩ ?_
  rintro q ⟨env, heap, nx', dm⟩ ⟨i, rfl, hi, hf, g0, g1, g7, g8, hh, hnx, hdm⟩
  simp only at g0 g1 g7 g8 hh hnx hdm
  subst hdm; subst hh
  by_cases hc : (i : Int) < (l.length : Int)
  case neg =>
    have : l.drop i = [] := List.drop_of_length_le (by omega)
    rw [this, fi] at hf
    rw [← hf]
    simp -implicitDefEqProofs only [RR, RE, RP, RG, takeV, reduceEqDiff, ↓reduceIte, reduceCtorEq, reduceAdd, reduceLeDiff, reduceLT, Nat.reduceBEq, A67l0, A67l0p, g7, g8, hc, R67]
    exact hnx
  have hr := List.getElem?_eq_getElem (show i < l.length by omega)
  generalize l[i] = r at hr
  rw [fi_step hr] at hf
  have ix := fus_idx hr
  have rl := fu_len r
  have rt := fu_take r
  have f1 : IntKind.i64.wrap ((i : Int) + 1) = ((i + 1 : Nat) : Int) := by rw [w64 (by omega) (by omega)]; omega
  simp -implicitDefEqProofs only [RR, RE, RP, RG, takeV, reduceEqDiff, ↓reduceIte, reduceCtorEq, reduceAdd, reduceLeDiff, reduceLT, Nat.reduceBEq, A67l0, A67l0p, g0, g1, g7, g8, hc, ix, rl, rt]
  refine (hp r (List.mem_of_getElem? hr) nx' hnx).mono ?_
  rintro y h' n1 ⟨rfl, rfl, hn1⟩
  cases hv : p r with
  | true =>
    simp only [hv, if_true] at hf
    rw [← hf]
    simp -implicitDefEqProofs only [RR, RE, RP, RG, takeV, reduceEqDiff, ↓reduceIte, reduceCtorEq, reduceAdd, reduceLeDiff, reduceLT, Nat.reduceBEq, g0, g1, g7, g8, R67]
    omega
  | false =>
    simp only [hv, Bool.false_eq_true, if_false] at hf
    simp -implicitDefEqProofs only [RR, RE, RP, RG, takeV, reduceEqDiff, ↓reduceIte, reduceCtorEq, reduceAdd, reduceLeDiff, reduceLT, Nat.reduceBEq, g0, g1, g7, g8, f1]
    refine ⟨l.length - (i + 1), by omega, i + 1, ?_⟩
    repeat' apply And.intro
    all_goals first | assumption | rfl | omega | (simp [eget, *]; done)
theorem w42 {c : FuncId} {caps : List AV} (p : Fu → Bool) (l : List Fu) (h : Heap) (nx : Nat) (hl : l.length ≤ 4611686018427387904) (hp : ∀ x ∈ l, ∀ n, nx ≤ n → AC Tryz.prog c (.agg (fuE x) :: caps) h n fun y h' n' => y = .ret (.bool (p x)) ∧ h' = h ∧ n ≤ n') :
    AC Tryz.prog 42 [fusA l, .fn (.func c) caps] h nx fun y h' n' => y = .ret (.bool (l.any p)) ∧ h' = h ∧ nx ≤ n' := by
  refine AC.go mixed is42 (by simp) ?_
  simp -implicitDefEqProofs only [RR, RE, RP, RG, takeV, reduceEqDiff, ↓reduceIte, reduceCtorEq, reduceAdd, reduceLeDiff, reduceLT, Nat.reduceBEq, A42, A42p]
  refine (w67 p l h nx hl hp).mono ?_
  rintro y h' n1 ⟨rfl, rfl, hn1⟩
  have e := fi_any p l 0
  simp -implicitDefEqProofs only [RR, RE, RP, RG, takeV, reduceEqDiff, ↓reduceIte, reduceCtorEq, reduceAdd, reduceLeDiff, reduceLT, Nat.reduceBEq, e, R42]
  exact hn1
theorem w43 {c : FuncId} (g : Fu → Bool) (x : Fu) (b : Nat) (h : Heap) (nx : Nat) (hb : hget h b = some (.cells [.fn (.func c) []])) (hbn : b < nx) (hp : Pure Tryz.prog c [.agg (fuE x)] (.bool (g x))) :
    AC Tryz.prog 43 [.agg (fuE x), .op b 0] h nx fun y h' n' => y = .ret (.bool (!g x)) ∧ h' = h ∧ nx ≤ n' := by
  refine AC_keep (AC.go mixed is43 (by simp) ?_)
  have rl := fu_len x
  have rt := fu_take x
  have nb : (nx = b) = False := eq_false (by omega)
  simp -implicitDefEqProofs only [RR, RE, RP, RG, takeV, reduceEqDiff, ↓reduceIte, reduceCtorEq, reduceAdd, reduceLeDiff, reduceLT, Nat.reduceBEq, A43, A43p, rl, rt, hb, nb]
  refine hp.use fun n1 hn1 => ?_
  simp -implicitDefEqProofs only [RR, RE, RP, RG, takeV, reduceEqDiff, ↓reduceIte, reduceCtorEq, reduceAdd, reduceLeDiff, reduceLT, Nat.reduceBEq, unA, R43]
  intro k o hk ho
  rw [if_neg (by omega)]; exact ho
theorem w22 {c : FuncId} (g : Fu → Bool) (l : List Fu) (hl : l.length ≤ 4611686018427387904) (hp : ∀ x ∈ l, Pure Tryz.prog c [.agg (fuE x)] (.bool (g x))) : Pure Tryz.prog 22 [fusA l, .fn (.func c) []] (.bool (l.all g)) := by
  refine Pure.of fun nx => AC.go mixed is22 (by simp) ?_
  simp -implicitDefEqProofs only [RR, RE, RP, RG, takeV, reduceEqDiff, ↓reduceIte, reduceCtorEq, reduceAdd, reduceLeDiff, reduceLT, Nat.reduceBEq, A22, A22p]
  refine (w42 (fun x => !g x) l _ _ hl fun x hx n hn => w43 g x nx _ n (by simp [hget]) (by omega) (hp x hx)).mono ?_
  rintro y h' n1 ⟨rfl, rfl, hn1⟩
  have e := any_not g l
  simp -implicitDefEqProofs only [RR, RE, RP, RG, takeV, reduceEqDiff, ↓reduceIte, reduceCtorEq, reduceAdd, reduceLeDiff, reduceLT, Nat.reduceBEq, unA, e, R22]
theorem w92 {c : FuncId} {caps : List AV} (p : Pm → Bool) (l : List Pm) (h : Heap) (nx : Nat) (hl : l.length ≤ 4611686018427387904) (hp : ∀ x ∈ l, ∀ n, nx ≤ n → AC Tryz.prog c (.agg (pmE x) :: caps) h n fun y h' n' => y = .ret (.bool (p x)) ∧ h' = h ∧ n ≤ n') :
    AC Tryz.prog 92 [pmsA l, .fn (.func c) caps] h nx fun y h' n' => y = .ret (.int .i64 (fi p l 0)) ∧ h' = h ∧ nx ≤ n' := by
  refine AC.go mixed is92 (by simp) ?_
  have lv := pms_len l
  simp -implicitDefEqProofs only [RR, RE, RP, RG, takeV, reduceEqDiff, ↓reduceIte, reduceCtorEq, reduceAdd, reduceLeDiff, reduceLT, Nat.reduceBEq, A92, A92p, lv]
  refine go_rounds (fun q st => ∃ i : Nat, q = l.length - i ∧ i ≤ l.length ∧ fi p (l.drop i) i = fi p l 0 ∧ eget st.env 0 = some (pmsA l) ∧ eget st.env 1 = some (.fn (.func c) caps) ∧ eget st.env 7 = some (.int .i64 l.length) ∧ eget st.env 8 = some (.int .i64 i) ∧ st.heap = h ∧ nx ≤ st.nx ∧ st.dm = []) (n := l.length) mixed
    ⟨0, rfl, by omega, by simp, by simp [eget], by simp [eget], by simp [eget], by simp [eget], rfl, Nat.le_refl _, rfl⟩ ?_
  rintro q ⟨env, heap, nx', dm⟩ ⟨i, rfl, hi, hf, g0, g1, g7, g8, hh, hnx, hdm⟩
  simp only at g0 g1 g7 g8 hh hnx hdm
  subst hdm; subst hh
  by_cases hc : (i : Int) < (l.length : Int)
  case neg =>
    have : l.drop i = [] := List.drop_of_length_le (by omega)
    rw [this, fi] at hf
    rw [← hf]
    simp -implicitDefEqProofs only [RR, RE, RP, RG, takeV, reduceEqDiff, ↓reduceIte, reduceCtorEq, reduceAdd, reduceLeDiff, reduceLT, Nat.reduceBEq, A92l0, A92l0p, g7, g8, hc, R92]
    exact hnx
  have hr := List.getElem?_eq_getElem (show i < l.length by omega)
  generalize l[i] = r at hr
  rw [fi_step hr] at hf
  have ix := pms_idx hr
  have rl := pm_len r
  have rt := pm_take r
  have f1 : IntKind.i64.wrap ((i : Int) + 1) = ((i + 1 : Nat) : Int) := by rw [w64 (by omega) (by omega)]; omega
  simp -implicitDefEqProofs only [RR, RE, RP, RG, takeV, reduceEqDiff, ↓reduceIte, reduceCtorEq, reduceAdd, reduceLeDiff, reduceLT, Nat.reduceBEq, A92l0, A92l0p, g0, g1, g7, g8, hc, ix, rl, rt]
  refine (hp r (List.mem_of_getElem? hr) nx' hnx).mono ?_
  rintro y h' n1 ⟨rfl, rfl, hn1⟩
  cases hv : p r with
  | true =>
    simp only [hv, if_true] at hf
    rw [← hf]
    simp -implicitDefEqProofs only [RR, RE, RP, RG, takeV, reduceEqDiff, ↓reduceIte, reduceCtorEq, reduceAdd, reduceLeDiff, reduceLT, Nat.reduceBEq, g0, g1, g7, g8, R92]
    omega
  | false =>
    simp only [hv, Bool.false_eq_true, if_false] at hf
    simp -implicitDefEqProofs only [RR, RE, RP, RG, takeV, reduceEqDiff, ↓reduceIte, reduceCtorEq, reduceAdd, reduceLeDiff, reduceLT, Nat.reduceBEq, g0, g1, g7, g8, f1]
    refine ⟨l.length - (i + 1), by omega, i + 1, ?_⟩
    repeat' apply And.intro
    all_goals first | assumption | rfl | omega | (simp [eget, *]; done)
theorem w68 {c : FuncId} {caps : List AV} (p : Pm → Bool) (l : List Pm) (h : Heap) (nx : Nat) (hl : l.length ≤ 4611686018427387904) (hp : ∀ x ∈ l, ∀ n, nx ≤ n → AC Tryz.prog c (.agg (pmE x) :: caps) h n fun y h' n' => y = .ret (.bool (p x)) ∧ h' = h ∧ n ≤ n') :
    AC Tryz.prog 68 [pmsA l, .fn (.func c) caps] h nx fun y h' n' => y = .ret (.bool (l.any p)) ∧ h' = h ∧ nx ≤ n' := by
  refine AC.go mixed is68 (by simp) ?_
  simp -implicitDefEqProofs only [RR, RE, RP, RG, takeV, reduceEqDiff, ↓reduceIte, reduceCtorEq, reduceAdd, reduceLeDiff, reduceLT, Nat.reduceBEq, A68, A68p]
  refine (w92 p l h nx hl hp).mono ?_
  rintro y h' n1 ⟨rfl, rfl, hn1⟩
  have e := fi_any p l 0
  simp -implicitDefEqProofs only [RR, RE, RP, RG, takeV, reduceEqDiff, ↓reduceIte, reduceCtorEq, reduceAdd, reduceLeDiff, reduceLT, Nat.reduceBEq, e, R68]
  exact hn1
theorem w69 {c : FuncId} (g : Pm → Bool) (x : Pm) (b : Nat) (h : Heap) (nx : Nat) (hb : hget h b = some (.cells [.fn (.func c) []])) (hbn : b < nx) (hp : Pure Tryz.prog c [.agg (pmE x)] (.bool (g x))) :
    AC Tryz.prog 69 [.agg (pmE x), .op b 0] h nx fun y h' n' => y = .ret (.bool (!g x)) ∧ h' = h ∧ nx ≤ n' := by
  refine AC_keep (AC.go mixed is69 (by simp) ?_)
  have rl := pm_len x
  have rt := pm_take x
  have nb : (nx = b) = False := eq_false (by omega)
  simp -implicitDefEqProofs only [RR, RE, RP, RG, takeV, reduceEqDiff, ↓reduceIte, reduceCtorEq, reduceAdd, reduceLeDiff, reduceLT, Nat.reduceBEq, A69, A69p, rl, rt, hb, nb]
  refine hp.use fun n1 hn1 => ?_
  simp -implicitDefEqProofs only [RR, RE, RP, RG, takeV, reduceEqDiff, ↓reduceIte, reduceCtorEq, reduceAdd, reduceLeDiff, reduceLT, Nat.reduceBEq, unA, R69]
  intro k o hk ho
  rw [if_neg (by omega)]; exact ho
theorem w44 {c : FuncId} (g : Pm → Bool) (l : List Pm) (hl : l.length ≤ 4611686018427387904) (hp : ∀ x ∈ l, Pure Tryz.prog c [.agg (pmE x)] (.bool (g x))) : Pure Tryz.prog 44 [pmsA l, .fn (.func c) []] (.bool (l.all g)) := by
  refine Pure.of fun nx => AC.go mixed is44 (by simp) ?_
  simp -implicitDefEqProofs only [RR, RE, RP, RG, takeV, reduceEqDiff, ↓reduceIte, reduceCtorEq, reduceAdd, reduceLeDiff, reduceLT, Nat.reduceBEq, A44, A44p]
  refine (w68 (fun x => !g x) l _ _ hl fun x hx n hn => w69 g x nx _ n (by simp [hget]) (by omega) (hp x hx)).mono ?_
  rintro y h' n1 ⟨rfl, rfl, hn1⟩
  have e := any_not g l
  simp -implicitDefEqProofs only [RR, RE, RP, RG, takeV, reduceEqDiff, ↓reduceIte, reduceCtorEq, reduceAdd, reduceLeDiff, reduceLT, Nat.reduceBEq, unA, e, R44]
theorem w93 {c : FuncId} {caps : List AV} (p : Sm → Bool) (l : List Sm) (h : Heap) (nx : Nat) (hl : l.length ≤ 4611686018427387904) (hp : ∀ x ∈ l, ∀ n, nx ≤ n → AC Tryz.prog c (.agg (smE x) :: caps) h n fun y h' n' => y = .ret (.bool (p x)) ∧ h' = h ∧ n ≤ n') :
    AC Tryz.prog 93 [smsA l, .fn (.func c) caps] h nx fun y h' n' => y = .ret (.int .i64 (fi p l 0)) ∧ h' = h ∧ nx ≤ n' := by
  refine AC.go mixed is93 (by simp) ?_
  have lv := sms_len l
  simp -implicitDefEqProofs only [RR, RE, RP, RG, takeV, reduceEqDiff, ↓reduceIte, reduceCtorEq, reduceAdd, reduceLeDiff, reduceLT, Nat.reduceBEq, A93, A93p, lv]
  refine go_rounds (fun q st => ∃ i : Nat, q = l.length - i ∧ i ≤ l.length ∧ fi p (l.drop i) i = fi p l 0 ∧ eget st.env 0 = some (smsA l) ∧ eget st.env 1 = some (.fn (.func c) caps) ∧ eget st.env 7 = some (.int .i64 l.length) ∧ eget st.env 8 = some (.int .i64 i) ∧ st.heap = h ∧ nx ≤ st.nx ∧ st.dm = []) (n := l.length) mixed
    ⟨0, rfl, by omega, by simp, by simp [eget], by simp [eget], by simp [eget], by simp [eget], rfl, Nat.le_refl _, rfl⟩ ?_
  rintro q ⟨env, heap, nx', dm⟩ ⟨i, rfl, hi, hf, g0, g1, g7, g8, hh, hnx, hdm⟩
  simp only at g0 g1 g7 g8 hh hnx hdm
  subst hdm; subst hh
  by_cases hc : (i : Int) < (l.length : Int)
  case neg =>
    have : l.drop i = [] := List.drop_of_length_le (by omega)
    rw [this, fi] at hf
    rw [← hf]
    simp -implicitDefEqProofs only [RR, RE, RP, RG, takeV, reduceEqDiff, ↓reduceIte, reduceCtorEq, reduceAdd, reduceLeDiff, reduceLT, Nat.reduceBEq, A93l0, A93l0p, g7, g8, hc, R93]
    exact hnx
  have hr := List.getElem?_eq_getElem (show i < l.length by omega)
  generalize l[i] = r at hr
  rw [fi_step hr] at hf
  have ix := sms_idx hr
  have rl := sm_len r
  have rt := sm_take r
  have f1 : IntKind.i64.wrap ((i : Int) + 1) = ((i + 1 : Nat) : Int) := by rw [w64 (by omega) (by omega)]; omega
  simp -implicitDefEqProofs only [RR, RE, RP, RG, takeV, reduceEqDiff, ↓reduceIte, reduceCtorEq, reduceAdd, reduceLeDiff, reduceLT, Nat.reduceBEq, A93l0, A93l0p, g0, g1, g7, g8, hc, ix, rl, rt]
  refine (hp r (List.mem_of_getElem? hr) nx' hnx).mono ?_
  rintro y h' n1 ⟨rfl, rfl, hn1⟩
  cases hv : p r with
  | true =>
    simp only [hv, if_true] at hf
    rw [← hf]
    simp -implicitDefEqProofs only [RR, RE, RP, RG, takeV, reduceEqDiff, ↓reduceIte, reduceCtorEq, reduceAdd, reduceLeDiff, reduceLT, Nat.reduceBEq, g0, g1, g7, g8, R93]
    omega
  | false =>
    simp only [hv, Bool.false_eq_true, if_false] at hf
    simp -implicitDefEqProofs only [RR, RE, RP, RG, takeV, reduceEqDiff, ↓reduceIte, reduceCtorEq, reduceAdd, reduceLeDiff, reduceLT, Nat.reduceBEq, g0, g1, g7, g8, f1]
    refine ⟨l.length - (i + 1), by omega, i + 1, ?_⟩
    repeat' apply And.intro
    all_goals first | assumption | rfl | omega | (simp [eget, *]; done)
theorem w70 {c : FuncId} {caps : List AV} (p : Sm → Bool) (l : List Sm) (h : Heap) (nx : Nat) (hl : l.length ≤ 4611686018427387904) (hp : ∀ x ∈ l, ∀ n, nx ≤ n → AC Tryz.prog c (.agg (smE x) :: caps) h n fun y h' n' => y = .ret (.bool (p x)) ∧ h' = h ∧ n ≤ n') :
    AC Tryz.prog 70 [smsA l, .fn (.func c) caps] h nx fun y h' n' => y = .ret (.bool (l.any p)) ∧ h' = h ∧ nx ≤ n' := by
  refine AC.go mixed is70 (by simp) ?_
  simp -implicitDefEqProofs only [RR, RE, RP, RG, takeV, reduceEqDiff, ↓reduceIte, reduceCtorEq, reduceAdd, reduceLeDiff, reduceLT, Nat.reduceBEq, A70, A70p]
  refine (w93 p l h nx hl hp).mono ?_
  rintro y h' n1 ⟨rfl, rfl, hn1⟩
  have e := fi_any p l 0
  simp -implicitDefEqProofs only [RR, RE, RP, RG, takeV, reduceEqDiff, ↓reduceIte, reduceCtorEq, reduceAdd, reduceLeDiff, reduceLT, Nat.reduceBEq, e, R70]
  exact hn1
theorem w71 {c : FuncId} (g : Sm → Bool) (x : Sm) (b : Nat) (h : Heap) (nx : Nat) (hb : hget h b = some (.cells [.fn (.func c) []])) (hbn : b < nx) (hp : Pure Tryz.prog c [.agg (smE x)] (.bool (g x))) :
    AC Tryz.prog 71 [.agg (smE x), .op b 0] h nx fun y h' n' => y = .ret (.bool (!g x)) ∧ h' = h ∧ nx ≤ n' := by
  refine AC_keep (AC.go mixed is71 (by simp) ?_)
  have rl := sm_len x
  have rt := sm_take x
  have nb : (nx = b) = False := eq_false (by omega)
  simp -implicitDefEqProofs only [RR, RE, RP, RG, takeV, reduceEqDiff, ↓reduceIte, reduceCtorEq, reduceAdd, reduceLeDiff, reduceLT, Nat.reduceBEq, A71, A71p, rl, rt, hb, nb]
  refine hp.use fun n1 hn1 => ?_
  simp -implicitDefEqProofs only [RR, RE, RP, RG, takeV, reduceEqDiff, ↓reduceIte, reduceCtorEq, reduceAdd, reduceLeDiff, reduceLT, Nat.reduceBEq, unA, R71]
  intro k o hk ho
  rw [if_neg (by omega)]; exact ho
theorem w46 {c : FuncId} (g : Sm → Bool) (l : List Sm) (hl : l.length ≤ 4611686018427387904) (hp : ∀ x ∈ l, Pure Tryz.prog c [.agg (smE x)] (.bool (g x))) : Pure Tryz.prog 46 [smsA l, .fn (.func c) []] (.bool (l.all g)) := by
  refine Pure.of fun nx => AC.go mixed is46 (by simp) ?_
  simp -implicitDefEqProofs only [RR, RE, RP, RG, takeV, reduceEqDiff, ↓reduceIte, reduceCtorEq, reduceAdd, reduceLeDiff, reduceLT, Nat.reduceBEq, A46, A46p]
  refine (w70 (fun x => !g x) l _ _ hl fun x hx n hn => w71 g x nx _ n (by simp [hget]) (by omega) (hp x hx)).mono ?_
  rintro y h' n1 ⟨rfl, rfl, hn1⟩
  have e := any_not g l
  simp -implicitDefEqProofs only [RR, RE, RP, RG, takeV, reduceEqDiff, ↓reduceIte, reduceCtorEq, reduceAdd, reduceLeDiff, reduceLT, Nat.reduceBEq, unA, e, R46]
end Go.Proofs.YtkfldbimfbacmaaGreatDoor
