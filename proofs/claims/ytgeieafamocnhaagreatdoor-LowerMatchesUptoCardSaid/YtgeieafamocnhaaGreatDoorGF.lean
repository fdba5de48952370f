/- Codes, part 3. -/
import Derived.Test.YtgeieafamocnhaaGreatDoorGE
namespace Go.Proofs.YtgeieafamocnhaaGreatDoor
open List renaming getElem?_eq_getElem → G7, mem_of_getElem? → G8, getElem?_eq_some_iff → G9, take_of_length_le → Ha, drop_of_length_le → Hb, length_cons → Hc, length_nil → Hd, length_append → Hj, mem_append → Hm, take_length → Ht, cons_append → HE
open Bool renaming false_eq_true → HQ, and_eq_true → HR, not_eq_true → HV
open Nat renaming le_refl → H4
open Int renaming toNat_natCast → If, natCast_nonneg → Ih
set_option maxHeartbeats 64000000
open Go Go.Ab Go.Sa Go.Proofs
open Nat renaming reduceEqDiff → zp, reduceAdd → zq, reduceLeDiff → zr, reduceLT → zs, reduceBEq → zt
set_option maxRecDepth 100000
def pJ:CX (.seq (.seq (r [m 10 7,fa 11 4 4,l 12 11,s 13 (.len (t 12)),s 14 (.bin .lss (t 10) (t 13))]) (.cond (t 14) .skip (.exit 0))) (.seq (.block 1 (r [m 17 6,m 18 0,fa 19 4 4,l 20 19,m 21 7,s 22 (.idxA 6 (t 20) (t 21)),s 23 (.load 6 true (t 22)),c 24 48 [(t 18),(t 23)],s 25 (.buildF [(.int .i64 0)] 1 [(0,(t 24))]),s 26 (.app 3 1 8 (t 17) (t 25)),m 6 26])) (r [m 15 7,s 16 (.bin .add (t 15) (i 1)),m 7 16]))):=⟨_,by simp only [QQ];rfl⟩
def sU:ak:=pJ.1
def A7:CX (.seq (r [s 4 (.box (t 1))]) (.seq (r [s 6 (.move ns)]) (.seq (.seq (r [s 7 (.move (i 0))]) (.block 0 (.loop sU))) (.seq (.seq (r [m 27 0,s 28 (.nilck (t 27)),fa 29 4 28,l 30 29,s 31 (.bin .neq (t 30) (i 0))]) (.cond (t 31) .ret .skip)) (.seq (.dregion [⟨0,m 32 0,[]⟩,⟨1,s 33 (.nilck (t 32)),[]⟩,⟨2,fa 34 0 33,[]⟩,⟨3,fa 35 1 34,[]⟩,⟨4,l 36 35,[]⟩,⟨5,m 37 0,[]⟩,⟨6,s 38 (.nilck (t 37)),[]⟩,⟨7,fa 39 2 38,[]⟩,⟨8,l 40 39,[]⟩,⟨9,s 41 (.idxA 4 (t 36) (t 40)),[]⟩,⟨10,fa 42 2 41,[]⟩,⟨11,l 43 42,[]⟩,⟨12,m 8 43,[]⟩]) (.seq (.seq (r [fa 44 0 4,l 45 44]) (.block 2 (.seq (r [s 47 (.bin .eql (t 45) (.const (.int .u8 1))),m 46 47]) (.cond (t 46) (.seq (r [m 48 0,fa 49 1 4,l 50 49,fa 51 3 4,l 52 51,s 53 (.build [(.str []),(.int .i64 0)] [(0,1,(t 50)),(1,1,(t 52))]),c 54 101 [(t 48),(t 53)]]) (.dregion [⟨0,m 55 0,[]⟩,⟨1,m 56 6,[]⟩,⟨2,s 57 (.idxA 1 (t 56) (i 0)),[]⟩,⟨3,l 58 57,[]⟩,⟨4,fa 59 3 4,[]⟩,⟨5,l 60 59,[]⟩,⟨6,s 61 (.bin .neq (t 58) (t 60)),[]⟩,⟨7,c 62 99 [(t 55),(t 61),(i 14)],[]⟩])) (.seq (r [s 64 (.bin .eql (t 45) (.const (.int .u8 2))),m 63 64]) (.cond (t 63) (.seq (r [m 65 0,m 66 0,fa 67 1 4,l 68 67,c 69 100 [(t 66),(t 68)],s 70 (.bin .eql (t 69) (i 0)),c 71 99 [(t 65),(t 70),(i 16)]]) (.dregion [⟨0,m 72 0,[]⟩,⟨1,m 73 6,[]⟩,⟨2,s 74 (.idxA 1 (t 73) (i 0)),[]⟩,⟨3,l 75 74,[]⟩,⟨4,m 76 0,[]⟩,⟨5,fa 77 1 4,[]⟩,⟨6,l 78 77,[]⟩,⟨7,c 79 100 [(t 76),(t 78)],[0,1,2,3]⟩,⟨8,s 80 (.bin .neq (t 75) (t 79)),[]⟩,⟨9,c 81 99 [(t 72),(t 80),(i 14)],[]⟩])) (.seq (r [s 83 (.bin .eql (t 45) (.const (.int .u8 3))),m 82 83]) (.cond (t 82) (.seq (.dregion [⟨0,m 84 0,[]⟩,⟨1,s 85 (.nilck (t 84)),[]⟩,⟨2,fa 86 0 85,[]⟩,⟨3,s 87 (.load 2 true (t 86)),[]⟩,⟨4,fa 88 1 4,[]⟩,⟨5,l 89 88,[]⟩,⟨6,c 90 53 [(t 87),(t 89)],[]⟩,⟨7,m 9 90,[]⟩]) (.seq (r [m 91 0,m 92 9,s 93 (.bin .lss (t 92) (i 0)),c 94 99 [(t 91),(t 93),(i 16)]]) (.dregion [⟨0,m 95 0,[]⟩,⟨1,m 96 9,[]⟩,⟨2,s 97 (.bin .geq (t 96) (i 0)),[]⟩,⟨3,m 98 97,[]⟩,⟨4,gt 99 98 (.move (t 6)),[]⟩,⟨5,gt 100 98 (.idxA 1 (t 99) (i 0)),[]⟩,⟨6,tl 101 98 100,[]⟩,⟨7,gt 102 98 (.bin .neq (t 101) (i 32)),[]⟩,⟨8,gt 103 98 (.move (t 102)),[]⟩,⟨9,gf 104 103 (.move (t 6)),[]⟩,⟨10,gf 105 103 (.idxA 1 (t 104) (i 1)),[]⟩,⟨11,fl 106 103 105,[]⟩,⟨12,gf 107 103 (.move (t 0)),[]⟩,⟨13,gf 108 103 (.nilck (t 107)),[]⟩,⟨14,fb 109 103 0 108,[]⟩,⟨15,fb 110 103 0 109,[]⟩,⟨16,fl 111 103 110,[]⟩,⟨17,gf 112 103 (.move (t 9)),[]⟩,⟨18,gf 113 103 (.mx (t 112) (i 0)),[]⟩,⟨19,gf 114 103 (.idxA 3 (t 111) (t 113)),[]⟩,⟨20,fb 115 103 1 114,[]⟩,⟨21,fl 116 103 115,[]⟩,⟨22,gf 117 103 (.bin .neq (t 106) (t 116)),[]⟩,⟨23,gt 118 98 (.pick (t 103) b1 (t 117)),[]⟩,⟨24,s 119 (.pick (t 98) (t 118) b0),[]⟩,⟨25,c 120 99 [(t 95),(t 119),(i 14)],[]⟩]))) (.seq (.seq (r [s 122 (.bin .eql (t 45) (.const (.int .u8 4))),m 121 122]) (.cond (t 121) .skip (r [s 123 (.bin .eql (t 45) (.const (.int .u8 5))),m 121 123]))) (.cond (t 121) (r [m 124 0,m 125 6,s 126 (.idxA 1 (t 125) (i 0)),l 127 126,s 128 (.bin .neq (t 127) (i 1)),c 129 99 [(t 124),(t 128),(i 14)]]) (.seq (r [s 131 (.bin .eql (t 45) (.const (.int .u8 6))),m 130 131]) (.cond (t 130) (r [m 132 0,m 133 2,s 134 (.un .not (t 133)),c 135 99 [(t 132),(t 134),(i 12)]]) (.seq (r [s 137 (.bin .eql (t 45) (.const (.int .u8 8))),m 136 137]) (.cond (t 136) (r [m 138 0,m 139 6,s 140 (.len (t 139)),s 141 (.bin .eql (t 140) (i 0)),m 142 141,gt 143 142 (.move (t 8)),gt 144 142 (.bin .neq (t 143) (i 0)),s 145 (.pick (t 142) (t 144) b0),m 146 145,gf 147 146 (.move (t 6)),gf 148 146 (.len (t 147)),gf 149 146 (.bin .eql (t 148) (i 1)),gf 150 146 (.move (t 149)),gt 151 150 (.move (t 6)),gt 152 150 (.idxA 1 (t 151) (i 0)),tl 153 150 152,gt 154 150 (.move (t 8)),gt 155 150 (.bin .neq (t 153) (t 154)),gf 156 146 (.pick (t 150) (t 155) b0),s 157 (.pick (t 146) b1 (t 156)),c 158 99 [(t 138),(t 157),(i 14)]]) (.seq (r [s 160 (.bin .eql (t 45) (.const (.int .u8 9))),m 159 160]) (.cond (t 159) (r [m 161 0,s 162 (.load 7 true (t 4)),m 163 6,c 164 142 [(t 161),(t 162),(t 163)]]) .skip)))))))))))))))) (.seq (r [m 165 0,fa 166 5 4,l 167 166,m 168 2,m 169 168,fb 170 169 0 4,fl 171 169 170,gf 172 169 (.bin .eql (t 171) (.const (.int .u8 5))),s 173 (.pick (t 169) b1 (t 172)),c 174 102 [(t 165),(t 167),(t 173)]]) (r [m 175 0,fa 176 6 4,l 177 176,m 178 2,c 179 102 [(t 175),(t 177),(t 178)]])))))))):=⟨_,by simp only [QQ];rfl⟩
def GH:ak:=A7.1
def eY:List RV:=[]
theorem DZ:Is Tryz.prog (fun _ _=>false) 130 180 GH eY:=⟨Tryz.f130,Tryz.func130,rfl,by kernel_rfl,by kernel_rfl,Tryz.call130⟩
def co:CX (.seq (.seq (r [m 6 3,fa 7 4 1,l 8 7,s 9 (.len (t 8)),s 10 (.bin .lss (t 6) (t 9))]) (.cond (t 10) .skip (.exit 0))) (.seq (.block 1 (.seq (r [fa 13 4 1,l 14 13,m 15 3,s 16 (.idxA 6 (t 14) (t 15)),s 17 (.load 6 true (t 16)),c 18 47 [(t 17)],s 19 (.un .not (t 18))]) (.cond (t 19) (.seq (r [s 2 (.move b0)]) .ret) .skip))) (r [m 11 3,s 12 (.bin .add (t 11) (i 1)),m 3 12]))):=⟨_,by simp only [QQ];rfl⟩
def dc:ak:=co.1
def je:CX (.seq (r [s 1 (.box (t 0)),s 2 (.move b0)]) (.seq (.seq (r [s 3 (.move (i 0))]) (.block 0 (.loop dc))) (.seq (.seq (r [fa 20 5 1,l 21 20,c 22 104 [(t 21)],s 23 (.un .not (t 22)),m 24 23,fb 25 24 6 1,fl 26 24 25,fc 27 24 104 [(t 26)],gf 28 24 (.un .not (t 27)),s 29 (.pick (t 24) b1 (t 28))]) (.cond (t 29) (.seq (r [s 2 (.move b0)]) .ret) .skip)) (.seq (r [fa 30 4 1,l 31 30,s 32 (.len (t 31)),m 4 32]) (.seq (r [fa 33 5 1,l 34 33,s 35 (.len (t 34)),s 36 (.bin .eql (t 35) (i 0)),m 37 36,ta 38 37 6 1,tl 39 37 38,gt 40 37 (.len (t 39)),gt 41 37 (.bin .eql (t 40) (i 0)),s 42 (.pick (t 37) (t 41) b0),m 5 42]) (.seq (.seq (r [fa 43 0 1,l 44 43,s 45 (.bin .neq (t 44) (.const (.int .u8 1))),m 46 45,ta 47 46 3 1,tl 48 46 47,gt 49 46 (.bin .neq (t 48) (i 0)),s 50 (.pick (t 46) (t 49) b0),m 51 50,fb 52 51 0 1,fl 53 51 52,gf 54 51 (.bin .neq (t 53) (.const (.int .u8 9))),gf 55 51 (.move (t 54)),ta 56 55 2 1,tl 57 55 56,gt 58 55 (.bin .neq (t 57) (.const (.string ⟨#[]⟩))),gf 59 51 (.pick (t 55) (t 58) b0),s 60 (.pick (t 51) b1 (t 59))]) (.cond (t 60) (.seq (r [s 2 (.move b0)]) .ret) .skip)) (.seq (.seq (r [fa 61 0 1,l 62 61]) (.block 2 (.seq (r [s 64 (.bin .eql (t 62) (.const (.int .u8 1))),m 63 64]) (.cond (t 63) (.seq (r [fa 65 1 1,l 66 65,c 67 97 [(t 66)],m 68 67,ta 69 68 3 1,tl 70 68 69,tc 71 68 96 [(t 70)],s 72 (.pick (t 68) (t 71) b0),m 73 72,gt 74 73 (.move (t 4)),gt 75 73 (.bin .eql (t 74) (i 1)),s 76 (.pick (t 73) (t 75) b0),m 77 76,gt 78 77 (.move (t 5)),s 79 (.pick (t 77) (t 78) b0),m 2 79]) .ret) (.seq (r [s 81 (.bin .eql (t 62) (.const (.int .u8 2))),m 80 81]) (.cond (t 80) (.seq (r [fa 82 1 1,l 83 82,c 84 97 [(t 83)],m 85 84,gt 86 85 (.move (t 4)),gt 87 85 (.bin .eql (t 86) (i 1)),s 88 (.pick (t 85) (t 87) b0),m 89 88,gt 90 89 (.move (t 5)),s 91 (.pick (t 89) (t 90) b0),m 2 91]) .ret) (.seq (r [s 93 (.bin .eql (t 62) (.const (.int .u8 3))),m 92 93]) (.cond (t 92) (.seq (r [fa 94 1 1,l 95 94,c 96 97 [(t 95)],m 97 96,gt 98 97 (.move (t 4)),gt 99 97 (.bin .eql (t 98) (i 2)),s 100 (.pick (t 97) (t 99) b0),m 101 100,gt 102 101 (.move (t 5)),s 103 (.pick (t 101) (t 102) b0),m 2 103]) .ret) (.seq (r [s 105 (.bin .eql (t 62) (.const (.int .u8 4))),m 104 105]) (.cond (t 104) (.seq (r [fa 106 1 1,l 107 106,s 108 (.bin .eql (t 107) (.const (.string ⟨#[]⟩))),m 109 108,gt 110 109 (.move (t 4)),gt 111 109 (.bin .eql (t 110) (i 1)),s 112 (.pick (t 109) (t 111) b0),m 2 112]) .ret) (.seq (r [s 114 (.bin .eql (t 62) (.const (.int .u8 5))),m 113 114]) (.cond (t 113) (.seq (r [fa 115 1 1,l 116 115,s 117 (.bin .eql (t 116) (.const (.string ⟨#[]⟩))),m 118 117,gt 119 118 (.move (t 4)),gt 120 118 (.bin .eql (t 119) (i 1)),s 121 (.pick (t 118) (t 120) b0),m 122 121,ta 123 122 6 1,tl 124 122 123,gt 125 122 (.len (t 124)),gt 126 122 (.bin .eql (t 125) (i 0)),s 127 (.pick (t 122) (t 126) b0),m 2 127]) .ret) (.seq (r [s 129 (.bin .eql (t 62) (.const (.int .u8 6))),m 128 129]) (.cond (t 128) (.seq (r [fa 130 1 1,l 131 130,s 132 (.bin .eql (t 131) (.const (.string ⟨#[]⟩))),m 133 132,gt 134 133 (.move (t 4)),gt 135 133 (.bin .eql (t 134) (i 0)),s 136 (.pick (t 133) (t 135) b0),m 137 136,gt 138 137 (.move (t 5)),s 139 (.pick (t 137) (t 138) b0),m 2 139]) .ret) (.seq (r [s 141 (.bin .eql (t 62) (.const (.int .u8 7))),m 140 141]) (.cond (t 140) (.seq (r [fa 142 1 1,l 143 142,s 144 (.bin .eql (t 143) (.const (.string ⟨#[]⟩))),m 145 144,gt 146 145 (.move (t 4)),gt 147 145 (.bin .eql (t 146) (i 1)),s 148 (.pick (t 145) (t 147) b0),m 149 148,gt 150 149 (.move (t 5)),s 151 (.pick (t 149) (t 150) b0),m 2 151]) .ret) (.seq (r [s 153 (.bin .eql (t 62) (.const (.int .u8 8))),m 152 153]) (.cond (t 152) (.seq (r [fa 154 1 1,l 155 154,s 156 (.bin .eql (t 155) (.const (.string ⟨#[]⟩))),m 157 156,gt 158 157 (.move (t 4)),gt 159 157 (.bin .leq (t 158) (i 1)),s 160 (.pick (t 157) (t 159) b0),m 161 160,gt 162 161 (.move (t 5)),s 163 (.pick (t 161) (t 162) b0),m 2 163]) .ret) (.seq (r [s 165 (.bin .eql (t 62) (.const (.int .u8 9))),m 164 165]) (.cond (t 164) (.seq (r [fa 166 1 1,l 167 166,s 168 (.bin .eql (t 167) (.const (.string ⟨#[]⟩))),m 169 168,fb 170 169 1 1,fl 171 169 170,fc 172 169 97 [(t 171)],s 173 (.pick (t 169) b1 (t 172)),m 174 173,ta 175 174 2 1,tl 176 174 175,tc 177 174 97 [(t 176)],s 178 (.pick (t 174) (t 177) b0),m 179 178,gt 180 179 (.move (t 5)),s 181 (.pick (t 179) (t 180) b0),m 2 181]) .ret) .skip)))))))))))))))))))) (.seq (r [s 2 (.move b0)]) .ret)))))))):=⟨_,by simp only [QQ];rfl⟩
def mZ:ak:=je.1
def eD:List RV:=[.tmp 2]
theorem jy:Is Tryz.prog (fun _ _=>false) 131 182 mZ eD:=⟨Tryz.f131,Tryz.func131,rfl,by kernel_rfl,by kernel_rfl,Tryz.call131⟩
def gW:CX (.seq (r [s 5 (.box (t 1)),s 8 (.move (i 0))]) (.seq (.seq (r [fa 12 0 5,l 13 12]) (.block 0 (.seq (r [s 15 (.bin .eql (t 13) (.const (.int .u8 1))),m 14 15]) (.cond (t 14) (.seq (r [m 16 0,fa 17 1 5,l 18 17,fa 19 3 5,l 20 19,c 21 108 [(t 16),(t 18),(t 20)],m 9 21]) (.seq (.seq (r [m 22 9,s 23 (.bin .neq (t 22) (i 0))]) (.cond (t 23) (.seq (r [m 24 9,m 8 24]) .ret) .skip)) (.seq (.dregion [⟨0,m 25 2,[]⟩,⟨1,s 26 (.idxA 1 (t 25) (i 0)),[]⟩,⟨2,l 27 26,[]⟩,⟨3,fa 28 3 5,[]⟩,⟨4,l 29 28,[]⟩,⟨5,s 30 (.bin .eql (t 27) (t 29)),[]⟩,⟨6,c 31 143 [(t 30)],[]⟩,⟨7,m 8 31,[]⟩]) .ret))) (.seq (r [s 33 (.bin .eql (t 13) (.const (.int .u8 2))),m 32 33]) (.cond (t 32) (.seq (r [m 34 0,fa 35 1 5,l 36 35,c 37 82 [(t 34),(t 36)],m 10 37]) (.seq (.seq (r [m 38 10,s 39 (.bin .eql (t 38) (i 0))]) (.cond (t 39) (.seq (r [s 8 (.move (i 16))]) .ret) .skip)) (.seq (r [m 40 2,s 41 (.idxA 1 (t 40) (i 0)),l 42 41,m 43 10,s 44 (.bin .eql (t 42) (t 43)),c 45 143 [(t 44)],m 8 45]) .ret))) (.seq (r [s 47 (.bin .eql (t 13) (.const (.int .u8 3))),m 46 47]) (.cond (t 46) (.seq (.dregion [⟨0,m 48 0,[]⟩,⟨1,s 49 (.nilck (t 48)),[]⟩,⟨2,fa 50 0 49,[]⟩,⟨3,s 51 (.load 2 true (t 50)),[]⟩,⟨4,fa 52 1 5,[]⟩,⟨5,l 53 52,[]⟩,⟨6,c 54 83 [(t 51),(t 53)],[]⟩,⟨7,m 11 54,[]⟩]) (.seq (.seq (r [m 55 11,s 56 (.bin .lss (t 55) (i 0))]) (.cond (t 56) (.seq (r [s 8 (.move (i 16))]) .ret) .skip)) (.seq (.dregion [⟨0,m 57 2,[]⟩,⟨1,s 58 (.idxA 1 (t 57) (i 0)),[]⟩,⟨2,l 59 58,[]⟩,⟨3,c 60 84 [],[0,1,2]⟩,⟨4,s 61 (.m (.look .str (.int .i64 0) false (t 60) (.const (.string ⟨#[119,111,114,100]⟩)))),[0,1,2]⟩,⟨5,s 62 (.bin .eql (t 59) (t 61)),[]⟩,⟨6,m 63 62,[]⟩,⟨7,gt 64 63 (.move (t 2)),[]⟩,⟨8,gt 65 63 (.idxA 1 (t 64) (i 1)),[]⟩,⟨9,tl 66 63 65,[]⟩,⟨10,gt 67 63 (.move (t 0)),[]⟩,⟨11,gt 68 63 (.nilck (t 67)),[]⟩,⟨12,ta 69 63 0 68,[]⟩,⟨13,ta 70 63 0 69,[]⟩,⟨14,tl 71 63 70,[]⟩,⟨15,gt 72 63 (.move (t 11)),[]⟩,⟨16,gt 73 63 (.idxA 3 (t 71) (t 72)),[]⟩,⟨17,ta 74 63 1 73,[]⟩,⟨18,tl 75 63 74,[]⟩,⟨19,gt 76 63 (.bin .eql (t 66) (t 75)),[]⟩,⟨20,s 77 (.pick (t 63) (t 76) b0),[]⟩,⟨21,c 78 143 [(t 77)],[]⟩,⟨22,m 8 78,[]⟩]) .ret))) (.seq (.seq (r [s 80 (.bin .eql (t 13) (.const (.int .u8 4))),m 79 80]) (.cond (t 79) .skip (r [s 81 (.bin .eql (t 13) (.const (.int .u8 5))),m 79 81]))) (.cond (t 79) (.seq (r [m 82 2,s 83 (.idxA 1 (t 82) (i 0)),l 84 83,s 85 (.bin .eql (t 84) (i 1)),c 86 143 [(t 85)],m 8 86]) .ret) (.seq (r [s 88 (.bin .eql (t 13) (.const (.int .u8 6))),m 87 88]) (.cond (t 87) (.seq (r [m 89 3,s 90 (.un .not (t 89))]) (.cond (t 90) (.seq (r [s 8 (.move (i 12))]) .ret) .skip)) (.seq (r [s 92 (.bin .eql (t 13) (.const (.int .u8 8))),m 91 92]) (.cond (t 91) (.seq (.dregion [⟨0,m 93 2,[]⟩,⟨1,s 94 (.len (t 93)),[]⟩,⟨2,s 95 (.bin .eql (t 94) (i 0)),[]⟩,⟨3,m 96 95,[]⟩,⟨4,gt 97 96 (.move (t 0)),[]⟩,⟨5,gt 98 96 (.nilck (t 97)),[]⟩,⟨6,ta 99 96 2 98,[]⟩,⟨7,ta 100 96 2 99,[]⟩,⟨8,tl 101 96 100,[]⟩,⟨9,gt 102 96 (.bin .eql (t 101) (i 0)),[]⟩,⟨10,s 103 (.pick (t 96) (t 102) b0),[]⟩,⟨11,m 104 103,[]⟩,⟨12,gf 105 104 (.move (t 2)),[]⟩,⟨13,gf 106 104 (.len (t 105)),[]⟩,⟨14,gf 107 104 (.bin .eql (t 106) (i 1)),[]⟩,⟨15,gf 108 104 (.move (t 107)),[]⟩,⟨16,gt 109 108 (.move (t 2)),[]⟩,⟨17,gt 110 108 (.idxA 1 (t 109) (i 0)),[]⟩,⟨18,tl 111 108 110,[]⟩,⟨19,gt 112 108 (.move (t 0)),[]⟩,⟨20,gt 113 108 (.nilck (t 112)),[]⟩,⟨21,ta 114 108 2 113,[]⟩,⟨22,ta 115 108 2 114,[]⟩,⟨23,tl 116 108 115,[]⟩,⟨24,gt 117 108 (.bin .eql (t 111) (t 116)),[]⟩,⟨25,gf 118 104 (.pick (t 108) (t 117) b0),[]⟩,⟨26,s 119 (.pick (t 104) b1 (t 118)),[]⟩,⟨27,c 120 143 [(t 119)],[]⟩,⟨28,m 8 120,[]⟩]) .ret) (.seq (r [s 122 (.bin .eql (t 13) (.const (.int .u8 9))),m 121 122]) (.cond (t 121) (.seq (r [m 123 0,s 124 (.load 7 true (t 5)),m 125 2,c 126 144 [(t 123),(t 124),(t 125)],m 8 126]) .ret) .skip)))))))))))))))) (.seq (r [s 8 (.move (i 0))]) .ret))):=⟨_,by simp only [QQ];rfl⟩
def kT:ak:=gW.1
def ja:List RV:=[.tmp 8]
theorem DW:Is Tryz.prog (fun _ _=>false) 134 127 kT ja:=⟨Tryz.f134,Tryz.func134,rfl,by kernel_rfl,by kernel_rfl,Tryz.call134⟩
def lW:CX (.seq (r [s 9 (.bin .lss (t 8) (t 7))]) (.seq (.cond (t 9) .skip (.exit 0)) (.seq (.block 1 (.seq (r [m 10 8,m 5 10]) (.seq (r [m 11 1,m 12 0,m 13 5,s 14 (.idxA 1 (t 12) (t 13)),l 15 14,s 16 (.bin .eql (t 11) (t 15))]) (.cond (t 16) (.seq (r [m 17 5,m 4 17]) .ret) .skip)))) (r [s 18 (.bin .add (t 8) (i 1)),m 8 18])))):=⟨_,by simp only [QQ];rfl⟩
def pI:ak:=lW.1
def A2:CX (.seq (r [s 4 (.move (i 0))]) (.seq (.seq (r [m 6 0,s 7 (.len (t 6)),s 8 (.move (i 0))]) (.block 0 (.loop pI))) (.seq (r [s 4 (.move (.const (.int .i64 (-1))))]) .ret))):=⟨_,by simp only [QQ];rfl⟩
def GE:ak:=A2.1
def CA:List RV:=[.tmp 4]
theorem DV:Is Tryz.prog (fun _ _=>false) 135 19 GE CA:=⟨Tryz.f135,Tryz.func135,rfl,by kernel_rfl,by kernel_rfl,Tryz.call135⟩
def pH:CX (.seq (r [s 9 (.bin .lss (t 8) (t 7))]) (.seq (.cond (t 9) .skip (.exit 0)) (.seq (.block 1 (.seq (r [m 10 8,m 5 10]) (.seq (r [m 11 1,m 12 0,m 13 5,s 14 (.idxA 6 (t 12) (t 13)),s 15 (.load 6 true (t 14)),⟨(some 16),none,.call (t 11) [(t 15)]⟩]) (.cond (t 16) (.seq (r [m 17 5,m 4 17]) .ret) .skip)))) (r [s 18 (.bin .add (t 8) (i 1)),m 8 18])))):=⟨_,by simp only [QQ];rfl⟩
def sT:ak:=pH.1
def A1:CX (.seq (r [s 4 (.move (i 0))]) (.seq (.seq (r [m 6 0,s 7 (.len (t 6)),s 8 (.move (i 0))]) (.block 0 (.loop sT))) (.seq (r [s 4 (.move (.const (.int .i64 (-1))))]) .ret))):=⟨_,by simp only [QQ];rfl⟩
def GD:ak:=A1.1
def Cz:List RV:=[.tmp 4]
theorem DU:Is Tryz.prog (fun _ _=>false) 136 19 GD Cz:=⟨Tryz.f136,Tryz.func136,rfl,by kernel_rfl,by kernel_rfl,Tryz.call136⟩
def pG:CX (.seq (r [s 9 (.bin .lss (t 8) (t 7))]) (.seq (.cond (t 9) .skip (.exit 0)) (.seq (.block 1 (.seq (r [m 10 8,m 5 10]) (.seq (r [m 11 1,m 12 0,m 13 5,s 14 (.idxA 4 (t 12) (t 13)),s 15 (.load 4 true (t 14)),⟨(some 16),none,.call (t 11) [(t 15)]⟩]) (.cond (t 16) (.seq (r [m 17 5,m 4 17]) .ret) .skip)))) (r [s 18 (.bin .add (t 8) (i 1)),m 8 18])))):=⟨_,by simp only [QQ];rfl⟩
def sS:ak:=pG.1
def A0:CX (.seq (r [s 4 (.move (i 0))]) (.seq (.seq (r [m 6 0,s 7 (.len (t 6)),s 8 (.move (i 0))]) (.block 0 (.loop sS))) (.seq (r [s 4 (.move (.const (.int .i64 (-1))))]) .ret))):=⟨_,by simp only [QQ];rfl⟩
def GC:ak:=A0.1
def Cy:List RV:=[.tmp 4]
theorem DT:Is Tryz.prog (fun _ _=>false) 137 19 GC Cy:=⟨Tryz.f137,Tryz.func137,rfl,by kernel_rfl,by kernel_rfl,Tryz.call137⟩
def AZ:CX (.seq (r [s 4 (.move b0)]) (.seq (r [m 5 0,m 6 1,c 7 90 [(t 5),(t 6)],s 8 (.bin .geq (t 7) (i 0)),m 4 8]) .ret)):=⟨_,by simp only [QQ];rfl⟩
def GB:ak:=AZ.1
def EW:List RV:=[.tmp 4]
theorem DS:Is Tryz.prog (fun _ _=>false) 138 9 GB EW:=⟨Tryz.f138,Tryz.func138,rfl,by kernel_rfl,by kernel_rfl,Tryz.call138⟩
def AU:CX (.seq (r [s 2 (.box (t 0)),s 3 (.move b0)]) (.seq (r [l 4 1,s 5 (.load 2 true (t 2)),⟨(some 6),none,.call (t 4) [(t 5)]⟩,s 7 (.un .not (t 6)),m 3 7]) .ret)):=⟨_,by simp only [QQ];rfl⟩
def GA:ak:=AU.1
def EV:List RV:=[.tmp 3]
theorem DR:Is Tryz.prog (fun _ _=>false) 139 8 GA EV:=⟨Tryz.f139,Tryz.func139,rfl,by kernel_rfl,by kernel_rfl,Tryz.call139⟩
def AS:CX (.seq (r [s 4 (.move b0)]) (.seq (r [m 5 0,m 6 1,c 7 145 [(t 5),(t 6)],s 8 (.bin .geq (t 7) (i 0)),m 4 8]) .ret)):=⟨_,by simp only [QQ];rfl⟩
def Gz:ak:=AS.1
def EU:List RV:=[.tmp 4]
theorem DQ:Is Tryz.prog (fun _ _=>false) 140 9 Gz EU:=⟨Tryz.f140,Tryz.func140,rfl,by kernel_rfl,by kernel_rfl,Tryz.call140⟩
def AR:CX (.seq (r [s 2 (.box (t 0)),s 3 (.move b0)]) (.seq (r [l 4 1,s 5 (.load 7 true (t 2)),⟨(some 6),none,.call (t 4) [(t 5)]⟩,s 7 (.un .not (t 6)),m 3 7]) .ret)):=⟨_,by simp only [QQ];rfl⟩
def Gy:ak:=AR.1
def ET:List RV:=[.tmp 3]
theorem DP:Is Tryz.prog (fun _ _=>false) 141 8 Gy ET:=⟨Tryz.f141,Tryz.func141,rfl,by kernel_rfl,by kernel_rfl,Tryz.call141⟩
def jp:CX (.seq (.seq (r [m 36 8,m 37 2,s 38 (.len (t 37)),s 39 (.bin .lss (t 36) (t 38)),m 40 39,gt 41 40 (.move (t 8)),ta 42 40 1 7,tl 43 40 42,gt 44 40 (.len (t 43)),gt 45 40 (.bin .lss (t 41) (t 44)),s 46 (.pick (t 40) (t 45) b0)]) (.cond (t 46) .skip (.exit 0))) (.seq (.block 1 (.dregion [⟨0,m 49 0,[]⟩,⟨1,m 50 2,[]⟩,⟨2,m 51 8,[]⟩,⟨3,s 52 (.idxA 1 (t 50) (t 51)),[]⟩,⟨4,l 53 52,[]⟩,⟨5,fa 54 1 7,[]⟩,⟨6,l 55 54,[]⟩,⟨7,m 56 8,[]⟩,⟨8,s 57 (.idxA 2 (t 55) (t 56)),[]⟩,⟨9,fa 58 1 57,[]⟩,⟨10,l 59 58,[]⟩,⟨11,s 60 (.bin .neq (t 53) (t 59)),[]⟩,⟨12,c 61 99 [(t 49),(t 60),(i 14)],[]⟩])) (r [m 47 8,s 48 (.bin .add (t 47) (i 1)),m 8 48]))):=⟨_,by simp only [QQ];rfl⟩
def kS:ak:=jp.1
def AQ:CX (.seq (r [s 4 (.box (t 1))]) (.seq (.dregion [⟨0,m 9 0,[]⟩,⟨1,s 10 (.nilck (t 9)),[]⟩,⟨2,fa 11 0 10,[]⟩,⟨3,s 12 (.load 2 true (t 11)),[]⟩,⟨4,fa 13 2 4,[]⟩,⟨5,l 14 13,[]⟩,⟨6,c 15 146 [(t 12),(t 14)],[]⟩,⟨7,m 6 15,[]⟩]) (.seq (.seq (r [m 16 6,s 17 (.bin .lss (t 16) (i 0))]) (.cond (t 17) (.seq (r [m 18 0,c 19 99 [(t 18),b1,(i 16)]]) .ret) .skip)) (.seq (r [m 20 0,s 21 (.nilck (t 20)),fa 22 0 21,fa 23 1 22,l 24 23,m 25 6,s 26 (.idxA 4 (t 24) (t 25)),s 27 (.load 4 true (t 26)),s 7 (.alloc [(.str []),.nilS,(.int .i64 0),.nilS]),sn (.store 4 (t 7) (t 27))]) (.seq (r [m 28 0,m 29 2,s 30 (.len (t 29)),fa 31 1 7,l 32 31,s 33 (.len (t 32)),s 34 (.bin .neq (t 30) (t 33)),c 35 99 [(t 28),(t 34),(i 14)]]) (.seq (.seq (r [s 8 (.move (i 0))]) (.block 0 (.loop kS))) (.seq (r [fa 62 1 4,l 63 62,s 64 (.bin .neq (t 63) (.const (.string ⟨#[]⟩)))]) (.cond (t 64) (.seq (r [m 65 0,m 66 0,fa 67 1 4,l 68 67,c 69 100 [(t 66),(t 68)],s 70 (.bin .eql (t 69) (i 0)),c 71 99 [(t 65),(t 70),(i 16)]]) (.dregion [⟨0,m 72 0,[]⟩,⟨1,m 73 0,[]⟩,⟨2,fa 74 1 4,[]⟩,⟨3,l 75 74,[]⟩,⟨5,fa 77 2 7,[]⟩,⟨6,l 78 77,[]⟩,⟨4,c 76 100 [(t 73),(t 75)],[0,5,6]⟩,⟨7,s 79 (.bin .neq (t 76) (t 78)),[]⟩,⟨8,c 80 99 [(t 72),(t 79),(i 14)],[]⟩])) .skip)))))))):=⟨_,by simp only [QQ];rfl⟩
def Gx:ak:=AQ.1
def vy:List RV:=[]
theorem DO:Is Tryz.prog (fun _ _=>false) 142 81 Gx vy:=⟨Tryz.f142,Tryz.func142,rfl,by kernel_rfl,by kernel_rfl,Tryz.call142⟩
def yE:CX (.seq (r [s 2 (.move (i 0))]) (.seq (.seq (r [m 3 0]) (.cond (t 3) (.seq (r [s 2 (.move (i 0))]) .ret) .skip)) (.seq (r [s 2 (.move (i 14))]) .ret))):=⟨_,by simp only [QQ];rfl⟩
def CY:ak:=yE.1
def Cx:List RV:=[.tmp 2]
theorem DN:Is Tryz.prog (fun _ _=>false) 143 4 CY Cx:=⟨Tryz.f143,Tryz.func143,rfl,by kernel_rfl,by kernel_rfl,Tryz.call143⟩
def pF:CX (.seq (r [s 33 (.bin .lss (t 32) (t 31))]) (.seq (.cond (t 33) .skip (.exit 0)) (.seq (.block 1 (.seq (r [s 34 (.idxA 2 (t 30) (t 32)),s 35 (.load 2 true (t 34)),s 11 (.alloc [(.str []),(.int .i64 0)]),sn (.store 2 (t 11) (t 35))]) (r [m 36 9,fa 37 1 11,l 38 37,s 39 (.buildF [(.int .i64 0)] 1 [(0,(t 38))]),s 40 (.app 3 1 8 (t 36) (t 39)),m 9 40]))) (r [s 41 (.bin .add (t 32) (i 1)),m 32 41])))):=⟨_,by simp only [QQ];rfl⟩
def sQ:ak:=pF.1
def AP:CX (.seq (r [s 4 (.box (t 1)),s 6 (.move (i 0))]) (.seq (.dregion [⟨0,m 12 0,[]⟩,⟨1,s 13 (.nilck (t 12)),[]⟩,⟨2,fa 14 0 13,[]⟩,⟨3,s 15 (.load 2 true (t 14)),[]⟩,⟨4,fa 16 2 4,[]⟩,⟨5,l 17 16,[]⟩,⟨6,c 18 147 [(t 15),(t 17)],[]⟩,⟨7,m 7 18,[]⟩]) (.seq (.seq (r [m 19 7,s 20 (.bin .lss (t 19) (i 0))]) (.cond (t 20) (.seq (r [s 6 (.move (i 16))]) .ret) .skip)) (.seq (r [m 21 0,s 22 (.nilck (t 21)),fa 23 0 22,fa 24 1 23,l 25 24,m 26 7,s 27 (.idxA 4 (t 25) (t 26)),s 28 (.load 4 true (t 27)),s 8 (.alloc [(.str []),.nilS,(.int .i64 0),.nilS]),sn (.store 4 (t 8) (t 28))]) (.seq (r [s 9 (.move ns)]) (.seq (.seq (r [fa 29 1 8,l 30 29,s 31 (.len (t 30)),s 32 (.move (i 0))]) (.block 0 (.loop sQ))) (.seq (.seq (r [m 42 2,m 43 9,c 44 148 [(t 42),(t 43)],s 45 (.un .not (t 44))]) (.cond (t 45) (.seq (r [s 6 (.move (i 14))]) .ret) .skip)) (.seq (.seq (r [fa 46 1 4,l 47 46,s 48 (.bin .eql (t 47) (.const (.string ⟨#[]⟩)))]) (.cond (t 48) (.seq (r [s 6 (.move (i 0))]) .ret) .skip)) (.seq (.seq (r [m 49 0,fa 50 1 4,l 51 50,c 52 82 [(t 49),(t 51)],s 53 (.bin .eql (t 52) (i 0))]) (.cond (t 53) (.seq (r [s 6 (.move (i 16))]) .ret) .skip)) (.seq (.dregion [⟨0,m 54 0,[]⟩,⟨1,fa 55 1 4,[]⟩,⟨2,l 56 55,[]⟩,⟨4,fa 58 2 8,[]⟩,⟨5,l 59 58,[]⟩,⟨3,c 57 82 [(t 54),(t 56)],[4,5]⟩,⟨6,s 60 (.bin .eql (t 57) (t 59)),[]⟩,⟨7,c 61 143 [(t 60)],[]⟩,⟨8,m 6 61,[]⟩]) .ret)))))))))):=⟨_,by simp only [QQ];rfl⟩
def Gw:ak:=AP.1
def rY:List RV:=[.tmp 6]
theorem DM:Is Tryz.prog (fun _ _=>false) 144 62 Gw rY:=⟨Tryz.f144,Tryz.func144,rfl,by kernel_rfl,by kernel_rfl,Tryz.call144⟩
def pE:CX (.seq (r [s 9 (.bin .lss (t 8) (t 7))]) (.seq (.cond (t 9) .skip (.exit 0)) (.seq (.block 1 (.seq (r [m 10 8,m 5 10]) (.seq (r [m 11 1,m 12 0,m 13 5,s 14 (.idxA 7 (t 12) (t 13)),s 15 (.load 7 true (t 14)),⟨(some 16),none,.call (t 11) [(t 15)]⟩]) (.cond (t 16) (.seq (r [m 17 5,m 4 17]) .ret) .skip)))) (r [s 18 (.bin .add (t 8) (i 1)),m 8 18])))):=⟨_,by simp only [QQ];rfl⟩
def sP:ak:=pE.1
def AN:CX (.seq (r [s 4 (.move (i 0))]) (.seq (.seq (r [m 6 0,s 7 (.len (t 6)),s 8 (.move (i 0))]) (.block 0 (.loop sP))) (.seq (r [s 4 (.move (.const (.int .i64 (-1))))]) .ret))):=⟨_,by simp only [QQ];rfl⟩
def Gv:ak:=AN.1
def Cw:List RV:=[.tmp 4]
theorem DL:Is Tryz.prog (fun _ _=>false) 145 19 Gv Cw:=⟨Tryz.f145,Tryz.func145,rfl,by kernel_rfl,by kernel_rfl,Tryz.call145⟩
def lV:CX (.seq (.seq (r [m 6 5,fa 7 1 2,l 8 7,s 9 (.len (t 8)),s 10 (.bin .lss (t 6) (t 9))]) (.cond (t 10) .skip (.exit 0))) (.seq (.block 1 (.seq (r [fa 13 1 2,l 14 13,m 15 5,s 16 (.idxA 4 (t 14) (t 15)),fa 17 0 16,l 18 17,m 19 1,s 20 (.bin .eql (t 18) (t 19))]) (.cond (t 20) (.seq (r [m 21 5,m 4 21]) .ret) .skip))) (r [m 11 5,s 12 (.bin .add (t 11) (i 1)),m 5 12]))):=⟨_,by simp only [QQ];rfl⟩
def pD:ak:=lV.1
def AM:CX (.seq (r [s 2 (.box (t 0)),s 4 (.move (i 0))]) (.seq (.seq (r [s 5 (.move (i 0))]) (.block 0 (.loop pD))) (.seq (r [s 4 (.move (.const (.int .i64 (-1))))]) .ret))):=⟨_,by simp only [QQ];rfl⟩
def Gu:ak:=AM.1
def Cv:List RV:=[.tmp 4]
theorem DK:Is Tryz.prog (fun _ _=>false) 146 22 Gu Cv:=⟨Tryz.f146,Tryz.func146,rfl,by kernel_rfl,by kernel_rfl,Tryz.call146⟩
def AL:CX (.seq (r [s 2 (.box (t 0)),s 3 (.box (t 1)),s 4 (.move (i 0))]) (.seq (r [fa 5 1 2,l 6 5,s 7 (.mkfn (.func 149) [(t 3)]),c 8 137 [(t 6),(t 7)],m 4 8]) .ret)):=⟨_,by simp only [QQ];rfl⟩
def Gt:ak:=AL.1
def ES:List RV:=[.tmp 4]
theorem DJ:Is Tryz.prog (fun _ _=>false) 147 9 Gt ES:=⟨Tryz.f147,Tryz.func147,rfl,by kernel_rfl,by kernel_rfl,Tryz.call147⟩
def lU:CX (.seq (r [s 14 (.bin .lss (t 13) (t 12))]) (.seq (.cond (t 14) .skip (.exit 0)) (.seq (.block 1 (.seq (r [m 15 13,m 5 15]) (.seq (.dregion [⟨0,m 16 0,[]⟩,⟨1,m 17 5,[]⟩,⟨2,s 18 (.idxA 1 (t 16) (t 17)),[]⟩,⟨3,l 19 18,[]⟩,⟨4,m 20 1,[]⟩,⟨5,m 21 5,[]⟩,⟨6,s 22 (.idxA 1 (t 20) (t 21)),[]⟩,⟨7,l 23 22,[]⟩,⟨8,s 24 (.bin .neq (t 19) (t 23)),[]⟩]) (.cond (t 24) (.seq (r [s 4 (.move b0)]) .ret) .skip)))) (r [s 25 (.bin .add (t 13) (i 1)),m 13 25])))):=⟨_,by simp only [QQ];rfl⟩
def pC:ak:=lU.1
def yD:CX (.seq (r [s 4 (.move b0)]) (.seq (.seq (r [m 6 0,s 7 (.len (t 6)),m 8 1,s 9 (.len (t 8)),s 10 (.bin .neq (t 7) (t 9))]) (.cond (t 10) (.seq (r [s 4 (.move b0)]) .ret) .skip)) (.seq (.seq (r [m 11 0,s 12 (.len (t 11)),s 13 (.move (i 0))]) (.block 0 (.loop pC))) (.seq (r [s 4 (.move b1)]) .ret)))):=⟨_,by simp only [QQ];rfl⟩
def CW:ak:=yD.1
def zV:List RV:=[.tmp 4]
theorem DI:Is Tryz.prog (fun _ _=>false) 148 26 CW zV:=⟨Tryz.f148,Tryz.func148,rfl,by kernel_rfl,by kernel_rfl,Tryz.call148⟩
def AK:CX (.seq (r [s 2 (.box (t 0)),s 3 (.move b0)]) (.seq (r [fa 4 0 2,l 5 4,l 6 1,s 7 (.bin .eql (t 5) (t 6)),m 3 7]) .ret)):=⟨_,by simp only [QQ];rfl⟩
def Gs:ak:=AK.1
def ER:List RV:=[.tmp 3]
theorem DH:Is Tryz.prog (fun _ _=>false) 149 8 Gs ER:=⟨Tryz.f149,Tryz.func149,rfl,by kernel_rfl,by kernel_rfl,Tryz.call149⟩
open Go Go.Ab Go.Proofs
set_option linter.unusedVariables false
set_option linter.unusedSimpArgs false
set_option maxRecDepth 20000
theorem aj:Tryz.prog.follows .mixedOrders=true:=by kernel_rfl
theorem am (p:Prop) [Decidable p]:(¬ p∧p=False)∨(p∧p=True):=by
 by_cases h:p
 ·exact .inr ⟨h,eq_true h⟩
 ·exact .inl ⟨h,eq_false h⟩
theorem ah (p:Prop) [Decidable p]:(p∧p=True)∨(¬ p∧p=False):=by
 by_cases h:p
 ·exact .inl ⟨h,eq_true h⟩
 ·exact .inr ⟨h,eq_false h⟩
def wide (w:Int):Bool:=decide (1≤w)&&decide (w≤64)
theorem Aq (w:Int):Pure Tryz.prog 111 [.int .i64 w] (.bool (wide w)):=by
 refine Pure.of fun nx=>AC.go aj Eg (by simp) ?_
 by_cases c1:(1:Int)≤w
 ·simp -implicitDefEqProofs only [RA,aa,zp,↓reduceIte,reduceCtorEq,zq,zr,zs,zt,C1,yJ,wide,c1,CE,Bool.true_and]
 ·simp -implicitDefEqProofs only [RA,aa,zp,↓reduceIte,reduceCtorEq,zq,zr,zs,zt,C1,yJ,wide,c1,CE,Bool.false_and]
def wK (w:Int):Int:=if wide w=true then (18446744073709551615:Int).fdiv (2 ^ (64-w).toNat) else 0
theorem w112 (w:Int):Pure Tryz.prog 112 [.int .i64 w] (.int .u64 (wK w)):=by
 refine Pure.of fun nx=>AC.go aj Ef (by simp) ?_
 simp -implicitDefEqProofs only [RA,aa,zp,↓reduceIte,reduceCtorEq,zq,zr,zs,zt,GX,Bm]
 refine (Aq w).use fun n1 hn1=>?_
 by_cases c1:wide w=true
 ·have c2:=c1
  simp only [wide,HR,decide_eq_true_eq] at c2
  have e1:IntKind.i64.wrap (64-w)=64-w:=w64 (by omega) (by omega)
  have e2:min (64-w).toNat IntKind.u64.bits=(64-w).toNat:=by simp only [IntKind.bits];omega
  simp -implicitDefEqProofs only [RA,aa,zp,↓reduceIte,reduceCtorEq,zq,zr,zs,zt,c1,unA,e1,EB _ _ _ _ (show (0:Int)≤64-w by omega),e2,wK,CD]
 ·simp only [HV] at c1
  simp -implicitDefEqProofs only [RA,aa,zp,↓reduceIte,reduceCtorEq,zq,zr,zs,zt,c1,unA,wK,CD,HQ]
def okB (w b:Int):Bool:=wide w&&decide (b≤wK w)
theorem w79 (w x:Int):Pure Tryz.prog 79 [.int .i64 w,.int .u64 x] (.bool (okB w x)):=by
 refine Pure.of fun nx=>AC.go aj is79 (by simp) ?_
 simp -implicitDefEqProofs only [RA,aa,zp,↓reduceIte,reduceCtorEq,zq,zr,zs,zt,A79,Fw]
 refine (Aq w).use fun n1 hn1=>?_
 by_cases c1:wide w=true
 ·simp -implicitDefEqProofs only [RA,aa,zp,↓reduceIte,reduceCtorEq,zq,zr,zs,zt,c1]
  refine (w112 w).use fun n2 hn2=>?_
  simp -implicitDefEqProofs only [RA,aa,zp,↓reduceIte,reduceCtorEq,zq,zr,zs,zt,c1,R79,okB,Bool.true_and]
 ·simp only [HV] at c1
  simp -implicitDefEqProofs only [RA,aa,zp,↓reduceIte,reduceCtorEq,zq,zr,zs,zt,c1,R79,okB,Bool.false_and]
theorem w96 (w:Int):Pure Tryz.prog 96 [.int .i64 w] (.bool (cm w)):=by
 refine Pure.of fun nx=>AC.go aj is96 (by simp) ?_
 rcases ah (w=1) with ⟨c1,d1⟩|⟨c1,d1⟩
 ·simp -implicitDefEqProofs only [RA,aa,zp,↓reduceIte,reduceCtorEq,zq,zr,zs,zt,A96,xO,cm,d1,R96]
 rcases ah (w=8) with ⟨c2,d2⟩|⟨c2,d2⟩
 ·simp -implicitDefEqProofs only [RA,aa,zp,↓reduceIte,reduceCtorEq,zq,zr,zs,zt,A96,xO,cm,d1,d2,R96]
 rcases ah (w=16) with ⟨c3,d3⟩|⟨c3,d3⟩
 ·simp -implicitDefEqProofs only [RA,aa,zp,↓reduceIte,reduceCtorEq,zq,zr,zs,zt,A96,xO,cm,d1,d2,d3,R96]
 ·simp -implicitDefEqProofs only [RA,aa,zp,↓reduceIte,reduceCtorEq,zq,zr,zs,zt,A96,xO,cm,d1,d2,d3,R96]
def jv (w:Int):Nm:=if w=1 then [98,105,116] else if w=8 then [98,121,116,101] else if w=16 then [104,97,108,102] else if w=32 then [119,111,114,100] else []
def ci:List (AV × AV):=[(.str [98,105,116],.int .i64 1),(.str [98,121,116,101],.int .i64 8),(.str [104,97,108,102],.int .i64 16),(.str [119,111,114,100],.int .i64 32)]
theorem w84 (nx:Nat):AC Tryz.prog 84 [] [] nx fun y h' n'=>∃ b,y=.ret (.mp b)∧b<n'∧af h' b=some (.map ci [0,1,2,3] 4):=by
 refine AC.go aj is84 (by simp) ?_
 have e1:∀ h:Heap,dV ((nx,.map [] [] 0)::h) .str (.mp nx) (.str [98,105,116]) (.int .i64 1)=some ((nx,.map (ci.take 1) [0] 1)::(nx,.map [] [] 0)::h):=fun h=>by simp [dV,af,bO,eI,dk,ci]
 have e2:∀ h:Heap,dV ((nx,.map (ci.take 1) [0] 1)::h) .str (.mp nx) (.str [98,121,116,101]) (.int .i64 8)=some ((nx,.map (ci.take 2) [0,1] 2)::(nx,.map (ci.take 1) [0] 1)::h):=fun h=>by simp [dV,af,bO,eI,dk,ci,eqC]
 have e3:∀ h:Heap,dV ((nx,.map (ci.take 2) [0,1] 2)::h) .str (.mp nx) (.str [104,97,108,102]) (.int .i64 16)=some ((nx,.map (ci.take 3) [0,1,2] 3)::(nx,.map (ci.take 2) [0,1] 2)::h):=fun h=>by simp [dV,af,bO,eI,dk,ci,eqC]
 have e4:∀ h:Heap,dV ((nx,.map (ci.take 3) [0,1,2] 3)::h) .str (.mp nx) (.str [119,111,114,100]) (.int .i64 32)=some ((nx,.map ci [0,1,2,3] 4)::(nx,.map (ci.take 3) [0,1,2] 3)::h):=fun h=>by simp [dV,af,bO,eI,dk,ci,eqC]
 simp -implicitDefEqProofs only [RA,aa,zp,↓reduceIte,reduceCtorEq,zq,zr,zs,zt,A84,Fo,e1,e2,e3,e4,R84]
 exact ⟨nx,rfl,by omega,by simp [af]⟩
theorem nB:∀ (n:Nat) (l:List Nat),l.Nodup→(∀ x∈l,x<n)→l.length≤n
 | 0,l,_,h=>by
  cases l with
  | nil=>simp
  | cons a l=>have:=h a (by simp);omega
 | n+1,l,hn,h=>by
  have ih:=nB n (l.erase n) (hn.erase n) fun x hx=>by
   have h1:=(List.Nodup.mem_erase_iff hn).1 hx
   have:=h x h1.2
   have:=h1.1
   omega
  rw [List.length_erase] at ih
  split at ih <;> omega
theorem wC:ofV (.tuple #[])=none:=rfl
theorem zi {i:Nat} {q x:AV} {s:Nat} (k1:ci[i]?=some (q,x)) (k2:[0,1,2,3][i]?=some s):s=i∧i<4∧∃ nm m,q=.str nm∧x=.int .i64 m∧jv m=nm∧nm≠[]∧ci[i]?=some (.str (jv m),.int .i64 m):=by
 have h4:i<4:=(G9.1 k1).1
 match i,h4 with
 | 0,_=>simp [ci] at k1 k2;exact ⟨k2.symm,by omega,_,_,k1.1.symm,k1.2.symm,rfl,by simp,rfl⟩
 | 1,_=>simp [ci] at k1 k2;exact ⟨k2.symm,by omega,_,_,k1.1.symm,k1.2.symm,rfl,by simp,rfl⟩
 | 2,_=>simp [ci] at k1 k2;exact ⟨k2.symm,by omega,_,_,k1.1.symm,k1.2.symm,rfl,by simp,rfl⟩
 | 3,_=>simp [ci] at k1 k2;exact ⟨k2.symm,by omega,_,_,k1.1.symm,k1.2.symm,rfl,by simp,rfl⟩
theorem xj {h:Heap} {n b i s:Nat} {seen:List Nat} {q x:AV} (hm:af h b=some (.map ci [0,1,2,3] 4)) (hn:n≠b) (k1:ci[i]?=some (q,x)) (k2:[0,1,2,3][i]?=some s):xk ((n,.mit b 4 (seen++[s]) 4)::h) (.op n 0)=some (.tup [q,x]):=by
 have h4:i<4:=(G9.1 k1).1
 have e1:af ((n,.mit b 4 (seen++[s]) 4)::h) n=some (.mit b 4 (seen++[s]) 4):=by rw [ai,if_pos rfl]
 have e2:af ((n,.mit b 4 (seen++[s]) 4)::h) b=some (.map ci [0,1,2,3] 4):=by rw [ai,if_neg hn];exact hm
 have e3:(seen++[s]).getLast?=some s:=by simp
 simp only [xk,e1,e2,e3,if_true]
 match i,h4 with
 | 0,_=>simp [ci] at k1 k2;subst k2;simp [oR,ci,k1]
 | 1,_=>simp [ci] at k1 k2;subst k2;simp [oR,ci,k1]
 | 2,_=>simp [ci] at k1 k2;subst k2;simp [oR,ci,k1]
 | 3,_=>simp [ci] at k1 k2;subst k2;simp [oR,ci,k1]
theorem w110 (w:Int):Pure Tryz.prog 110 [.int .i64 w] (.str (jv w)):=by
 refine Pure.of fun nx=>AC.go aj Eh (by simp) ?_
 simp -implicitDefEqProofs only [RA,aa,zp,↓reduceIte,reduceCtorEq,zq,zr,zs,zt,GY,Bn]
 refine (w84 nx).mono ?_
 rintro y h n ⟨b,rfl,hbn,hb⟩
 have er:wi h n (.mp b)=some ((n,.mit b 4 [] 4)::h):=by simp only [wi,hb]
 simp -implicitDefEqProofs only [RA,aa,zp,↓reduceIte,reduceCtorEq,zq,zr,zs,zt,er]
 refine aq (fun q st=>∃ seen:List Nat,q=4-seen.length∧seen.length≤4∧seen.Nodup∧(∀ s∈seen,s<4)∧(∀ i q m,ci[i]?=some (q,.int .i64 m)→i∈seen→m≠w)∧ab st.env 0=some (.int .i64 w)∧ab st.env 6=some (.op n 0)∧af st.heap n=some (.mit b 4 seen 4)∧af st.heap b=some (.map ci [0,1,2,3] 4)∧st.dm=[]) (n:=4) aj
  ⟨[],rfl,by simp,by simp,by simp,by simp,by simp [ab],by simp [ab],by simp [af],by rw [ai,if_neg (by omega)];exact hb,rfl⟩ ?_
 rintro q ⟨env,heap,nx',dm⟩ ⟨seen,rfl,hlen,hnd,hlt,hne,g0,g6,g7,g8,hdm⟩
 simp only at g0 g6 g7 g8 hdm
 subst hdm
 simp -implicitDefEqProofs only [RA,aa,zp,↓reduceIte,reduceCtorEq,zq,zr,zs,zt,yK,uh,g6,wC]
 refine ⟨rfl,b,4,4,4,seen,[0,1,2,3],ci,g7,g8,by decide,by omega,fun hall=>?_,fun i qq x s k1 k2 k3=>?_⟩
 ·have h1:=hne 0 _ 1 rfl (hall 0 (by simp))
  have h2:=hne 1 _ 8 rfl (hall 1 (by simp))
  have h3:=hne 2 _ 16 rfl (hall 2 (by simp))
  have h4:=hne 3 _ 32 rfl (hall 3 (by simp))
  have hw:jv w=[]:=by unfold jv;rw [if_neg (Ne.symm h1),if_neg (Ne.symm h2),if_neg (Ne.symm h3),if_neg (Ne.symm h4)]
  simp -implicitDefEqProofs only [RA,aa,zp,↓reduceIte,reduceCtorEq,zq,zr,zs,zt,CF,hw]
 ·have ee:=xj (n:=n) (b:=b) (seen:=seen) g8 (by omega) k1 k2
  obtain ⟨rfl,h4,nm,m,rfl,rfl,rfl,hnm,hat⟩:=zi k1 k2
  rcases ah (m=w) with ⟨c1,d1⟩|⟨c1,d1⟩
  ·subst c1
   simp -implicitDefEqProofs only [RA,aa,zp,↓reduceIte,reduceCtorEq,zq,zr,zs,zt,g0,g6,ee,CF]
  ·simp -implicitDefEqProofs only [RA,aa,zp,↓reduceIte,reduceCtorEq,zq,zr,zs,zt,g0,g6,ee,d1]
   have hnd2:(seen++[s]).Nodup:=by
    rw [List.nodup_append]
    exact ⟨hnd,by simp,fun a ha b hb e=>by simp at hb;subst hb;subst e;exact k3 ha⟩
   have hlt2:∀ t∈seen++[s],t<4:=fun t ht=>by
    rcases Hm.1 ht with h|h
    ·exact hlt t h
    ·simp at h;omega
   have hlen2:=nB 4 _ hnd2 hlt2
   rw [Hj] at hlen2
   simp only [Hc,Hd] at hlen2
   have hne2:∀ (j:Nat) (q':AV) (m':Int),ci[j]?=some (q',.int .i64 m')→j∈seen++[s]→m'≠w:=by
    intro j q' m' hj hjs
    rcases Hm.1 hjs with h|h
    ·exact hne j q' m' hj h
    ·simp at h;subst h
     rw [hat] at hj
     simp only [Option.some.injEq,Prod.mk.injEq,AV.int.injEq,true_and] at hj
     rw [← hj.2];exact c1
   refine ⟨4-(seen++[s]).length,by rw [Hj];simp only [Hc,Hd];omega,seen++[s],?_⟩
   repeat' apply And.intro
   all_goals first|assumption|rfl|(rw [Hj];exact hlen2)|(simp [ab, *];done)|(rw [if_neg (by omega)];exact g8)
theorem qX (w:Int):(jv w≠[])↔cm w=true:=by
 unfold jv cm
 by_cases h1:w=1 <;> by_cases h2:w=8 <;> by_cases h3:w=16 <;> by_cases h4:w=32 <;> simp [h1,h2,h3,h4]
theorem w78 (w:Int):Pure Tryz.prog 78 [.int .i64 w] (.bool (cm w)):=by
 refine Pure.of fun nx=>AC.go aj is78 (by simp) ?_
 simp -implicitDefEqProofs only [RA,aa,zp,↓reduceIte,reduceCtorEq,zq,zr,zs,zt,A78,Fx]
 refine (w110 w).use fun n1 hn1=>?_
 have e1:dM .neq (.str (jv w)) (.str [])=some (.bool (cm w)):=by
  rw [aG]
  simp only [aU]
  congr 2
  have:=qX w
  cases h:cm w
  ·rw [h] at this
   have h2:jv w=[]:=Classical.byContradiction fun h3=>by have:=this.1 h3;cases this
   rw [h2];rfl
  ·have h2:=this.2 h
   cases hw:jv w with
   | nil=>exact absurd hw h2
   | cons a l=>rfl
 simp -implicitDefEqProofs only [RA,aa,zp,↓reduceIte,reduceCtorEq,zq,zr,zs,zt,e1,R78]
def jG (i:Nat) (b:UInt8):Prop:=(97≤b.toNat∧b.toNat≤122)∨(65≤b.toNat∧b.toNat≤90)∨(i≠0∧(b.toNat=95∨(48≤b.toNat∧b.toNat≤57)))
def rF (s:List UInt8):Prop:=1≤s.length∧s.length≤24∧∀ j b,s[j]?=some b→jG j b
theorem w113 (s:List UInt8) (v:Bool) (hv:v=true↔rF s) (hs:s.length≤100000):Pure Tryz.prog 113 [.str s] (.bool v):=by
 refine Pure.of fun nx=>AC.go aj Ee (by simp) ?_
 by_cases l1:(s.length:Int)<1
 case pos =>
  obtain rfl:v=false:=by
   cases v with
   | false=>rfl
   | true=>have:=(hv.1 rfl).1;omega
  simp -implicitDefEqProofs only [RA,aa,zp,↓reduceIte,reduceCtorEq,zq,zr,zs,zt,An,ug,l1,xH]
 by_cases l2:(24:Int)<(s.length:Int)
 case pos =>
  obtain rfl:v=false:=by
   cases v with
   | false=>rfl
   | true=>have:=(hv.1 rfl).2.1;omega
  simp -implicitDefEqProofs only [RA,aa,zp,↓reduceIte,reduceCtorEq,zq,zr,zs,zt,An,ug,l1,l2,xH]
 simp -implicitDefEqProofs only [RA,aa,zp,↓reduceIte,reduceCtorEq,zq,zr,zs,zt,An,ug,l1,l2]
 refine aq (fun q st=>∃ i:Nat,q=s.length-i∧i≤s.length∧(∀ j b,j<i→s[j]?=some b→jG j b)∧ab st.env 0=some (.str s)∧ab st.env 15=some (.int .i64 s.length)∧ab st.env 16=some (.int .i64 i)∧st.dm=[]) (n:=s.length) aj
  ⟨0,rfl,by omega,fun j b hj=>by omega,by simp [ab],by simp [ab],by simp [ab],rfl⟩ ?_
 rintro q ⟨env,heap,nx',dm⟩ ⟨i,rfl,hi,hok,h0,h15,h16,hdm⟩
 simp only at h0 h15 h16 hdm
 subst hdm
 by_cases hl:(i:Int)<(s.length:Int)
 case neg =>
  obtain rfl:v=true:=hv.2 ⟨by omega,by omega,fun j b hb=>hok j b (by have:=(G9.1 hb).1;omega) hb⟩
  simp -implicitDefEqProofs only [RA,aa,zp,↓reduceIte,reduceCtorEq,zq,zr,zs,zt,pM,lZ,h15,h16,hl,xH]
 have hb:=G7 (show i<s.length by omega)
 generalize s[i]=b at hb
 have ei:(0:Int)≤(i:Int):=Ih _
 have f1:=wS (i:=i) (by omega)
 by_cases hk:jG i b
 ·have hok2:∀ j b,j<i+1→s[j]?=some b→jG j b:=by
   intro j b' hj hb'
   rcases Nat.lt_or_ge j i with h|h
   ·exact hok j b' h hb'
   ·obtain rfl:j=i:=by omega
    rw [hb] at hb';injection hb' with hb';subst hb';exact hk
  unfold jG at hk
  by_cases c1:(97:Int)≤(b.toNat:Int) <;> by_cases c2:(b.toNat:Int)≤122 <;> (try (exfalso;omega)) <;> by_cases c3:(65:Int)≤(b.toNat:Int) <;> (try (exfalso;omega)) <;> by_cases c4:(b.toNat:Int)≤90 <;> (try (exfalso;omega)) <;> rcases ah ((i:Int)=0) with ⟨c5,d5⟩|⟨c5,d5⟩ <;> (try (exfalso;omega)) <;> rcases ah ((b.toNat:Int)=95) with ⟨c6,d6⟩|⟨c6,d6⟩ <;> (try (exfalso;omega)) <;> by_cases c7:(b.toNat:Int)<48 <;> (try (exfalso;omega)) <;> by_cases c8:(57:Int)<(b.toNat:Int) <;> (try (exfalso;omega))
  all_goals
   simp -implicitDefEqProofs only [RA,aa,zp,↓reduceIte,reduceCtorEq,zq,zr,zs,zt,pM,lZ,h0,h15,h16,hl,ei,If,hb,unA,c1,c2,c3,c4,d5,d6,c7,c8,f1]
   refine ⟨s.length-(i+1),by omega,i+1,?_⟩
   repeat' apply And.intro
   all_goals first|assumption|rfl|omega|(simp [ab, *];done)
 ·obtain rfl:v=false:=by
   cases v with
   | false=>rfl
   | true=>exact absurd ((hv.1 rfl).2.2 i b hb) hk
  unfold jG at hk
  by_cases c1:(97:Int)≤(b.toNat:Int) <;> by_cases c2:(b.toNat:Int)≤122 <;> (try (exfalso;omega)) <;> by_cases c3:(65:Int)≤(b.toNat:Int) <;> (try (exfalso;omega)) <;> by_cases c4:(b.toNat:Int)≤90 <;> (try (exfalso;omega)) <;> rcases ah ((i:Int)=0) with ⟨c5,d5⟩|⟨c5,d5⟩ <;> (try (exfalso;omega)) <;> rcases ah ((b.toNat:Int)=95) with ⟨c6,d6⟩|⟨c6,d6⟩ <;> (try (exfalso;omega)) <;> by_cases c7:(b.toNat:Int)<48 <;> (try (exfalso;omega)) <;> by_cases c8:(57:Int)<(b.toNat:Int) <;> (try (exfalso;omega))
  all_goals
   simp -implicitDefEqProofs only [RA,aa,zp,↓reduceIte,reduceCtorEq,zq,zr,zs,zt,pM,lZ,h0,h15,h16,hl,ei,If,hb,unA,c1,c2,c3,c4,d5,d6,c7,c8,xH]
theorem w128 (s:List UInt8) (v:Bool) (hv:v=true↔rF s) (hs:s.length≤100000):Pure Tryz.prog 128 [.str s] (.bool v):=by
 refine Pure.of fun nx=>AC.go aj D1 (by simp) ?_
 by_cases l1:(s.length:Int)=0
 case pos =>
  obtain rfl:v=false:=by
   cases v with
   | false=>rfl
   | true=>have:=(hv.1 rfl).1;omega
  simp -implicitDefEqProofs only [RA,aa,zp,↓reduceIte,reduceCtorEq,zq,zr,zs,zt,Al,ue,l1,xG]
 by_cases l2:(24:Int)<(s.length:Int)
 case pos =>
  obtain rfl:v=false:=by
   cases v with
   | false=>rfl
   | true=>have:=(hv.1 rfl).2.1;omega
  simp -implicitDefEqProofs only [RA,aa,zp,↓reduceIte,reduceCtorEq,zq,zr,zs,zt,Al,ue,l1,l2,xG]
 simp -implicitDefEqProofs only [RA,aa,zp,↓reduceIte,reduceCtorEq,zq,zr,zs,zt,Al,ue,l1,l2]
 refine aq (fun q st=>∃ i:Nat,q=s.length-i∧i≤s.length∧(∀ j b,j<i→s[j]?=some b→jG j b)∧ab st.env 0=some (.str s)∧ab st.env 3=some (.int .i64 i)∧st.dm=[]) (n:=s.length) aj
  ⟨0,rfl,by omega,fun j b hj=>by omega,by simp [ab],by simp [ab],rfl⟩ ?_
 rintro q ⟨env,heap,nx',dm⟩ ⟨i,rfl,hi,hok,h0,h3,hdm⟩
 simp only at h0 h3 hdm
 subst hdm
 by_cases hl:(i:Int)<(s.length:Int)
 case neg =>
  obtain rfl:v=true:=hv.2 ⟨by omega,by omega,fun j b hb=>hok j b (by have:=(G9.1 hb).1;omega) hb⟩
  simp -implicitDefEqProofs only [RA,aa,zp,↓reduceIte,reduceCtorEq,zq,zr,zs,zt,pL,lY,h0,h3,hl,xG]
 have hb:=G7 (show i<s.length by omega)
 generalize s[i]=b at hb
 have ei:(0:Int)≤(i:Int):=Ih _
 have f1:=wS (i:=i) (by omega)
 by_cases hk:jG i b
 ·have hok2:∀ j b,j<i+1→s[j]?=some b→jG j b:=by
   intro j b' hj hb'
   rcases Nat.lt_or_ge j i with h|h
   ·exact hok j b' h hb'
   ·obtain rfl:j=i:=by omega
    rw [hb] at hb';injection hb' with hb';subst hb';exact hk
  unfold jG at hk
  by_cases c1:(97:Int)≤(b.toNat:Int) <;> by_cases c2:(b.toNat:Int)≤122 <;> (try (exfalso;omega)) <;> by_cases c3:(65:Int)≤(b.toNat:Int) <;> (try (exfalso;omega)) <;> by_cases c4:(b.toNat:Int)≤90 <;> (try (exfalso;omega)) <;> rcases ah ((i:Int)=0) with ⟨c5,d5⟩|⟨c5,d5⟩ <;> (try (exfalso;omega)) <;> rcases ah ((b.toNat:Int)=95) with ⟨c6,d6⟩|⟨c6,d6⟩ <;> (try (exfalso;omega)) <;> by_cases c7:(48:Int)≤(b.toNat:Int) <;> (try (exfalso;omega)) <;> by_cases c8:(b.toNat:Int)≤57 <;> (try (exfalso;omega))
  all_goals
   simp -implicitDefEqProofs only [RA,aa,zp,↓reduceIte,reduceCtorEq,zq,zr,zs,zt,pL,lY,h0,h3,hl,ei,If,hb,unA,c1,c2,c3,c4,d5,d6,c7,c8,f1]
   refine ⟨s.length-(i+1),by omega,i+1,?_⟩
   repeat' apply And.intro
   all_goals first|assumption|rfl|omega|(simp [ab, *];done)
 ·obtain rfl:v=false:=by
   cases v with
   | false=>rfl
   | true=>exact absurd ((hv.1 rfl).2.2 i b hb) hk
  unfold jG at hk
  by_cases c1:(97:Int)≤(b.toNat:Int) <;> by_cases c2:(b.toNat:Int)≤122 <;> (try (exfalso;omega)) <;> by_cases c3:(65:Int)≤(b.toNat:Int) <;> (try (exfalso;omega)) <;> by_cases c4:(b.toNat:Int)≤90 <;> (try (exfalso;omega)) <;> rcases ah ((i:Int)=0) with ⟨c5,d5⟩|⟨c5,d5⟩ <;> (try (exfalso;omega)) <;> rcases ah ((b.toNat:Int)=95) with ⟨c6,d6⟩|⟨c6,d6⟩ <;> (try (exfalso;omega)) <;> by_cases c7:(48:Int)≤(b.toNat:Int) <;> (try (exfalso;omega)) <;> by_cases c8:(b.toNat:Int)≤57 <;> (try (exfalso;omega))
  all_goals
   simp -implicitDefEqProofs only [RA,aa,zp,↓reduceIte,reduceCtorEq,zq,zr,zs,zt,pL,lY,h0,h3,hl,ei,If,hb,unA,c1,c2,c3,c4,d5,d6,c7,c8,xG]
instance (i:Nat) (b:UInt8):Decidable (jG i b):=by unfold jG;infer_instance
def nD:Nat→List UInt8→Bool
 | _,[]=>true
 | i,b::l=>decide (jG i b)&&nD (i+1) l
theorem nC:∀ (l:List UInt8) (i:Nat),nD i l=true↔∀ j b,l[j]?=some b→jG (i+j) b
 | [],i=>by simp [nD]
 | c::l,i=>by
  rw [nD,HR,decide_eq_true_eq,nC l (i+1)]
  constructor
  ·rintro ⟨h1,h2⟩ j b hb
   cases j with
   | zero=>simp at hb;subst hb;exact h1
   | succ j=>have:=h2 j b (by simpa using hb);rw [show i+(j+1)=i+1+j by omega];exact this
  ·intro h
   refine ⟨h 0 c rfl,fun j b hb=>?_⟩
   have:=h (j+1) b (by simpa using hb)
   rw [show i+1+j=i+(j+1) by omega];exact this
theorem tE {s:List UInt8} {v:Bool} (h:(decide (1≤s.length)&&(decide (s.length≤24)&&nD 0 s))=v):v=true↔rF s:=by
 subst h
 rw [HR,HR,decide_eq_true_eq,decide_eq_true_eq,nC]
 simp only [Nat.zero_add]
 exact Iff.rfl
def mJ (s:Nm):Bool:=decide (1≤s.length)&&(decide (s.length≤24)&&nD 0 s)
theorem Dr (s:Nm) (hs:s.length≤100000):Pure Tryz.prog 113 [.str s] (.bool (mJ s)):=w113 s _ (tE rfl) hs
theorem Dp (s:Nm) (hs:s.length≤100000):Pure Tryz.prog 128 [.str s] (.bool (mJ s)):=w128 s _ (tE rfl) hs
def fi {α:Type} (p:α→Bool):List α→Nat→Int
 | [],_=>-1
 | x::r,i=>if p x=true then (i:Int) else fi p r (i+1)
theorem fA {α:Type} {p:α→Bool} {l:List α} {i:Nat} {x:α} (h:l[i]?=some x):fi p (l.drop i) i=if p x=true then (i:Int) else fi p (l.drop (i+1)) (i+1):=by
 have hl:=(G9.1 h).1
 have e:l.drop i=x::l.drop (i+1):=by
  rw [List.drop_eq_getElem_cons hl];congr 1
  rw [G7 hl] at h;injection h
 rw [e,fi]
theorem iu {α:Type} (p:α→Bool):∀ (l:List α) (i:Nat),decide (0≤fi p l i)=l.any p
 | [],_=>by simp [fi]
 | x::r,i=>by
  simp only [fi,List.any_cons]
  split
  ·rename_i h;simp [h]
  ·rename_i h;rw [iu p r (i+1)];simp only [HV] at h;simp [h]
def iH (l:List Nm):AV:=.lst 1 (l.map fun s=>[.str s])
theorem mt (l:List Nm):dt (iH l)=some l.length:=by simp [iH,dP]
theorem jQ {l:List Nm} {n:Nat} {r:Nm} (h:l[n]?=some r):idxA 1 (iH l) (n:Int)=some (.fp [.str r]):=cY (f:=fun s=>[AV.str s]) h
theorem w135 (l:List Nm) (v:Nm) (hl:l.length≤100000):Pure Tryz.prog 135 [iH l,.str v] (.int .i64 (fi (fun x=>v==x) l 0)):=by
 refine Pure.of fun nx=>AC.go aj DV (by simp) ?_
 have lv:=mt l
 simp -implicitDefEqProofs only [RA,aa,zp,↓reduceIte,reduceCtorEq,zq,zr,zs,zt,GE,A2,lv]
 refine aq (fun q st=>∃ i:Nat,q=l.length-i∧i≤l.length∧fi (fun x=>v==x) (l.drop i) i=fi (fun x=>v==x) l 0∧ab st.env 0=some (iH l)∧ab st.env 1=some (.str v)∧ab st.env 7=some (.int .i64 l.length)∧ab st.env 8=some (.int .i64 i)∧st.dm=[]) (n:=l.length) aj
  ⟨0,rfl,by omega,by simp,by simp [ab],by simp [ab],by simp [ab],by simp [ab],rfl⟩ ?_
 rintro q ⟨env,heap,nx',dm⟩ ⟨i,rfl,hi,hf,g0,g1,g7,g8,hdm⟩
 simp only at g0 g1 g7 g8 hdm
 subst hdm
 by_cases hc:(i:Int)<(l.length:Int)
 case neg =>
  have:l.drop i=[]:=Hb (by omega)
  rw [this,fi] at hf
  rw [← hf]
  simp -implicitDefEqProofs only [RA,aa,zp,↓reduceIte,reduceCtorEq,zq,zr,zs,zt,pI,lW,g7,g8,hc,CA]
 have hr:=G7 (show i<l.length by omega)
 generalize l[i]=r at hr
 rw [fA hr] at hf
 have ix:=jQ hr
 have f1:=wS (i:=i) (by omega)
 cases hv:(v==r) with
 | true =>
  simp only [hv,if_true] at hf
  rw [← hf]
  simp -implicitDefEqProofs only [RA,aa,zp,↓reduceIte,reduceCtorEq,zq,zr,zs,zt,pI,lW,g0,g1,g7,g8,hc,ix,aG,aU,hv,CA]
 | false =>
  simp only [hv,HQ,if_false] at hf
  simp -implicitDefEqProofs only [RA,aa,zp,↓reduceIte,reduceCtorEq,zq,zr,zs,zt,pI,lW,g0,g1,g7,g8,hc,ix,aG,aU,hv,f1]
  refine ⟨l.length-(i+1),by omega,i+1,?_⟩
  repeat' apply And.intro
  all_goals first|assumption|rfl|omega|(simp [ab, *];done)
theorem w114 (l:List Nm) (v:Nm) (hl:l.length≤100000):Pure Tryz.prog 114 [iH l,.str v] (.bool (l.any fun x=>v==x)):=by
 refine Pure.of fun nx=>AC.go aj Ed (by simp) ?_
 simp -implicitDefEqProofs only [RA,aa,zp,↓reduceIte,reduceCtorEq,zq,zr,zs,zt,GW,Bl]
 refine (w135 l v hl).use fun n1 hn1=>?_
 have e:=iu (fun x=>v==x) l 0
 simp -implicitDefEqProofs only [RA,aa,zp,↓reduceIte,reduceCtorEq,zq,zr,zs,zt,e,E9]
def fS:List Nm:=[[97,114,114,97,121],[102,117,110,99],[118,97,114],[105,102],[101,108,115,101],[119,104,105,108,101],[98,114,101,97,107],[116,101,108,108],[114,101,116,117,114,110],[115,105,103,110,101,100],[98,105,116],[98,121,116,101],[104,97,108,102],[119,111,114,100]]
theorem w115:Pure Tryz.prog 115 [] (iH fS):=by
 refine Pure.of fun nx=>AC.go aj Ec (by simp) ?_
 have n0:((14:Nat)=0)=False:=eq_false (by decide)
 simp -implicitDefEqProofs only [RA,aa,zp,↓reduceIte,reduceCtorEq,zq,zr,zs,zt,GV,Bj,n0,E8,if_false]
 rfl
def du (s:Nm):Bool:=mJ s&&!(fS.any fun x=>s==x)
theorem w80 (s:Nm) (hs:s.length≤100000):Pure Tryz.prog 80 [.str s] (.bool (du s)):=by
 refine Pure.of fun nx=>AC.go aj is80 (by simp) ?_
 simp -implicitDefEqProofs only [RA,aa,zp,↓reduceIte,reduceCtorEq,zq,zr,zs,zt,A80,Fv]
 refine (Dr s hs).use fun n1 hn1=>?_
 cases h:mJ s with
 | false =>
  have e:du s=false:=by simp [du,h]
  simp -implicitDefEqProofs only [RA,aa,zp,↓reduceIte,reduceCtorEq,zq,zr,zs,zt,h,e,R80]
 | true =>
  have e:du s=!(fS.any fun x=>s==x):=by simp [du,h]
  simp -implicitDefEqProofs only [RA,aa,zp,↓reduceIte,reduceCtorEq,zq,zr,zs,zt,h]
  refine w115.use fun n2 hn2=>?_
  simp -implicitDefEqProofs only [RA,aa,zp,↓reduceIte,reduceCtorEq,zq,zr,zs,zt]
  refine (w114 fS s (by decide)).use fun n3 hn3=>?_
  simp -implicitDefEqProofs only [RA,aa,zp,↓reduceIte,reduceCtorEq,zq,zr,zs,zt,unA,e,R80]
theorem w129 (s:Nm):Pure Tryz.prog 129 [.str s] (.bool (fS.any fun x=>s==x)):=by
 refine Pure.of fun nx=>AC.go aj D0 (by simp) ?_
 have lv:=mt fS
 have e0:∀ i:Nat,fi (fun x=>s==x) (fS.drop i) i=fi (fun x=>s==x) fS 0→decide (0≤fi (fun x=>s==x) (fS.drop i) i)=fS.any fun x=>s==x:=fun i h=>by rw [h,iu]
 have eo:iH fS=.lst 1 [[.str [97,114,114,97,121]],[.str [102,117,110,99]],[.str [118,97,114]],[.str [105,102]],[.str [101,108,115,101]],[.str [119,104,105,108,101]],[.str [98,114,101,97,107]],[.str [116,101,108,108]],[.str [114,101,116,117,114,110]],[.str [115,105,103,110,101,100]],[.str [98,105,116]],[.str [98,121,116,101]],[.str [104,97,108,102]],[.str [119,111,114,100]]]:=rfl
 simp -implicitDefEqProofs only [RA,aa,zp,↓reduceIte,reduceCtorEq,zq,zr,zs,zt,GJ,A8]
 refine aq (fun q st=>∃ i:Nat,q=fS.length-i∧i≤fS.length∧fi (fun x=>s==x) (fS.drop i) i=fi (fun x=>s==x) fS 0∧ab st.env 0=some (.str s)∧ab st.env 3=some (.int .i64 i)∧st.dm=[]) (n:=fS.length) aj
  ⟨0,rfl,by omega,by simp,by simp [ab],by simp [ab],rfl⟩ ?_
 rintro q ⟨env,heap,nx',dm⟩ ⟨i,rfl,hi,hf,g0,g3,hdm⟩
 simp only at g0 g3 hdm
 subst hdm
 have e1:=e0 i hf
 have l14:fS.length=14:=rfl
 by_cases hc:(i:Int)<(fS.length:Int)
 case neg =>
  have:fS.drop i=[]:=Hb (by omega)
  rw [this,fi] at e1
  rw [← e1]
  simp -implicitDefEqProofs only [RA,aa,zp,↓reduceIte,reduceCtorEq,zq,zr,zs,zt,pK,lX,← eo,lv,g0,g3,hc,CB]
  rfl
 have hr:=G7 (show i<fS.length by omega)
 generalize fS[i]=r at hr
 rw [fA hr] at hf e1
 have ix:=jQ hr
 have f1:=wS (i:=i) (by omega)
 have hsym:(r==s)=(s==r):=by
  cases h:(r==s) <;> cases h2:(s==r) <;> simp_all
 cases hv:(s==r) with
 | true =>
  simp only [hv,if_true] at e1
  have:decide ((0:Int)≤(i:Int))=true:=by simp
  rw [this] at e1
  rw [← e1]
  simp -implicitDefEqProofs only [RA,aa,zp,↓reduceIte,reduceCtorEq,zq,zr,zs,zt,pK,lX,← eo,lv,g0,g3,hc,ix,aG,aU,hsym,hv,CB]
 | false =>
  simp only [hv,HQ,if_false] at hf
  simp -implicitDefEqProofs only [RA,aa,zp,↓reduceIte,reduceCtorEq,zq,zr,zs,zt,pK,lX,← eo,lv,g0,g3,hc,ix,aG,aU,hsym,hv,f1]
  refine ⟨fS.length-(i+1),by omega,i+1,?_⟩
  repeat' apply And.intro
  all_goals first|assumption|rfl|omega|(simp [ab, *];done)
theorem w97 (s:Nm) (hs:s.length≤100000):Pure Tryz.prog 97 [.str s] (.bool (du s)):=by
 refine Pure.of fun nx=>AC.go aj is97 (by simp) ?_
 simp -implicitDefEqProofs only [RA,aa,zp,↓reduceIte,reduceCtorEq,zq,zr,zs,zt,A97,Fd]
 refine (Dp s hs).use fun n1 hn1=>?_
 cases h:mJ s with
 | false =>
  have e:du s=false:=by simp [du,h]
  simp -implicitDefEqProofs only [RA,aa,zp,↓reduceIte,reduceCtorEq,zq,zr,zs,zt,h,e,R97]
 | true =>
  have e:du s=!(fS.any fun x=>s==x):=by simp [du,h]
  simp -implicitDefEqProofs only [RA,aa,zp,↓reduceIte,reduceCtorEq,zq,zr,zs,zt,h]
  refine (w129 s).use fun n2 hn2=>?_
  simp -implicitDefEqProofs only [RA,aa,zp,↓reduceIte,reduceCtorEq,zq,zr,zs,zt,unA,e,R97]
theorem aP (l:List Ex):dt (aR l)=some l.length:=by simp [aR,dP]
theorem bA {l:List Ex} {n:Nat} {r:Ex} (h:l[n]?=some r):idxA 6 (aR l) (n:Int)=some (.fp (exE r)):=cY h
theorem bI (x:Ex):(exE x).length=6:=by rw [eT];rfl
theorem bC (x:Ex):(exE x).take 6=exE x:=Ha (by rw [bI];omega)
theorem fT (x:Ex):bM x=aN x.sub+1:=by cases x;simp [bM,Ex.sub]
theorem mR (x:Ex):depth x=bT x.sub+1:=by cases x;simp [depth,Ex.sub]
theorem jI:∀ (a b:List Ex),aN (a++b)=aN a+aN b
 | [],b=>by simp [aN]
 | x::a,b=>by simp only [HE,aN,jI a b];omega
theorem jK:∀ (a b:List Ex),bT (a++b)=max (bT a) (bT b)
 | [],b=>by simp [bT]
 | x::a,b=>by simp only [HE,bT,jK a b];omega
theorem az {α:Type} {l:List α} {i:Nat} {r:α} (h:l[i]?=some r):l.take (i+1)=l.take i++[r]:=by
 rw [List.take_add_one,h];rfl
theorem iT {l:List Ex} {i:Nat} {r:Ex} (h:l[i]?=some r):aN (l.take (i+1))=aN (l.take i)+bM r:=by
 rw [az h,jI];simp [aN]
theorem ly {l:List Ex} {i:Nat} {r:Ex} (h:l[i]?=some r):bT (l.take (i+1))=max (bT (l.take i)) (depth r):=by
 rw [az h,jK];simp [bT]
theorem kJ {l:List Ex} (i:Nat):aN (l.take i)≤aN l:=by
 have:=jI (l.take i) (l.drop i)
 rw [List.take_append_drop] at this
 omega
theorem cV (x:Ex):1≤bM x:=by rw [fT];omega
theorem aE:∀ (l:List Ex),l.length≤aN l
 | []=>by simp
 | x::r=>by have:=aE r;have:=cV x;simp only [Hc,aN];omega
theorem ii {l:List Ex} {i:Nat} {r:Ex} (h:l[i]?=some r):bM r≤aN l:=by
 have:=iT h
 have:=kJ (l:=l) (i+1)
 omega
theorem qG:∀ (n:Nat) (x:Ex),bM x≤n→depth x≤bM x:=by
 intro n
 induction n with
 | zero=>intro x hx;have:=cV x;omega
 | succ n ih =>
  intro x hx
  rw [mR,fT] at *
  have key:∀ l:List Ex,aN l≤n→bT l≤aN l:=by
   intro l
   induction l with
   | nil=>intro _;simp [bT]
   | cons y l ihl =>
    intro hl
    simp only [aN,bT] at hl ⊢
    have:=ih y (by omega)
    have:=ihl (by omega)
    omega
  have:=key x.sub (by omega)
  omega
theorem kd {l:List Ex} (i:Nat):bT (l.take i)≤aN l:=by
 have h1:bT (l.take i)≤bT l:=by
  have:=jK (l.take i) (l.drop i)
  rw [List.take_append_drop] at this
  omega
 have h2:∀ l:List Ex,bT l≤aN l:=by
  intro l
  induction l with
  | nil=>simp [bT]
  | cons y l ihl=>simp only [aN,bT];have:=qG _ y (H4 _);omega
 have:=h2 l
 omega
theorem w77:∀ (n:Nat) (x:Ex),bM x≤n→bM x≤4611686018427387904→Pure Tryz.prog 77 [.agg (exE x)] (.tup [.int .i64 (bM x),.int .i64 (depth x)]):=by
 intro n
 induction n with
 | zero=>intro x hx;have:=cV x;omega
 | succ n ih =>
  intro x hn hB
  refine Pure.of fun nx=>AC.go aj is77 (by simp) ?_
  have hnd:=fT x
  have hdd:=mR x
  have hlen:=aE x.sub
  have hdl:=kd (l:=x.sub) x.sub.length
  rw [Ht] at hdl
  have lv:=aP x.sub
  rw [eT]
  simp -implicitDefEqProofs only [RA,aa,zp,↓reduceIte,reduceCtorEq,zq,zr,zs,zt,A77,Fy,lv]
  refine aq (fun q st=>∃ i:Nat,q=x.sub.length-i∧i≤x.sub.length∧ab st.env 2=some (.int .i64 (aN (x.sub.take i)))∧ab st.env 3=some (.int .i64 (bT (x.sub.take i)))∧ab st.env 9=some (aR x.sub)∧ab st.env 10=some (.int .i64 x.sub.length)∧ab st.env 11=some (.int .i64 i)∧st.dm=[]) (n:=x.sub.length) aj
   ⟨0,rfl,by omega,by simp [ab,aN],by simp [ab,bT],by simp [ab],by simp [ab],by simp [ab],rfl⟩ ?_
  rintro q ⟨env,heap,nx',dm⟩ ⟨i,rfl,hi,g2,g3,g9,g10,g11,hdm⟩
  simp only at g2 g3 g9 g10 g11 hdm
  subst hdm
  have f1:=wS (i:=i) (by omega)
  by_cases hc:(i:Int)<(x.sub.length:Int)
  case neg =>
   have ht:x.sub.take i=x.sub:=Ha (by omega)
   rw [ht] at g2 g3
   have a1:IntKind.i64.wrap ((aN x.sub:Int)+1)=(bM x:Int):=by rw [w64 (by omega) (by omega)];omega
   have a2:IntKind.i64.wrap ((bT x.sub:Int)+1)=(depth x:Int):=by rw [w64 (by omega) (by omega)];omega
   simp -implicitDefEqProofs only [RA,aa,zp,↓reduceIte,reduceCtorEq,zq,zr,zs,zt,xT,r9,g2,g3,g10,g11,hc,a1,a2,R77]
  have hr:=G7 (show i<x.sub.length by omega)
  generalize x.sub[i]=r at hr
  have ix:=bA hr
  have m1:=ii hr
  have t1:=iT hr
  have t2:=ly hr
  have t3:=kJ (l:=x.sub) (i+1)
  have rl:=bI r
  have rt:=bC r
  simp -implicitDefEqProofs only [RA,aa,zp,↓reduceIte,reduceCtorEq,zq,zr,zs,zt,xT,r9,g2,g3,g9,g10,g11,hc,ix,rl,rt]
  refine (ih r (by omega) (by omega)).use fun n1 hn1=>?_
  have a1:IntKind.i64.wrap ((aN (x.sub.take i):Int)+(bM r:Int))=(aN (x.sub.take (i+1)):Int):=by rw [w64 (by omega) (by omega)];omega
  have a2:(if (depth r:Int) > (bT (x.sub.take i):Int) then (depth r:Int) else (bT (x.sub.take i):Int))=(bT (x.sub.take (i+1)):Int):=by split <;> omega
  simp -implicitDefEqProofs only [RA,aa,zp,↓reduceIte,reduceCtorEq,zq,zr,zs,zt,g2,g3,g11,f1,a1,a2,gt_iff_lt]
  refine ⟨x.sub.length-(i+1),by omega,i+1,?_⟩
  repeat' apply And.intro
  all_goals first|assumption|rfl|omega|(simp [ab, *];done)
theorem xr (x:Ex):(decide (50<(bM x:Int))||decide (14<(depth x:Int)))=big x:=by
 unfold big
 congr 1
 ·apply decide_eq_decide.2;omega
 ·apply decide_eq_decide.2;omega
theorem w37 (x:Ex) (hx:bM x≤4611686018427387904):Pure Tryz.prog 37 [.agg (exE x)] (.bool (big x)):=by
 refine Pure.of fun nx=>AC.go aj is37 (by simp) ?_
 have rl:=bI x
 have rt:=bC x
 have e:=xr x
 simp -implicitDefEqProofs only [RA,aa,zp,↓reduceIte,reduceCtorEq,zq,zr,zs,zt,A37,F5,rl,rt]
 refine (w77 _ x (H4 _) hx).use fun n1 hn1=>?_
 rcases ah ((50:Int)<(bM x:Int)) with ⟨c1,d1⟩|⟨c1,d1⟩
 ·simp only [d1,decide_true,Bool.true_or] at e
  simp -implicitDefEqProofs only [RA,aa,zp,↓reduceIte,reduceCtorEq,zq,zr,zs,zt,d1,← e,R37]
 ·simp only [d1,decide_false,Bool.false_or] at e
  simp -implicitDefEqProofs only [RA,aa,zp,↓reduceIte,reduceCtorEq,zq,zr,zs,zt,d1,e,R37]
theorem w94:∀ (n:Nat) (x:Ex),bM x≤n→bM x≤4611686018427387904→Pure Tryz.prog 94 [.agg (exE x)] (.int .i64 (bM x)):=by
 intro n
 induction n with
 | zero=>intro x hx;have:=cV x;omega
 | succ n ih =>
  intro x hn hB
  refine Pure.of fun nx=>AC.go aj is94 (by simp) ?_
  have hnd:=fT x
  have hlen:=aE x.sub
  have lv:=aP x.sub
  rw [eT]
  simp -implicitDefEqProofs only [RA,aa,zp,↓reduceIte,reduceCtorEq,zq,zr,zs,zt,A94,Ff,lv]
  refine aq (fun q st=>∃ i:Nat,q=x.sub.length-i∧i≤x.sub.length∧ab st.env 1=some (.op nx 0)∧ab st.env 3=some (.int .i64 (aN (x.sub.take i)+1))∧ab st.env 4=some (.int .i64 i)∧af st.heap nx=some (.cells [.int .u8 x.kind,.int .i64 x.width,.int .u64 x.bits,.str x.name,.int .u8 x.op,aR x.sub])∧st.dm=[]) (n:=x.sub.length) aj
   ⟨0,rfl,by omega,by simp [ab],by simp [ab,aN],by simp [ab],by simp [af],rfl⟩ ?_
  rintro q ⟨env,heap,nx',dm⟩ ⟨i,rfl,hi,g1,g3,g4,gh,hdm⟩
  simp only at g1 g3 g4 gh hdm
  subst hdm
  have f1:=wS (i:=i) (by omega)
  by_cases hc:(i:Int)<(x.sub.length:Int)
  case neg =>
   have ht:x.sub.take i=x.sub:=Ha (by omega)
   rw [ht] at g3
   have e3:(aN x.sub:Int)+1=(bM x:Int):=by omega
   rw [e3] at g3
   simp -implicitDefEqProofs only [RA,aa,zp,↓reduceIte,reduceCtorEq,zq,zr,zs,zt,xQ,r6,g1,g3,g4,gh,lv,hc,R94]
  have hr:=G7 (show i<x.sub.length by omega)
  generalize x.sub[i]=r at hr
  have ix:=bA hr
  have m1:=ii hr
  have t1:=iT hr
  have t3:=kJ (l:=x.sub) (i+1)
  have rl:=bI r
  have rt:=bC r
  simp -implicitDefEqProofs only [RA,aa,zp,↓reduceIte,reduceCtorEq,zq,zr,zs,zt,xQ,r6,g1,g3,g4,gh,lv,hc,ix,rl,rt]
  refine (ih r (by omega) (by omega)).use fun n1 hn1=>?_
  have a1:IntKind.i64.wrap ((aN (x.sub.take i):Int)+1+(bM r:Int))=(aN (x.sub.take (i+1)):Int)+1:=by rw [w64 (by omega) (by omega)];omega
  simp -implicitDefEqProofs only [RA,aa,zp,↓reduceIte,reduceCtorEq,zq,zr,zs,zt,g1,g3,g4,f1,a1]
  refine ⟨x.sub.length-(i+1),by omega,i+1,?_⟩
  repeat' apply And.intro
  all_goals first|assumption|rfl|omega|(simp [ab, *];done)
theorem w95:∀ (n:Nat) (x:Ex),bM x≤n→bM x≤4611686018427387904→Pure Tryz.prog 95 [.agg (exE x)] (.int .i64 (depth x)):=by
 intro n
 induction n with
 | zero=>intro x hx;have:=cV x;omega
 | succ n ih =>
  intro x hn hB
  refine Pure.of fun nx=>AC.go aj is95 (by simp) ?_
  have hnd:=fT x
  have hdd:=mR x
  have hlen:=aE x.sub
  have hdl:=kd (l:=x.sub) x.sub.length
  rw [Ht] at hdl
  have lv:=aP x.sub
  rw [eT]
  simp -implicitDefEqProofs only [RA,aa,zp,↓reduceIte,reduceCtorEq,zq,zr,zs,zt,A95,Fe,lv]
  refine aq (fun q st=>∃ i:Nat,q=x.sub.length-i∧i≤x.sub.length∧ab st.env 1=some (.op nx 0)∧ab st.env 3=some (.int .i64 (bT (x.sub.take i)))∧ab st.env 4=some (.int .i64 i)∧af st.heap nx=some (.cells [.int .u8 x.kind,.int .i64 x.width,.int .u64 x.bits,.str x.name,.int .u8 x.op,aR x.sub])∧st.dm=[]) (n:=x.sub.length) aj
   ⟨0,rfl,by omega,by simp [ab],by simp [ab,bT],by simp [ab],by simp [af],rfl⟩ ?_
  rintro q ⟨env,heap,nx',dm⟩ ⟨i,rfl,hi,g1,g3,g4,gh,hdm⟩
  simp only at g1 g3 g4 gh hdm
  subst hdm
  have f1:=wS (i:=i) (by omega)
  by_cases hc:(i:Int)<(x.sub.length:Int)
  case neg =>
   have ht:x.sub.take i=x.sub:=Ha (by omega)
   rw [ht] at g3
   have a2:IntKind.i64.wrap ((bT x.sub:Int)+1)=(depth x:Int):=by rw [w64 (by omega) (by omega)];omega
   simp -implicitDefEqProofs only [RA,aa,zp,↓reduceIte,reduceCtorEq,zq,zr,zs,zt,xP,r5,g1,g3,g4,gh,lv,hc,a2,R95]
  have hr:=G7 (show i<x.sub.length by omega)
  generalize x.sub[i]=r at hr
  have ix:=bA hr
  have m1:=ii hr
  have t2:=ly hr
  have rl:=bI r
  have rt:=bC r
  simp -implicitDefEqProofs only [RA,aa,zp,↓reduceIte,reduceCtorEq,zq,zr,zs,zt,xP,r5,g1,g3,g4,gh,lv,hc,ix,rl,rt]
  refine (ih r (by omega) (by omega)).use fun n1 hn1=>?_
  have a2:(if (depth r:Int) > (bT (x.sub.take i):Int) then (depth r:Int) else (bT (x.sub.take i):Int))=(bT (x.sub.take (i+1)):Int):=by split <;> omega
  simp -implicitDefEqProofs only [RA,aa,zp,↓reduceIte,reduceCtorEq,zq,zr,zs,zt,g1,g3,g4,f1,a2,gt_iff_lt]
  refine ⟨x.sub.length-(i+1),by omega,i+1,?_⟩
  repeat' apply And.intro
  all_goals first|assumption|rfl|omega|(simp [ab, *];done)
theorem w46 (x:Ex) (hx:bM x≤4611686018427387904):Pure Tryz.prog 46 [.agg (exE x)] (.bool (big x)):=by
 refine Pure.of fun nx=>AC.go aj is46 (by simp) ?_
 have rl:=bI x
 have rt:=bC x
 have e:=xr x
 simp -implicitDefEqProofs only [RA,aa,zp,↓reduceIte,reduceCtorEq,zq,zr,zs,zt,A46,FX,rl,rt]
 refine (w94 _ x (H4 _) hx).use fun n1 hn1=>?_
 rcases ah ((50:Int)<(bM x:Int)) with ⟨c1,d1⟩|⟨c1,d1⟩
 ·simp only [d1,decide_true,Bool.true_or] at e
  simp -implicitDefEqProofs only [RA,aa,zp,↓reduceIte,reduceCtorEq,zq,zr,zs,zt,d1,← e,R46]
 ·simp only [d1,decide_false,Bool.false_or] at e
  simp -implicitDefEqProofs only [RA,aa,zp,↓reduceIte,reduceCtorEq,zq,zr,zs,zt,d1,rl,rt]
  refine (w95 _ x (H4 _) hx).use fun n2 hn2=>?_
  simp -implicitDefEqProofs only [RA,aa,zp,↓reduceIte,reduceCtorEq,zq,zr,zs,zt,d1,e,R46]
theorem dI {P:Program} {f:FuncId} {xs:List AV} {h:Heap} {nx:Nat} {r:AV} (hc:AC P f xs h nx fun y h' n'=>y=.ret r∧∀ b o,b<nx→af h b=some o→af h' b=some o):AC P f xs h nx fun y h' n'=>y=.ret r∧h'=h∧nx≤n' :=
 AC.live hc.1 fun hlive=>hc.sub fun y h' n' hle ⟨hy,hk⟩=>⟨h,fun b o hb=>hk b o (hlive b o hb) hb,hy,rfl,hle⟩
theorem aT (l:List Ex):cellsOf (aR l)=[aR l]:=rfl
theorem aS (l:List Ex):(aR l).plain=true:=rfl
theorem aB (l:List Sm):cellsOf (ay l)=[ay l]:=rfl
theorem aA (l:List Sm):(ay l).plain=true:=rfl
theorem bf (l:List Ar):cellsOf (bU l)=[bU l]:=rfl
theorem bc (l:List Ar):(bU l).plain=true:=rfl
theorem be (l:List Fu):cellsOf (bR l)=[bR l]:=rfl
theorem ba (l:List Fu):(bR l).plain=true:=rfl
theorem aY (l:List Pm):cellsOf (bw l)=[bw l]:=rfl
theorem aX (l:List Pm):(bw l).plain=true:=rfl
theorem jo {α:Type} (g:α→Bool):∀ l:List α,(!(l.any fun x=>!g x))=l.all g
 | []=>rfl
 | x::r=>by
  simp only [List.any_cons,List.all_cons,Bool.not_or,Bool.not_not,jo g r]
theorem aO (l:List Sm):dt (ay l)=some l.length:=by simp [ay,dP]
theorem eQ {l:List Sm} {n:Nat} {r:Sm} (h:l[n]?=some r):idxA 7 (ay l) (n:Int)=some (.fp (smE r)):=cY h
theorem iL (x:Sm):(smE x).length=7:=by rw [mA];rfl
theorem jS (x:Sm):(smE x).take 7=smE x:=Ha (by rw [iL];omega)
theorem eV (l:List Ar):dt (bU l)=some l.length:=by simp [bU,dP]
theorem cO {l:List Ar} {n:Nat} {r:Ar} (h:l[n]?=some r):idxA 3 (bU l) (n:Int)=some (.fp (arE r)):=cY h
theorem oW (x:Ar):(arE x).length=3:=rfl
theorem lS (x:Ar):(arE x).take 3=arE x:=rfl
theorem cZ (l:List Fu):dt (bR l)=some l.length:=by simp [bR,dP]
theorem cJ {l:List Fu} {n:Nat} {r:Fu} (h:l[n]?=some r):idxA 4 (bR l) (n:Int)=some (.fp (fuE r)):=cY h
theorem mO (x:Fu):(fuE x).length=4:=rfl
theorem jZ (x:Fu):(fuE x).take 4=fuE x:=rfl
theorem cq (l:List Pm):dt (bw l)=some l.length:=by simp [bw,dP]
theorem dj {l:List Pm} {n:Nat} {r:Pm} (h:l[n]?=some r):idxA 2 (bw l) (n:Int)=some (.fp (pmE r)):=cY h
theorem kF (x:Pm):(pmE x).length=2:=rfl
theorem ji (x:Pm):(pmE x).take 2=pmE x:=rfl
theorem w136 {c:FuncId} {caps:List AV} (p:Ex→Bool) (l:List Ex) (h:Heap) (nx:Nat) (hl:l.length≤4611686018427387904) (hp:∀ x∈l,∀ n,nx≤n→AC Tryz.prog c (.agg (exE x)::caps) h n fun y h' n'=>y=.ret (.bool (p x))∧h'=h∧n≤n') :
  AC Tryz.prog 136 [aR l,.fn (.func c) caps] h nx fun y h' n'=>y=.ret (.int .i64 (fi p l 0))∧h'=h∧nx≤n':=by
 refine AC.go aj DU (by simp) ?_
 have lv:=aP l
 simp -implicitDefEqProofs only [RA,aa,zp,↓reduceIte,reduceCtorEq,zq,zr,zs,zt,GD,A1,lv]
 refine aq (fun q st=>∃ i:Nat,q=l.length-i∧i≤l.length∧fi p (l.drop i) i=fi p l 0∧ab st.env 0=some (aR l)∧ab st.env 1=some (.fn (.func c) caps)∧ab st.env 7=some (.int .i64 l.length)∧ab st.env 8=some (.int .i64 i)∧st.heap=h∧nx≤st.nx∧st.dm=[]) (n:=l.length) aj
  ⟨0,rfl,by omega,by simp,by simp [ab],by simp [ab],by simp [ab],by simp [ab],rfl,H4 _,rfl⟩ ?_
 rintro q ⟨env,heap,nx',dm⟩ ⟨i,rfl,hi,hf,g0,g1,g7,g8,hh,hnx,hdm⟩
 simp only at g0 g1 g7 g8 hh hnx hdm
 subst hdm;subst hh
 by_cases hc:(i:Int)<(l.length:Int)
 case neg =>
  have:l.drop i=[]:=Hb (by omega)
  rw [this,fi] at hf
  rw [← hf]
  simp -implicitDefEqProofs only [RA,aa,zp,↓reduceIte,reduceCtorEq,zq,zr,zs,zt,sT,pH,g7,g8,hc,Cz]
  exact hnx
 have hr:=G7 (show i<l.length by omega)
 generalize l[i]=r at hr
 rw [fA hr] at hf
 have ix:=bA hr
 have rl:=bI r
 have rt:=bC r
 have f1:=wS (i:=i) (by omega)
 simp -implicitDefEqProofs only [RA,aa,zp,↓reduceIte,reduceCtorEq,zq,zr,zs,zt,sT,pH,g0,g1,g7,g8,hc,ix,rl,rt]
 refine (hp r (G8 hr) nx' hnx).mono ?_
 rintro y h' n1 ⟨rfl,rfl,hn1⟩
 cases hv:p r with
 | true =>
  simp only [hv,if_true] at hf
  rw [← hf]
  simp -implicitDefEqProofs only [RA,aa,zp,↓reduceIte,reduceCtorEq,zq,zr,zs,zt,g0,g1,g7,g8,Cz]
  omega
 | false =>
  simp only [hv,HQ,if_false] at hf
  simp -implicitDefEqProofs only [RA,aa,zp,↓reduceIte,reduceCtorEq,zq,zr,zs,zt,g0,g1,g7,g8,f1]
  refine ⟨l.length-(i+1),by omega,i+1,?_⟩
  repeat' apply And.intro
  all_goals first|assumption|rfl|omega|(simp [ab, *];done)
theorem Dq {c:FuncId} {caps:List AV} (p:Ex→Bool) (l:List Ex) (h:Heap) (nx:Nat) (hl:l.length≤4611686018427387904) (hp:∀ x∈l,∀ n,nx≤n→AC Tryz.prog c (.agg (exE x)::caps) h n fun y h' n'=>y=.ret (.bool (p x))∧h'=h∧n≤n') :
  AC Tryz.prog 116 [aR l,.fn (.func c) caps] h nx fun y h' n'=>y=.ret (.bool (l.any p))∧h'=h∧nx≤n':=by
 refine AC.go aj Eb (by simp) ?_
 simp -implicitDefEqProofs only [RA,aa,zp,↓reduceIte,reduceCtorEq,zq,zr,zs,zt,GU,Bi]
 refine (w136 p l h nx hl hp).mono ?_
 rintro y h' n1 ⟨rfl,rfl,hn1⟩
 have e:=iu p l 0
 simp -implicitDefEqProofs only [RA,aa,zp,↓reduceIte,reduceCtorEq,zq,zr,zs,zt,e,E7]
 exact hn1
theorem w117 {c:FuncId} (g:Ex→Bool) (x:Ex) (b:Nat) (h:Heap) (nx:Nat) (hb:af h b=some (.cells [.fn (.func c) []])) (hbn:b<nx) (hp:Pure Tryz.prog c [.agg (exE x)] (.bool (g x))) :
  AC Tryz.prog 117 [.agg (exE x),.op b 0] h nx fun y h' n'=>y=.ret (.bool (!g x))∧h'=h∧nx≤n':=by
 refine dI (AC.go aj Ea (by simp) ?_)
 have rl:=bI x
 have rt:=bC x
 have nb:(nx=b)=False:=eq_false (by omega)
 simp -implicitDefEqProofs only [RA,aa,zp,↓reduceIte,reduceCtorEq,zq,zr,zs,zt,GT,Bh,rl,rt,hb,nb]
 refine hp.use fun n1 hn1=>?_
 simp -implicitDefEqProofs only [RA,aa,zp,↓reduceIte,reduceCtorEq,zq,zr,zs,zt,unA,E6]
 intro k o hk ho
 rw [if_neg (by omega)];exact ho
theorem w81 {c:FuncId} (g:Ex→Bool) (l:List Ex) (hl:l.length≤4611686018427387904) (hp:∀ x∈l,Pure Tryz.prog c [.agg (exE x)] (.bool (g x))):Pure Tryz.prog 81 [aR l,.fn (.func c) []] (.bool (l.all g)):=by
 refine Pure.of fun nx=>AC.go aj is81 (by simp) ?_
 simp -implicitDefEqProofs only [RA,aa,zp,↓reduceIte,reduceCtorEq,zq,zr,zs,zt,A81,Ft]
 refine (Dq (fun x=>!g x) l _ _ hl fun x hx n hn=>w117 g x nx _ n (by simp [af]) (by omega) (hp x hx)).mono ?_
 rintro y h' n1 ⟨rfl,rfl,hn1⟩
 have e:=jo g l
 simp -implicitDefEqProofs only [RA,aa,zp,↓reduceIte,reduceCtorEq,zq,zr,zs,zt,unA,e,R81]
theorem w92 {c:FuncId} {caps:List AV} (p:Ar→Bool) (l:List Ar) (h:Heap) (nx:Nat) (hl:l.length≤4611686018427387904) (hp:∀ x∈l,∀ n,nx≤n→AC Tryz.prog c (.agg (arE x)::caps) h n fun y h' n'=>y=.ret (.bool (p x))∧h'=h∧n≤n') :
  AC Tryz.prog 92 [bU l,.fn (.func c) caps] h nx fun y h' n'=>y=.ret (.int .i64 (fi p l 0))∧h'=h∧nx≤n':=by
 refine AC.go aj is92 (by simp) ?_
 have lv:=eV l
 simp -implicitDefEqProofs only [RA,aa,zp,↓reduceIte,reduceCtorEq,zq,zr,zs,zt,A92,Fh,lv]
 refine aq (fun q st=>∃ i:Nat,q=l.length-i∧i≤l.length∧fi p (l.drop i) i=fi p l 0∧ab st.env 0=some (bU l)∧ab st.env 1=some (.fn (.func c) caps)∧ab st.env 7=some (.int .i64 l.length)∧ab st.env 8=some (.int .i64 i)∧st.heap=h∧nx≤st.nx∧st.dm=[]) (n:=l.length) aj
  ⟨0,rfl,by omega,by simp,by simp [ab],by simp [ab],by simp [ab],by simp [ab],rfl,H4 _,rfl⟩ ?_
 rintro q ⟨env,heap,nx',dm⟩ ⟨i,rfl,hi,hf,g0,g1,g7,g8,hh,hnx,hdm⟩
 simp only at g0 g1 g7 g8 hh hnx hdm
 subst hdm;subst hh
 by_cases hc:(i:Int)<(l.length:Int)
 case neg =>
  have:l.drop i=[]:=Hb (by omega)
  rw [this,fi] at hf
  rw [← hf]
  simp -implicitDefEqProofs only [RA,aa,zp,↓reduceIte,reduceCtorEq,zq,zr,zs,zt,xR,r7,g7,g8,hc,R92]
  exact hnx
 have hr:=G7 (show i<l.length by omega)
 generalize l[i]=r at hr
 rw [fA hr] at hf
 have ix:=cO hr
 have rl:=oW r
 have rt:=lS r
 have f1:=wS (i:=i) (by omega)
 simp -implicitDefEqProofs only [RA,aa,zp,↓reduceIte,reduceCtorEq,zq,zr,zs,zt,xR,r7,g0,g1,g7,g8,hc,ix,rl,rt]
 refine (hp r (G8 hr) nx' hnx).mono ?_
 rintro y h' n1 ⟨rfl,rfl,hn1⟩
 cases hv:p r with
 | true =>
  simp only [hv,if_true] at hf
  rw [← hf]
  simp -implicitDefEqProofs only [RA,aa,zp,↓reduceIte,reduceCtorEq,zq,zr,zs,zt,g0,g1,g7,g8,R92]
  omega
 | false =>
  simp only [hv,HQ,if_false] at hf
  simp -implicitDefEqProofs only [RA,aa,zp,↓reduceIte,reduceCtorEq,zq,zr,zs,zt,g0,g1,g7,g8,f1]
  refine ⟨l.length-(i+1),by omega,i+1,?_⟩
  repeat' apply And.intro
  all_goals first|assumption|rfl|omega|(simp [ab, *];done)
theorem w120 {c:FuncId} {caps:List AV} (p:Ar→Bool) (l:List Ar) (h:Heap) (nx:Nat) (hl:l.length≤4611686018427387904) (hp:∀ x∈l,∀ n,nx≤n→AC Tryz.prog c (.agg (arE x)::caps) h n fun y h' n'=>y=.ret (.bool (p x))∧h'=h∧n≤n') :
  AC Tryz.prog 120 [bU l,.fn (.func c) caps] h nx fun y h' n'=>y=.ret (.bool (l.any p))∧h'=h∧nx≤n':=by
 refine AC.go aj D8 (by simp) ?_
 simp -implicitDefEqProofs only [RA,aa,zp,↓reduceIte,reduceCtorEq,zq,zr,zs,zt,GQ,Bf]
 refine (w92 p l h nx hl hp).mono ?_
 rintro y h' n1 ⟨rfl,rfl,hn1⟩
 have e:=iu p l 0
 simp -implicitDefEqProofs only [RA,aa,zp,↓reduceIte,reduceCtorEq,zq,zr,zs,zt,e,E4]
 exact hn1
theorem w121 {c:FuncId} (g:Ar→Bool) (x:Ar) (b:Nat) (h:Heap) (nx:Nat) (hb:af h b=some (.cells [.fn (.func c) []])) (hbn:b<nx) (hp:Pure Tryz.prog c [.agg (arE x)] (.bool (g x))) :
  AC Tryz.prog 121 [.agg (arE x),.op b 0] h nx fun y h' n'=>y=.ret (.bool (!g x))∧h'=h∧nx≤n':=by
 refine dI (AC.go aj D7 (by simp) ?_)
 have rl:=oW x
 have rt:=lS x
 have nb:(nx=b)=False:=eq_false (by omega)
 simp -implicitDefEqProofs only [RA,aa,zp,↓reduceIte,reduceCtorEq,zq,zr,zs,zt,GP,Bd,rl,rt,hb,nb]
 refine hp.use fun n1 hn1=>?_
 simp -implicitDefEqProofs only [RA,aa,zp,↓reduceIte,reduceCtorEq,zq,zr,zs,zt,unA,E3]
 intro k o hk ho
 rw [if_neg (by omega)];exact ho
theorem w86 {c:FuncId} (g:Ar→Bool) (l:List Ar) (hl:l.length≤4611686018427387904) (hp:∀ x∈l,Pure Tryz.prog c [.agg (arE x)] (.bool (g x))):Pure Tryz.prog 86 [bU l,.fn (.func c) []] (.bool (l.all g)):=by
 refine Pure.of fun nx=>AC.go aj is86 (by simp) ?_
 simp -implicitDefEqProofs only [RA,aa,zp,↓reduceIte,reduceCtorEq,zq,zr,zs,zt,A86,Fl]
 refine (w120 (fun x=>!g x) l _ _ hl fun x hx n hn=>w121 g x nx _ n (by simp [af]) (by omega) (hp x hx)).mono ?_
 rintro y h' n1 ⟨rfl,rfl,hn1⟩
 have e:=jo g l
 simp -implicitDefEqProofs only [RA,aa,zp,↓reduceIte,reduceCtorEq,zq,zr,zs,zt,unA,e,R86]
theorem Do {c:FuncId} {caps:List AV} (p:Fu→Bool) (l:List Fu) (h:Heap) (nx:Nat) (hl:l.length≤4611686018427387904) (hp:∀ x∈l,∀ n,nx≤n→AC Tryz.prog c (.agg (fuE x)::caps) h n fun y h' n'=>y=.ret (.bool (p x))∧h'=h∧n≤n') :
  AC Tryz.prog 137 [bR l,.fn (.func c) caps] h nx fun y h' n'=>y=.ret (.int .i64 (fi p l 0))∧h'=h∧nx≤n':=by
 refine AC.go aj DT (by simp) ?_
 have lv:=cZ l
 simp -implicitDefEqProofs only [RA,aa,zp,↓reduceIte,reduceCtorEq,zq,zr,zs,zt,GC,A0,lv]
 refine aq (fun q st=>∃ i:Nat,q=l.length-i∧i≤l.length∧fi p (l.drop i) i=fi p l 0∧ab st.env 0=some (bR l)∧ab st.env 1=some (.fn (.func c) caps)∧ab st.env 7=some (.int .i64 l.length)∧ab st.env 8=some (.int .i64 i)∧st.heap=h∧nx≤st.nx∧st.dm=[]) (n:=l.length) aj
  ⟨0,rfl,by omega,by simp,by simp [ab],by simp [ab],by simp [ab],by simp [ab],rfl,H4 _,rfl⟩ ?_
 rintro q ⟨env,heap,nx',dm⟩ ⟨i,rfl,hi,hf,g0,g1,g7,g8,hh,hnx,hdm⟩
 simp only at g0 g1 g7 g8 hh hnx hdm
 subst hdm;subst hh
 by_cases hc:(i:Int)<(l.length:Int)
 case neg =>
  have:l.drop i=[]:=Hb (by omega)
  rw [this,fi] at hf
  rw [← hf]
  simp -implicitDefEqProofs only [RA,aa,zp,↓reduceIte,reduceCtorEq,zq,zr,zs,zt,sS,pG,g7,g8,hc,Cy]
  exact hnx
 have hr:=G7 (show i<l.length by omega)
 generalize l[i]=r at hr
 rw [fA hr] at hf
 have ix:=cJ hr
 have rl:=mO r
 have rt:=jZ r
 have f1:=wS (i:=i) (by omega)
 simp -implicitDefEqProofs only [RA,aa,zp,↓reduceIte,reduceCtorEq,zq,zr,zs,zt,sS,pG,g0,g1,g7,g8,hc,ix,rl,rt]
 refine (hp r (G8 hr) nx' hnx).mono ?_
 rintro y h' n1 ⟨rfl,rfl,hn1⟩
 cases hv:p r with
 | true =>
  simp only [hv,if_true] at hf
  rw [← hf]
  simp -implicitDefEqProofs only [RA,aa,zp,↓reduceIte,reduceCtorEq,zq,zr,zs,zt,g0,g1,g7,g8,Cy]
  omega
 | false =>
  simp only [hv,HQ,if_false] at hf
  simp -implicitDefEqProofs only [RA,aa,zp,↓reduceIte,reduceCtorEq,zq,zr,zs,zt,g0,g1,g7,g8,f1]
  refine ⟨l.length-(i+1),by omega,i+1,?_⟩
  repeat' apply And.intro
  all_goals first|assumption|rfl|omega|(simp [ab, *];done)
theorem w122 {c:FuncId} {caps:List AV} (p:Fu→Bool) (l:List Fu) (h:Heap) (nx:Nat) (hl:l.length≤4611686018427387904) (hp:∀ x∈l,∀ n,nx≤n→AC Tryz.prog c (.agg (fuE x)::caps) h n fun y h' n'=>y=.ret (.bool (p x))∧h'=h∧n≤n') :
  AC Tryz.prog 122 [bR l,.fn (.func c) caps] h nx fun y h' n'=>y=.ret (.bool (l.any p))∧h'=h∧nx≤n':=by
 refine AC.go aj D6 (by simp) ?_
 simp -implicitDefEqProofs only [RA,aa,zp,↓reduceIte,reduceCtorEq,zq,zr,zs,zt,GO,Bc]
 refine (Do p l h nx hl hp).mono ?_
 rintro y h' n1 ⟨rfl,rfl,hn1⟩
 have e:=iu p l 0
 simp -implicitDefEqProofs only [RA,aa,zp,↓reduceIte,reduceCtorEq,zq,zr,zs,zt,e,E2]
 exact hn1
theorem w123 {c:FuncId} (g:Fu→Bool) (x:Fu) (b:Nat) (h:Heap) (nx:Nat) (hb:af h b=some (.cells [.fn (.func c) []])) (hbn:b<nx) (hp:Pure Tryz.prog c [.agg (fuE x)] (.bool (g x))) :
  AC Tryz.prog 123 [.agg (fuE x),.op b 0] h nx fun y h' n'=>y=.ret (.bool (!g x))∧h'=h∧nx≤n':=by
 refine dI (AC.go aj D5 (by simp) ?_)
 have rl:=mO x
 have rt:=jZ x
 have nb:(nx=b)=False:=eq_false (by omega)
 simp -implicitDefEqProofs only [RA,aa,zp,↓reduceIte,reduceCtorEq,zq,zr,zs,zt,GN,Bb,rl,rt,hb,nb]
 refine hp.use fun n1 hn1=>?_
 simp -implicitDefEqProofs only [RA,aa,zp,↓reduceIte,reduceCtorEq,zq,zr,zs,zt,unA,E1]
 intro k o hk ho
 rw [if_neg (by omega)];exact ho
theorem w88 {c:FuncId} (g:Fu→Bool) (l:List Fu) (hl:l.length≤4611686018427387904) (hp:∀ x∈l,Pure Tryz.prog c [.agg (fuE x)] (.bool (g x))):Pure Tryz.prog 88 [bR l,.fn (.func c) []] (.bool (l.all g)):=by
 refine Pure.of fun nx=>AC.go aj is88 (by simp) ?_
 simp -implicitDefEqProofs only [RA,aa,zp,↓reduceIte,reduceCtorEq,zq,zr,zs,zt,A88,Fk]
 refine (w122 (fun x=>!g x) l _ _ hl fun x hx n hn=>w123 g x nx _ n (by simp [af]) (by omega) (hp x hx)).mono ?_
 rintro y h' n1 ⟨rfl,rfl,hn1⟩
 have e:=jo g l
 simp -implicitDefEqProofs only [RA,aa,zp,↓reduceIte,reduceCtorEq,zq,zr,zs,zt,unA,e,R88]
theorem w90 {c:FuncId} {caps:List AV} (p:Pm→Bool) (l:List Pm) (h:Heap) (nx:Nat) (hl:l.length≤4611686018427387904) (hp:∀ x∈l,∀ n,nx≤n→AC Tryz.prog c (.agg (pmE x)::caps) h n fun y h' n'=>y=.ret (.bool (p x))∧h'=h∧n≤n') :
  AC Tryz.prog 90 [bw l,.fn (.func c) caps] h nx fun y h' n'=>y=.ret (.int .i64 (fi p l 0))∧h'=h∧nx≤n':=by
 refine AC.go aj is90 (by simp) ?_
 have lv:=cq l
 simp -implicitDefEqProofs only [RA,aa,zp,↓reduceIte,reduceCtorEq,zq,zr,zs,zt,A90,Fj,lv]
 refine aq (fun q st=>∃ i:Nat,q=l.length-i∧i≤l.length∧fi p (l.drop i) i=fi p l 0∧ab st.env 0=some (bw l)∧ab st.env 1=some (.fn (.func c) caps)∧ab st.env 7=some (.int .i64 l.length)∧ab st.env 8=some (.int .i64 i)∧st.heap=h∧nx≤st.nx∧st.dm=[]) (n:=l.length) aj
  ⟨0,rfl,by omega,by simp,by simp [ab],by simp [ab],by simp [ab],by simp [ab],rfl,H4 _,rfl⟩ ?_
 rintro q ⟨env,heap,nx',dm⟩ ⟨i,rfl,hi,hf,g0,g1,g7,g8,hh,hnx,hdm⟩
 simp only at g0 g1 g7 g8 hh hnx hdm
 subst hdm;subst hh
 by_cases hc:(i:Int)<(l.length:Int)
 case neg =>
  have:l.drop i=[]:=Hb (by omega)
  rw [this,fi] at hf
  rw [← hf]
  simp -implicitDefEqProofs only [RA,aa,zp,↓reduceIte,reduceCtorEq,zq,zr,zs,zt,xS,r8,g7,g8,hc,R90]
  exact hnx
 have hr:=G7 (show i<l.length by omega)
 generalize l[i]=r at hr
 rw [fA hr] at hf
 have ix:=dj hr
 have rl:=kF r
 have rt:=ji r
 have f1:=wS (i:=i) (by omega)
 simp -implicitDefEqProofs only [RA,aa,zp,↓reduceIte,reduceCtorEq,zq,zr,zs,zt,xS,r8,g0,g1,g7,g8,hc,ix,rl,rt]
 refine (hp r (G8 hr) nx' hnx).mono ?_
 rintro y h' n1 ⟨rfl,rfl,hn1⟩
 cases hv:p r with
 | true =>
  simp only [hv,if_true] at hf
  rw [← hf]
  simp -implicitDefEqProofs only [RA,aa,zp,↓reduceIte,reduceCtorEq,zq,zr,zs,zt,g0,g1,g7,g8,R90]
  omega
 | false =>
  simp only [hv,HQ,if_false] at hf
  simp -implicitDefEqProofs only [RA,aa,zp,↓reduceIte,reduceCtorEq,zq,zr,zs,zt,g0,g1,g7,g8,f1]
  refine ⟨l.length-(i+1),by omega,i+1,?_⟩
  repeat' apply And.intro
  all_goals first|assumption|rfl|omega|(simp [ab, *];done)
theorem w138 {c:FuncId} {caps:List AV} (p:Pm→Bool) (l:List Pm) (h:Heap) (nx:Nat) (hl:l.length≤4611686018427387904) (hp:∀ x∈l,∀ n,nx≤n→AC Tryz.prog c (.agg (pmE x)::caps) h n fun y h' n'=>y=.ret (.bool (p x))∧h'=h∧n≤n') :
  AC Tryz.prog 138 [bw l,.fn (.func c) caps] h nx fun y h' n'=>y=.ret (.bool (l.any p))∧h'=h∧nx≤n':=by
 refine AC.go aj DS (by simp) ?_
 simp -implicitDefEqProofs only [RA,aa,zp,↓reduceIte,reduceCtorEq,zq,zr,zs,zt,GB,AZ]
 refine (w90 p l h nx hl hp).mono ?_
 rintro y h' n1 ⟨rfl,rfl,hn1⟩
 have e:=iu p l 0
 simp -implicitDefEqProofs only [RA,aa,zp,↓reduceIte,reduceCtorEq,zq,zr,zs,zt,e,EW]
 exact hn1
theorem w139 {c:FuncId} (g:Pm→Bool) (x:Pm) (b:Nat) (h:Heap) (nx:Nat) (hb:af h b=some (.cells [.fn (.func c) []])) (hbn:b<nx) (hp:Pure Tryz.prog c [.agg (pmE x)] (.bool (g x))) :
  AC Tryz.prog 139 [.agg (pmE x),.op b 0] h nx fun y h' n'=>y=.ret (.bool (!g x))∧h'=h∧nx≤n':=by
 refine dI (AC.go aj DR (by simp) ?_)
 have rl:=kF x
 have rt:=ji x
 have nb:(nx=b)=False:=eq_false (by omega)
 simp -implicitDefEqProofs only [RA,aa,zp,↓reduceIte,reduceCtorEq,zq,zr,zs,zt,GA,AU,rl,rt,hb,nb]
 refine hp.use fun n1 hn1=>?_
 simp -implicitDefEqProofs only [RA,aa,zp,↓reduceIte,reduceCtorEq,zq,zr,zs,zt,unA,EV]
 intro k o hk ho
 rw [if_neg (by omega)];exact ho
theorem w124 {c:FuncId} (g:Pm→Bool) (l:List Pm) (hl:l.length≤4611686018427387904) (hp:∀ x∈l,Pure Tryz.prog c [.agg (pmE x)] (.bool (g x))):Pure Tryz.prog 124 [bw l,.fn (.func c) []] (.bool (l.all g)):=by
 refine Pure.of fun nx=>AC.go aj D4 (by simp) ?_
 simp -implicitDefEqProofs only [RA,aa,zp,↓reduceIte,reduceCtorEq,zq,zr,zs,zt,GM,Ba]
 refine (w138 (fun x=>!g x) l _ _ hl fun x hx n hn=>w139 g x nx _ n (by simp [af]) (by omega) (hp x hx)).mono ?_
 rintro y h' n1 ⟨rfl,rfl,hn1⟩
 have e:=jo g l
 simp -implicitDefEqProofs only [RA,aa,zp,↓reduceIte,reduceCtorEq,zq,zr,zs,zt,unA,e,E0]
theorem w145 {c:FuncId} {caps:List AV} (p:Sm→Bool) (l:List Sm) (h:Heap) (nx:Nat) (hl:l.length≤4611686018427387904) (hp:∀ x∈l,∀ n,nx≤n→AC Tryz.prog c (.agg (smE x)::caps) h n fun y h' n'=>y=.ret (.bool (p x))∧h'=h∧n≤n') :
  AC Tryz.prog 145 [ay l,.fn (.func c) caps] h nx fun y h' n'=>y=.ret (.int .i64 (fi p l 0))∧h'=h∧nx≤n':=by
 refine AC.go aj DL (by simp) ?_
 have lv:=aO l
 simp -implicitDefEqProofs only [RA,aa,zp,↓reduceIte,reduceCtorEq,zq,zr,zs,zt,Gv,AN,lv]
 refine aq (fun q st=>∃ i:Nat,q=l.length-i∧i≤l.length∧fi p (l.drop i) i=fi p l 0∧ab st.env 0=some (ay l)∧ab st.env 1=some (.fn (.func c) caps)∧ab st.env 7=some (.int .i64 l.length)∧ab st.env 8=some (.int .i64 i)∧st.heap=h∧nx≤st.nx∧st.dm=[]) (n:=l.length) aj
  ⟨0,rfl,by omega,by simp,by simp [ab],by simp [ab],by simp [ab],by simp [ab],rfl,H4 _,rfl⟩ ?_
 rintro q ⟨env,heap,nx',dm⟩ ⟨i,rfl,hi,hf,g0,g1,g7,g8,hh,hnx,hdm⟩
 simp only at g0 g1 g7 g8 hh hnx hdm
 subst hdm;subst hh
 by_cases hc:(i:Int)<(l.length:Int)
 case neg =>
  have:l.drop i=[]:=Hb (by omega)
  rw [this,fi] at hf
  rw [← hf]
  simp -implicitDefEqProofs only [RA,aa,zp,↓reduceIte,reduceCtorEq,zq,zr,zs,zt,sP,pE,g7,g8,hc,Cw]
  exact hnx
 have hr:=G7 (show i<l.length by omega)
 generalize l[i]=r at hr
 rw [fA hr] at hf
 have ix:=eQ hr
 have rl:=iL r
 have rt:=jS r
 have f1:=wS (i:=i) (by omega)
 simp -implicitDefEqProofs only [RA,aa,zp,↓reduceIte,reduceCtorEq,zq,zr,zs,zt,sP,pE,g0,g1,g7,g8,hc,ix,rl,rt]
 refine (hp r (G8 hr) nx' hnx).mono ?_
 rintro y h' n1 ⟨rfl,rfl,hn1⟩
 cases hv:p r with
 | true =>
  simp only [hv,if_true] at hf
  rw [← hf]
  simp -implicitDefEqProofs only [RA,aa,zp,↓reduceIte,reduceCtorEq,zq,zr,zs,zt,g0,g1,g7,g8,Cw]
  omega
 | false =>
  simp only [hv,HQ,if_false] at hf
  simp -implicitDefEqProofs only [RA,aa,zp,↓reduceIte,reduceCtorEq,zq,zr,zs,zt,g0,g1,g7,g8,f1]
  refine ⟨l.length-(i+1),by omega,i+1,?_⟩
  repeat' apply And.intro
  all_goals first|assumption|rfl|omega|(simp [ab, *];done)
theorem w140 {c:FuncId} {caps:List AV} (p:Sm→Bool) (l:List Sm) (h:Heap) (nx:Nat) (hl:l.length≤4611686018427387904) (hp:∀ x∈l,∀ n,nx≤n→AC Tryz.prog c (.agg (smE x)::caps) h n fun y h' n'=>y=.ret (.bool (p x))∧h'=h∧n≤n') :
  AC Tryz.prog 140 [ay l,.fn (.func c) caps] h nx fun y h' n'=>y=.ret (.bool (l.any p))∧h'=h∧nx≤n':=by
 refine AC.go aj DQ (by simp) ?_
 simp -implicitDefEqProofs only [RA,aa,zp,↓reduceIte,reduceCtorEq,zq,zr,zs,zt,Gz,AS]
 refine (w145 p l h nx hl hp).mono ?_
 rintro y h' n1 ⟨rfl,rfl,hn1⟩
 have e:=iu p l 0
 simp -implicitDefEqProofs only [RA,aa,zp,↓reduceIte,reduceCtorEq,zq,zr,zs,zt,e,EU]
 exact hn1
theorem w141 {c:FuncId} (g:Sm→Bool) (x:Sm) (b:Nat) (h:Heap) (nx:Nat) (hb:af h b=some (.cells [.fn (.func c) []])) (hbn:b<nx) (hp:Pure Tryz.prog c [.agg (smE x)] (.bool (g x))) :
  AC Tryz.prog 141 [.agg (smE x),.op b 0] h nx fun y h' n'=>y=.ret (.bool (!g x))∧h'=h∧nx≤n':=by
 refine dI (AC.go aj DP (by simp) ?_)
 have rl:=iL x
 have rt:=jS x
 have nb:(nx=b)=False:=eq_false (by omega)
 simp -implicitDefEqProofs only [RA,aa,zp,↓reduceIte,reduceCtorEq,zq,zr,zs,zt,Gy,AR,rl,rt,hb,nb]
 refine hp.use fun n1 hn1=>?_
 simp -implicitDefEqProofs only [RA,aa,zp,↓reduceIte,reduceCtorEq,zq,zr,zs,zt,unA,ET]
 intro k o hk ho
 rw [if_neg (by omega)];exact ho
theorem BO {c:FuncId} (g:Sm→Bool) (l:List Sm) (hl:l.length≤4611686018427387904) (hp:∀ x∈l,Pure Tryz.prog c [.agg (smE x)] (.bool (g x))):Pure Tryz.prog 126 [ay l,.fn (.func c) []] (.bool (l.all g)):=by
 refine Pure.of fun nx=>AC.go aj D2 (by simp) ?_
 simp -implicitDefEqProofs only [RA,aa,zp,↓reduceIte,reduceCtorEq,zq,zr,zs,zt,GK,A9]
 refine (w140 (fun x=>!g x) l _ _ hl fun x hx n hn=>w141 g x nx _ n (by simp [af]) (by omega) (hp x hx)).mono ?_
 rintro y h' n1 ⟨rfl,rfl,hn1⟩
 have e:=jo g l
 simp -implicitDefEqProofs only [RA,aa,zp,↓reduceIte,reduceCtorEq,zq,zr,zs,zt,unA,e,EZ]
end Go.Proofs.YtgeieafamocnhaaGreatDoor
