/- Abstract code, part 3. -/
import Derived.Test.YtkfldbimfbacmaaDoorGE
namespace Go.Proofs.YtkfldbimfbacmaaDoor
open Go Go.Ab Go.Proofs
set_option maxRecDepth 100000
def A62l0 : ACode :=
 (.seq (.seq (.region [⟨(some 10), none, .op (.move (.tmp 7))⟩,
 ⟨(some 11), none, .op (.fieldA 4 (.tmp 4))⟩,
 ⟨(some 12), none, .op (.load 1 false (.tmp 11))⟩,
 ⟨(some 13), none, .op (.len (.tmp 12))⟩,
 ⟨(some 14), none, .op (.bin .lss (.tmp 10) (.tmp 13))⟩])
 (.cond (.tmp 14) .skip (.exit 0)))
 (.seq (.block 1 (.region [⟨(some 17), none, .op (.move (.tmp 6))⟩,
 ⟨(some 18), none, .op (.move (.tmp 0))⟩,
 ⟨(some 19), none, .op (.fieldA 4 (.tmp 4))⟩,
 ⟨(some 20), none, .op (.load 1 false (.tmp 19))⟩,
 ⟨(some 21), none, .op (.move (.tmp 7))⟩,
 ⟨(some 22), none, .op (.idxA 6 (.tmp 20) (.tmp 21))⟩,
 ⟨(some 23), none, .op (.load 6 true (.tmp 22))⟩,
 ⟨(some 24), none, .call (.func 22) [(.tmp 18), (.tmp 23)]⟩,
 ⟨(some 25), none, .op (.buildF [(.int .i64 0)] 1 [(0, (.tmp 24))])⟩,
 ⟨(some 26), none, .op (.app 3 1 8 (.tmp 17) (.tmp 25))⟩,
 ⟨(some 6), none, .op (.move (.tmp 26))⟩]))
 (.region [⟨(some 15), none, .op (.move (.tmp 7))⟩,
 ⟨(some 16), none, .op (.bin .add (.tmp 15) (.const (.int .i64 1)))⟩,
 ⟨(some 7), none, .op (.move (.tmp 16))⟩])))
def A62 : ACode :=
 (.seq (.region [⟨(some 4), none, .op (.box (.tmp 1))⟩])
 (.seq (.region [⟨(some 6), none, .op (.move (.const (.slice none 0 0)))⟩])
 (.seq (.seq (.region [⟨(some 7), none, .op (.move (.const (.int .i64 0)))⟩])
 (.block 0 (.loop A62l0)))
 (.seq (.seq (.region [⟨(some 27), none, .op (.move (.tmp 0))⟩,
 ⟨(some 28), none, .op (.nilck (.tmp 27))⟩,
 ⟨(some 29), none, .op (.fieldA 4 (.tmp 28))⟩,
 ⟨(some 30), none, .op (.load 1 false (.tmp 29))⟩,
 ⟨(some 31), none, .op (.bin .neq (.tmp 30) (.const (.int .i64 0)))⟩])
 (.cond (.tmp 31) .ret .skip))
 (.seq (.dregion [⟨0, ⟨(some 32), none, .op (.move (.tmp 0))⟩, []⟩,
 ⟨1, ⟨(some 33), none, .op (.nilck (.tmp 32))⟩, []⟩,
 ⟨2, ⟨(some 34), none, .op (.fieldA 0 (.tmp 33))⟩, []⟩,
 ⟨3, ⟨(some 35), none, .op (.fieldA 1 (.tmp 34))⟩, []⟩,
 ⟨4, ⟨(some 36), none, .op (.load 1 false (.tmp 35))⟩, []⟩,
 ⟨5, ⟨(some 37), none, .op (.move (.tmp 0))⟩, []⟩,
 ⟨6, ⟨(some 38), none, .op (.nilck (.tmp 37))⟩, []⟩,
 ⟨7, ⟨(some 39), none, .op (.fieldA 2 (.tmp 38))⟩, []⟩,
 ⟨8, ⟨(some 40), none, .op (.load 1 false (.tmp 39))⟩, []⟩,
 ⟨9, ⟨(some 41), none, .op (.idxA 4 (.tmp 36) (.tmp 40))⟩, []⟩,
 ⟨10, ⟨(some 42), none, .op (.fieldA 2 (.tmp 41))⟩, []⟩,
 ⟨11, ⟨(some 43), none, .op (.load 1 false (.tmp 42))⟩, []⟩,
 ⟨12, ⟨(some 8), none, .op (.move (.tmp 43))⟩, []⟩])
 (.seq (.seq (.region [⟨(some 44), none, .op (.fieldA 0 (.tmp 4))⟩,
 ⟨(some 45), none, .op (.load 1 false (.tmp 44))⟩])
 (.block 2 (.seq (.region [⟨(some 47), none, .op (.bin .eql (.tmp 45) (.const (.int .u8 1)))⟩,
 ⟨(some 46), none, .op (.move (.tmp 47))⟩])
 (.cond (.tmp 46) (.seq (.region [⟨(some 48), none, .op (.move (.tmp 0))⟩,
 ⟨(some 49), none, .op (.fieldA 1 (.tmp 4))⟩,
 ⟨(some 50), none, .op (.load 1 false (.tmp 49))⟩,
 ⟨(some 51), none, .op (.fieldA 3 (.tmp 4))⟩,
 ⟨(some 52), none, .op (.load 1 false (.tmp 51))⟩,
 ⟨(some 53), none, .op (.build [(.str []), (.int .i64 0)] [(0, 1, (.tmp 50)), (1, 1, (.tmp 52))])⟩,
 ⟨(some 54), none, .call (.func 32) [(.tmp 48), (.tmp 53)]⟩])
 (.dregion [⟨0, ⟨(some 55), none, .op (.move (.tmp 0))⟩, []⟩,
 ⟨1, ⟨(some 56), none, .op (.move (.tmp 6))⟩, []⟩,
 ⟨2, ⟨(some 57), none, .op (.idxA 1 (.tmp 56) (.const (.int .i64 0)))⟩, []⟩,
 ⟨3, ⟨(some 58), none, .op (.load 1 false (.tmp 57))⟩, []⟩,
 ⟨4, ⟨(some 59), none, .op (.fieldA 3 (.tmp 4))⟩, []⟩,
 ⟨5, ⟨(some 60), none, .op (.load 1 false (.tmp 59))⟩, []⟩,
 ⟨6, ⟨(some 61), none, .op (.bin .neq (.tmp 58) (.tmp 60))⟩, []⟩,
 ⟨7, ⟨(some 62), none, .call (.func 47) [(.tmp 55), (.tmp 61), (.const (.int .i64 14))]⟩, []⟩])) (.seq (.region [⟨(some 64), none, .op (.bin .eql (.tmp 45) (.const (.int .u8 2)))⟩,
 ⟨(some 63), none, .op (.move (.tmp 64))⟩])
 (.cond (.tmp 63) (.seq (.region [⟨(some 65), none, .op (.move (.tmp 0))⟩,
 ⟨(some 66), none, .op (.move (.tmp 0))⟩,
 ⟨(some 67), none, .op (.fieldA 1 (.tmp 4))⟩,
 ⟨(some 68), none, .op (.load 1 false (.tmp 67))⟩,
 ⟨(some 69), none, .call (.func 48) [(.tmp 66), (.tmp 68)]⟩,
 ⟨(some 70), none, .op (.bin .eql (.tmp 69) (.const (.int .i64 0)))⟩,
 ⟨(some 71), none, .call (.func 47) [(.tmp 65), (.tmp 70), (.const (.int .i64 16))]⟩])
 (.dregion [⟨0, ⟨(some 72), none, .op (.move (.tmp 0))⟩, []⟩,
 ⟨1, ⟨(some 73), none, .op (.move (.tmp 6))⟩, []⟩,
 ⟨2, ⟨(some 74), none, .op (.idxA 1 (.tmp 73) (.const (.int .i64 0)))⟩, []⟩,
 ⟨3, ⟨(some 75), none, .op (.load 1 false (.tmp 74))⟩, []⟩,
 ⟨4, ⟨(some 76), none, .op (.move (.tmp 0))⟩, []⟩,
 ⟨5, ⟨(some 77), none, .op (.fieldA 1 (.tmp 4))⟩, []⟩,
 ⟨6, ⟨(some 78), none, .op (.load 1 false (.tmp 77))⟩, []⟩,
 ⟨7, ⟨(some 79), none, .call (.func 48) [(.tmp 76), (.tmp 78)]⟩, [0, 1, 2, 3]⟩,
 ⟨8, ⟨(some 80), none, .op (.bin .neq (.tmp 75) (.tmp 79))⟩, []⟩,
 ⟨9, ⟨(some 81), none, .call (.func 47) [(.tmp 72), (.tmp 80), (.const (.int .i64 14))]⟩, []⟩])) (.seq (.region [⟨(some 83), none, .op (.bin .eql (.tmp 45) (.const (.int .u8 3)))⟩,
 ⟨(some 82), none, .op (.move (.tmp 83))⟩])
 (.cond (.tmp 82) (.seq (.dregion [⟨0, ⟨(some 84), none, .op (.move (.tmp 0))⟩, []⟩,
 ⟨1, ⟨(some 85), none, .op (.nilck (.tmp 84))⟩, []⟩,
 ⟨2, ⟨(some 86), none, .op (.fieldA 0 (.tmp 85))⟩, []⟩,
 ⟨3, ⟨(some 87), none, .op (.load 2 true (.tmp 86))⟩, []⟩,
 ⟨4, ⟨(some 88), none, .op (.fieldA 1 (.tmp 4))⟩, []⟩,
 ⟨5, ⟨(some 89), none, .op (.load 1 false (.tmp 88))⟩, []⟩,
 ⟨6, ⟨(some 90), none, .call (.func 49) [(.tmp 87), (.tmp 89)]⟩, []⟩,
 ⟨7, ⟨(some 9), none, .op (.move (.tmp 90))⟩, []⟩])
 (.seq (.region [⟨(some 91), none, .op (.move (.tmp 0))⟩,
 ⟨(some 92), none, .op (.move (.tmp 9))⟩,
 ⟨(some 93), none, .op (.bin .lss (.tmp 92) (.const (.int .i64 0)))⟩,
 ⟨(some 94), none, .call (.func 47) [(.tmp 91), (.tmp 93), (.const (.int .i64 16))]⟩])
 (.dregion [⟨0, ⟨(some 95), none, .op (.move (.tmp 0))⟩, []⟩,
 ⟨1, ⟨(some 96), none, .op (.move (.tmp 9))⟩, []⟩,
 ⟨2, ⟨(some 97), none, .op (.bin .geq (.tmp 96) (.const (.int .i64 0)))⟩, []⟩,
 ⟨3, ⟨(some 98), none, .op (.move (.tmp 97))⟩, []⟩,
 ⟨4, ⟨(some 99), (some (98, true)), .op (.move (.tmp 6))⟩, []⟩,
 ⟨5, ⟨(some 100), (some (98, true)), .op (.idxA 1 (.tmp 99) (.const (.int .i64 0)))⟩, []⟩,
 ⟨6, ⟨(some 101), (some (98, true)), .op (.load 1 false (.tmp 100))⟩, []⟩,
 ⟨7, ⟨(some 102), (some (98, true)), .op (.bin .neq (.tmp 101) (.const (.int .i64 32)))⟩, []⟩,
 ⟨8, ⟨(some 103), (some (98, true)), .op (.move (.tmp 102))⟩, []⟩,
 ⟨9, ⟨(some 104), (some (103, false)), .op (.move (.tmp 6))⟩, []⟩,
 ⟨10, ⟨(some 105), (some (103, false)), .op (.idxA 1 (.tmp 104) (.const (.int .i64 1)))⟩, []⟩,
 ⟨11, ⟨(some 106), (some (103, false)), .op (.load 1 false (.tmp 105))⟩, []⟩,
 ⟨12, ⟨(some 107), (some (103, false)), .op (.move (.tmp 0))⟩, []⟩,
 ⟨13, ⟨(some 108), (some (103, false)), .op (.nilck (.tmp 107))⟩, []⟩,
 ⟨14, ⟨(some 109), (some (103, false)), .op (.fieldA 0 (.tmp 108))⟩, []⟩,
 ⟨15, ⟨(some 110), (some (103, false)), .op (.fieldA 0 (.tmp 109))⟩, []⟩,
 ⟨16, ⟨(some 111), (some (103, false)), .op (.load 1 false (.tmp 110))⟩, []⟩,
 ⟨17, ⟨(some 112), (some (103, false)), .op (.move (.tmp 9))⟩, []⟩,
 ⟨18, ⟨(some 113), (some (103, false)), .op (.mx (.tmp 112) (.const (.int .i64 0)))⟩, []⟩,
 ⟨19, ⟨(some 114), (some (103, false)), .op (.idxA 3 (.tmp 111) (.tmp 113))⟩, []⟩,
 ⟨20, ⟨(some 115), (some (103, false)), .op (.fieldA 1 (.tmp 114))⟩, []⟩,
 ⟨21, ⟨(some 116), (some (103, false)), .op (.load 1 false (.tmp 115))⟩, []⟩,
 ⟨22, ⟨(some 117), (some (103, false)), .op (.bin .neq (.tmp 106) (.tmp 116))⟩, []⟩,
 ⟨23, ⟨(some 118), (some (98, true)), .op (.pick (.tmp 103) (.const (.bool true)) (.tmp 117))⟩, []⟩,
 ⟨24, ⟨(some 119), none, .op (.pick (.tmp 98) (.tmp 118) (.const (.bool false)))⟩, []⟩,
 ⟨25, ⟨(some 120), none, .call (.func 47) [(.tmp 95), (.tmp 119), (.const (.int .i64 14))]⟩, []⟩]))) (.seq (.seq (.region [⟨(some 122), none, .op (.bin .eql (.tmp 45) (.const (.int .u8 4)))⟩,
 ⟨(some 121), none, .op (.move (.tmp 122))⟩])
 (.cond (.tmp 121) .skip (.region [⟨(some 123), none, .op (.bin .eql (.tmp 45) (.const (.int .u8 5)))⟩,
 ⟨(some 121), none, .op (.move (.tmp 123))⟩])))
 (.cond (.tmp 121) (.region [⟨(some 124), none, .op (.move (.tmp 0))⟩,
 ⟨(some 125), none, .op (.move (.tmp 6))⟩,
 ⟨(some 126), none, .op (.idxA 1 (.tmp 125) (.const (.int .i64 0)))⟩,
 ⟨(some 127), none, .op (.load 1 false (.tmp 126))⟩,
 ⟨(some 128), none, .op (.bin .neq (.tmp 127) (.const (.int .i64 1)))⟩,
 ⟨(some 129), none, .call (.func 47) [(.tmp 124), (.tmp 128), (.const (.int .i64 14))]⟩]) (.seq (.region [⟨(some 131), none, .op (.bin .eql (.tmp 45) (.const (.int .u8 6)))⟩,
 ⟨(some 130), none, .op (.move (.tmp 131))⟩])
 (.cond (.tmp 130) (.region [⟨(some 132), none, .op (.move (.tmp 0))⟩,
 ⟨(some 133), none, .op (.move (.tmp 2))⟩,
 ⟨(some 134), none, .op (.un .not (.tmp 133))⟩,
 ⟨(some 135), none, .call (.func 47) [(.tmp 132), (.tmp 134), (.const (.int .i64 12))]⟩]) (.seq (.region [⟨(some 137), none, .op (.bin .eql (.tmp 45) (.const (.int .u8 8)))⟩,
 ⟨(some 136), none, .op (.move (.tmp 137))⟩])
 (.cond (.tmp 136) (.region [⟨(some 138), none, .op (.move (.tmp 0))⟩,
 ⟨(some 139), none, .op (.move (.tmp 6))⟩,
 ⟨(some 140), none, .op (.len (.tmp 139))⟩,
 ⟨(some 141), none, .op (.bin .eql (.tmp 140) (.const (.int .i64 0)))⟩,
 ⟨(some 142), none, .op (.move (.tmp 141))⟩,
 ⟨(some 143), (some (142, true)), .op (.move (.tmp 8))⟩,
 ⟨(some 144), (some (142, true)), .op (.bin .neq (.tmp 143) (.const (.int .i64 0)))⟩,
 ⟨(some 145), none, .op (.pick (.tmp 142) (.tmp 144) (.const (.bool false)))⟩,
 ⟨(some 146), none, .op (.move (.tmp 145))⟩,
 ⟨(some 147), (some (146, false)), .op (.move (.tmp 6))⟩,
 ⟨(some 148), (some (146, false)), .op (.len (.tmp 147))⟩,
 ⟨(some 149), (some (146, false)), .op (.bin .eql (.tmp 148) (.const (.int .i64 1)))⟩,
 ⟨(some 150), (some (146, false)), .op (.move (.tmp 149))⟩,
 ⟨(some 151), (some (150, true)), .op (.move (.tmp 6))⟩,
 ⟨(some 152), (some (150, true)), .op (.idxA 1 (.tmp 151) (.const (.int .i64 0)))⟩,
 ⟨(some 153), (some (150, true)), .op (.load 1 false (.tmp 152))⟩,
 ⟨(some 154), (some (150, true)), .op (.move (.tmp 8))⟩,
 ⟨(some 155), (some (150, true)), .op (.bin .neq (.tmp 153) (.tmp 154))⟩,
 ⟨(some 156), (some (146, false)), .op (.pick (.tmp 150) (.tmp 155) (.const (.bool false)))⟩,
 ⟨(some 157), none, .op (.pick (.tmp 146) (.const (.bool true)) (.tmp 156))⟩,
 ⟨(some 158), none, .call (.func 47) [(.tmp 138), (.tmp 157), (.const (.int .i64 14))]⟩]) (.seq (.region [⟨(some 160), none, .op (.bin .eql (.tmp 45) (.const (.int .u8 9)))⟩,
 ⟨(some 159), none, .op (.move (.tmp 160))⟩])
 (.cond (.tmp 159) (.region [⟨(some 161), none, .op (.move (.tmp 0))⟩,
 ⟨(some 162), none, .op (.load 7 true (.tmp 4))⟩,
 ⟨(some 163), none, .op (.move (.tmp 6))⟩,
 ⟨(some 164), none, .call (.func 83) [(.tmp 161), (.tmp 162), (.tmp 163)]⟩]) .skip))))))))))))))))
 (.seq (.region [⟨(some 165), none, .op (.move (.tmp 0))⟩,
 ⟨(some 166), none, .op (.fieldA 5 (.tmp 4))⟩,
 ⟨(some 167), none, .op (.load 1 false (.tmp 166))⟩,
 ⟨(some 168), none, .op (.move (.tmp 2))⟩,
 ⟨(some 169), none, .op (.move (.tmp 168))⟩,
 ⟨(some 170), (some (169, false)), .op (.fieldA 0 (.tmp 4))⟩,
 ⟨(some 171), (some (169, false)), .op (.load 1 false (.tmp 170))⟩,
 ⟨(some 172), (some (169, false)), .op (.bin .eql (.tmp 171) (.const (.int .u8 5)))⟩,
 ⟨(some 173), none, .op (.pick (.tmp 169) (.const (.bool true)) (.tmp 172))⟩,
 ⟨(some 174), none, .call (.func 33) [(.tmp 165), (.tmp 167), (.tmp 173)]⟩])
 (.region [⟨(some 175), none, .op (.move (.tmp 0))⟩,
 ⟨(some 176), none, .op (.fieldA 6 (.tmp 4))⟩,
 ⟨(some 177), none, .op (.load 1 false (.tmp 176))⟩,
 ⟨(some 178), none, .op (.move (.tmp 2))⟩,
 ⟨(some 179), none, .call (.func 33) [(.tmp 175), (.tmp 177), (.tmp 178)]⟩]))))))))
def R62 : List RV := []
theorem is62 : Is Tryd.prog (fun _ _ => false) 62 180 A62 R62 := ⟨Tryd.f62, Tryd.func62, rfl, by kernel_rfl, by kernel_rfl, Tryd.call62⟩
def A63l0 : ACode :=
 (.seq (.region [⟨(some 7), none, .call (.tmp 6) [(.const (.tuple #[]))]⟩,
 ⟨(some 8), none, .op (.ext (.tmp 7) 0)⟩])
 (.seq (.cond (.tmp 8) .skip (.exit 0))
 (.block 1 (.seq (.region [⟨(some 9), none, .op (.m (.ent (.tmp 6)))⟩,
 ⟨(some 10), none, .op (.ext (.tmp 9) 0)⟩,
 ⟨(some 11), none, .op (.ext (.tmp 9) 1)⟩,
 ⟨(some 3), none, .op (.move (.tmp 10))⟩,
 ⟨(some 4), none, .op (.move (.tmp 11))⟩])
 (.seq (.region [⟨(some 12), none, .op (.move (.tmp 4))⟩,
 ⟨(some 13), none, .op (.move (.tmp 0))⟩,
 ⟨(some 14), none, .op (.bin .eql (.tmp 12) (.tmp 13))⟩])
 (.cond (.tmp 14) (.seq (.region [⟨(some 15), none, .op (.move (.tmp 3))⟩,
 ⟨(some 2), none, .op (.move (.tmp 15))⟩])
 .ret) .skip))))))
def A63 : ACode :=
 (.seq (.region [⟨(some 2), none, .op (.move (.const (.string ⟨#[]⟩)))⟩])
 (.seq (.seq (.region [⟨(some 5), none, .call (.func 41) []⟩,
 ⟨(some 6), none, .op (.m (.rng (.tmp 5)))⟩])
 (.block 0 (.loop A63l0)))
 (.seq (.region [⟨(some 2), none, .op (.move (.const (.string ⟨#[]⟩)))⟩])
 .ret)))
def R63 : List RV := [.tmp 2]
theorem is63 : Is Tryd.prog (fun _ _ => false) 63 16 A63 R63 := ⟨Tryd.f63, Tryd.func63, rfl, by kernel_rfl, by kernel_rfl, Tryd.call63⟩
def A64 : ACode :=
 (.seq (.region [⟨(some 2), none, .op (.move (.const (.bool false)))⟩])
 (.seq (.region [⟨(some 3), none, .op (.move (.tmp 0))⟩,
 ⟨(some 4), none, .op (.bin .geq (.tmp 3) (.const (.int .i64 1)))⟩,
 ⟨(some 5), none, .op (.move (.tmp 4))⟩,
 ⟨(some 6), (some (5, true)), .op (.move (.tmp 0))⟩,
 ⟨(some 7), (some (5, true)), .op (.bin .leq (.tmp 6) (.const (.int .i64 64)))⟩,
 ⟨(some 8), none, .op (.pick (.tmp 5) (.tmp 7) (.const (.bool false)))⟩,
 ⟨(some 2), none, .op (.move (.tmp 8))⟩])
 .ret))
def R64 : List RV := [.tmp 2]
theorem is64 : Is Tryd.prog (fun _ _ => false) 64 9 A64 R64 := ⟨Tryd.f64, Tryd.func64, rfl, by kernel_rfl, by kernel_rfl, Tryd.call64⟩
def A65 : ACode :=
 (.seq (.region [⟨(some 2), none, .op (.move (.const (.int .u64 0)))⟩])
 (.seq (.seq (.region [⟨(some 3), none, .op (.move (.tmp 0))⟩,
 ⟨(some 4), none, .call (.func 64) [(.tmp 3)]⟩,
 ⟨(some 5), none, .op (.un .not (.tmp 4))⟩])
 (.cond (.tmp 5) (.seq (.region [⟨(some 2), none, .op (.move (.const (.int .u64 0)))⟩])
 .ret) .skip))
 (.seq (.region [⟨(some 6), none, .op (.move (.tmp 0))⟩,
 ⟨(some 7), none, .op (.bin .sub (.const (.int .i64 64)) (.tmp 6))⟩,
 ⟨(some 8), none, .op (.bin .shr (.const (.int .u64 18446744073709551615)) (.tmp 7))⟩,
 ⟨(some 2), none, .op (.move (.tmp 8))⟩])
 .ret)))
def R65 : List RV := [.tmp 2]
theorem is65 : Is Tryd.prog (fun _ _ => false) 65 9 A65 R65 := ⟨Tryd.f65, Tryd.func65, rfl, by kernel_rfl, by kernel_rfl, Tryd.call65⟩
def A66l0 : ACode :=
 (.seq (.region [⟨(some 17), none, .op (.bin .lss (.tmp 16) (.tmp 15))⟩])
 (.seq (.cond (.tmp 17) .skip (.exit 0))
 (.seq (.block 1 (.seq (.region [⟨(some 18), none, .op (.move (.tmp 16))⟩,
 ⟨(some 3), none, .op (.move (.tmp 18))⟩])
 (.seq (.region [⟨(some 19), none, .op (.move (.tmp 0))⟩,
 ⟨(some 20), none, .op (.move (.tmp 3))⟩,
 ⟨(some 21), none, .op (.idxs (.tmp 19) (.tmp 20))⟩,
 ⟨(some 4), none, .op (.move (.tmp 21))⟩])
 (.seq (.region [⟨(some 22), none, .op (.move (.tmp 4))⟩,
 ⟨(some 23), none, .op (.bin .geq (.tmp 22) (.const (.int .u8 97)))⟩,
 ⟨(some 24), none, .op (.move (.tmp 23))⟩,
 ⟨(some 25), (some (24, true)), .op (.move (.tmp 4))⟩,
 ⟨(some 26), (some (24, true)), .op (.bin .leq (.tmp 25) (.const (.int .u8 122)))⟩,
 ⟨(some 27), none, .op (.pick (.tmp 24) (.tmp 26) (.const (.bool false)))⟩,
 ⟨(some 28), none, .op (.move (.tmp 27))⟩,
 ⟨(some 29), (some (28, false)), .op (.move (.tmp 4))⟩,
 ⟨(some 30), (some (28, false)), .op (.bin .geq (.tmp 29) (.const (.int .u8 65)))⟩,
 ⟨(some 31), (some (28, false)), .op (.move (.tmp 30))⟩,
 ⟨(some 32), (some (31, true)), .op (.move (.tmp 4))⟩,
 ⟨(some 33), (some (31, true)), .op (.bin .leq (.tmp 32) (.const (.int .u8 90)))⟩,
 ⟨(some 34), (some (28, false)), .op (.pick (.tmp 31) (.tmp 33) (.const (.bool false)))⟩,
 ⟨(some 35), none, .op (.pick (.tmp 28) (.const (.bool true)) (.tmp 34))⟩,
 ⟨(some 5), none, .op (.move (.tmp 35))⟩])
 (.seq (.region [⟨(some 36), none, .op (.move (.tmp 5))⟩,
 ⟨(some 37), none, .op (.un .not (.tmp 36))⟩,
 ⟨(some 38), none, .op (.move (.tmp 37))⟩,
 ⟨(some 39), (some (38, true)), .op (.move (.tmp 3))⟩,
 ⟨(some 40), (some (38, true)), .op (.bin .eql (.tmp 39) (.const (.int .i64 0)))⟩,
 ⟨(some 41), (some (38, true)), .op (.move (.tmp 40))⟩,
 ⟨(some 42), (some (41, false)), .op (.move (.tmp 4))⟩,
 ⟨(some 43), (some (41, false)), .op (.bin .neq (.tmp 42) (.const (.int .u8 95)))⟩,
 ⟨(some 44), (some (41, false)), .op (.move (.tmp 43))⟩,
 ⟨(some 45), (some (44, true)), .op (.move (.tmp 4))⟩,
 ⟨(some 46), (some (44, true)), .op (.bin .lss (.tmp 45) (.const (.int .u8 48)))⟩,
 ⟨(some 47), (some (44, true)), .op (.move (.tmp 46))⟩,
 ⟨(some 48), (some (47, false)), .op (.move (.tmp 4))⟩,
 ⟨(some 49), (some (47, false)), .op (.bin .gtr (.tmp 48) (.const (.int .u8 57)))⟩,
 ⟨(some 50), (some (44, true)), .op (.pick (.tmp 47) (.const (.bool true)) (.tmp 49))⟩,
 ⟨(some 51), (some (41, false)), .op (.pick (.tmp 44) (.tmp 50) (.const (.bool false)))⟩,
 ⟨(some 52), (some (38, true)), .op (.pick (.tmp 41) (.const (.bool true)) (.tmp 51))⟩,
 ⟨(some 53), none, .op (.pick (.tmp 38) (.tmp 52) (.const (.bool false)))⟩])
 (.cond (.tmp 53) (.seq (.region [⟨(some 2), none, .op (.move (.const (.bool false)))⟩])
 .ret) .skip))))))
 (.region [⟨(some 54), none, .op (.bin .add (.tmp 16) (.const (.int .i64 1)))⟩,
 ⟨(some 16), none, .op (.move (.tmp 54))⟩]))))
def A66 : ACode :=
 (.seq (.region [⟨(some 2), none, .op (.move (.const (.bool false)))⟩])
 (.seq (.seq (.region [⟨(some 6), none, .op (.move (.tmp 0))⟩,
 ⟨(some 7), none, .op (.lens (.tmp 6))⟩,
 ⟨(some 8), none, .op (.bin .lss (.tmp 7) (.const (.int .i64 1)))⟩,
 ⟨(some 9), none, .op (.move (.tmp 8))⟩,
 ⟨(some 10), (some (9, false)), .op (.move (.tmp 0))⟩,
 ⟨(some 11), (some (9, false)), .op (.lens (.tmp 10))⟩,
 ⟨(some 12), (some (9, false)), .op (.bin .gtr (.tmp 11) (.const (.int .i64 24)))⟩,
 ⟨(some 13), none, .op (.pick (.tmp 9) (.const (.bool true)) (.tmp 12))⟩])
 (.cond (.tmp 13) (.seq (.region [⟨(some 2), none, .op (.move (.const (.bool false)))⟩])
 .ret) .skip))
 (.seq (.seq (.region [⟨(some 14), none, .op (.move (.tmp 0))⟩,
 ⟨(some 15), none, .op (.lens (.tmp 14))⟩,
 ⟨(some 16), none, .op (.move (.const (.int .i64 0)))⟩])
 (.block 0 (.loop A66l0)))
 (.seq (.region [⟨(some 2), none, .op (.move (.const (.bool true)))⟩])
 .ret))))
def R66 : List RV := [.tmp 2]
theorem is66 : Is Tryd.prog (fun _ _ => false) 66 55 A66 R66 := ⟨Tryd.f66, Tryd.func66, rfl, by kernel_rfl, by kernel_rfl, Tryd.call66⟩
def A67 : ACode :=
 (.seq (.region [⟨(some 4), none, .op (.move (.const (.bool false)))⟩])
 (.seq (.region [⟨(some 5), none, .op (.move (.tmp 0))⟩,
 ⟨(some 6), none, .op (.move (.tmp 1))⟩,
 ⟨(some 7), none, .call (.func 84) [(.tmp 5), (.tmp 6)]⟩,
 ⟨(some 8), none, .op (.bin .geq (.tmp 7) (.const (.int .i64 0)))⟩,
 ⟨(some 4), none, .op (.move (.tmp 8))⟩])
 .ret))
def R67 : List RV := [.tmp 4]
theorem is67 : Is Tryd.prog (fun _ _ => false) 67 9 A67 R67 := ⟨Tryd.f67, Tryd.func67, rfl, by kernel_rfl, by kernel_rfl, Tryd.call67⟩
def A68 : ACode :=
 (.seq (.region [⟨(some 0), none, .op (.move (.const (.slice none 0 0)))⟩])
 (.seq (.region [⟨(some 1), none, .op (.buildF [(.str [])] 14 [(0, (.const (.string ⟨#[97, 114, 114, 97, 121]⟩))), (1, (.const (.string ⟨#[102, 117, 110, 99]⟩))), (2, (.const (.string ⟨#[118, 97, 114]⟩))), (3, (.const (.string ⟨#[105, 102]⟩))), (4, (.const (.string ⟨#[101, 108, 115, 101]⟩))), (5, (.const (.string ⟨#[119, 104, 105, 108, 101]⟩))), (6, (.const (.string ⟨#[98, 114, 101, 97, 107]⟩))), (7, (.const (.string ⟨#[116, 101, 108, 108]⟩))), (8, (.const (.string ⟨#[114, 101, 116, 117, 114, 110]⟩))), (9, (.const (.string ⟨#[115, 105, 103, 110, 101, 100]⟩))), (10, (.const (.string ⟨#[98, 105, 116]⟩))), (11, (.const (.string ⟨#[98, 121, 116, 101]⟩))), (12, (.const (.string ⟨#[104, 97, 108, 102]⟩))), (13, (.const (.string ⟨#[119, 111, 114, 100]⟩)))])⟩,
 ⟨(some 0), none, .op (.move (.tmp 1))⟩])
 .ret))
def R68 : List RV := [.tmp 0]
theorem is68 : Is Tryd.prog (fun _ _ => false) 68 2 A68 R68 := ⟨Tryd.f68, Tryd.func68, rfl, by kernel_rfl, by kernel_rfl, Tryd.call68⟩
def A69 : ACode :=
 (.seq (.region [⟨(some 4), none, .op (.move (.const (.bool false)))⟩])
 (.seq (.region [⟨(some 5), none, .op (.move (.tmp 0))⟩,
 ⟨(some 6), none, .op (.move (.tmp 1))⟩,
 ⟨(some 7), none, .call (.func 85) [(.tmp 5), (.tmp 6)]⟩,
 ⟨(some 8), none, .op (.bin .geq (.tmp 7) (.const (.int .i64 0)))⟩,
 ⟨(some 4), none, .op (.move (.tmp 8))⟩])
 .ret))
def R69 : List RV := [.tmp 4]
theorem is69 : Is Tryd.prog (fun _ _ => false) 69 9 A69 R69 := ⟨Tryd.f69, Tryd.func69, rfl, by kernel_rfl, by kernel_rfl, Tryd.call69⟩
def A70 : ACode :=
 (.seq (.region [⟨(some 2), none, .op (.box (.tmp 0))⟩,
 ⟨(some 3), none, .op (.move (.const (.bool false)))⟩])
 (.seq (.region [⟨(some 4), none, .op (.load 1 false (.tmp 1))⟩,
 ⟨(some 5), none, .op (.load 6 true (.tmp 2))⟩,
 ⟨(some 6), none, .call (.tmp 4) [(.tmp 5)]⟩,
 ⟨(some 7), none, .op (.un .not (.tmp 6))⟩,
 ⟨(some 3), none, .op (.move (.tmp 7))⟩])
 .ret))
def R70 : List RV := [.tmp 3]
theorem is70 : Is Tryd.prog (fun _ _ => false) 70 8 A70 R70 := ⟨Tryd.f70, Tryd.func70, rfl, by kernel_rfl, by kernel_rfl, Tryd.call70⟩
def A71l0 : ACode :=
 (.seq (.region [⟨(some 9), none, .op (.bin .lss (.tmp 8) (.tmp 7))⟩])
 (.seq (.cond (.tmp 9) .skip (.exit 0))
 (.seq (.block 1 (.seq (.region [⟨(some 10), none, .op (.move (.tmp 8))⟩,
 ⟨(some 5), none, .op (.move (.tmp 10))⟩])
 (.seq (.region [⟨(some 11), none, .op (.move (.tmp 1))⟩,
 ⟨(some 12), none, .op (.move (.tmp 0))⟩,
 ⟨(some 13), none, .op (.move (.tmp 5))⟩,
 ⟨(some 14), none, .op (.idxA 3 (.tmp 12) (.tmp 13))⟩,
 ⟨(some 15), none, .op (.load 3 true (.tmp 14))⟩,
 ⟨(some 16), none, .call (.tmp 11) [(.tmp 15)]⟩])
 (.cond (.tmp 16) (.seq (.region [⟨(some 17), none, .op (.move (.tmp 5))⟩,
 ⟨(some 4), none, .op (.move (.tmp 17))⟩])
 .ret) .skip))))
 (.region [⟨(some 18), none, .op (.bin .add (.tmp 8) (.const (.int .i64 1)))⟩,
 ⟨(some 8), none, .op (.move (.tmp 18))⟩]))))
def A71 : ACode :=
 (.seq (.region [⟨(some 4), none, .op (.move (.const (.int .i64 0)))⟩])
 (.seq (.seq (.region [⟨(some 6), none, .op (.move (.tmp 0))⟩,
 ⟨(some 7), none, .op (.len (.tmp 6))⟩,
 ⟨(some 8), none, .op (.move (.const (.int .i64 0)))⟩])
 (.block 0 (.loop A71l0)))
 (.seq (.region [⟨(some 4), none, .op (.move (.const (.int .i64 (-1))))⟩])
 .ret)))
def R71 : List RV := [.tmp 4]
theorem is71 : Is Tryd.prog (fun _ _ => false) 71 19 A71 R71 := ⟨Tryd.f71, Tryd.func71, rfl, by kernel_rfl, by kernel_rfl, Tryd.call71⟩
def A72 : ACode :=
 (.seq (.region [⟨(some 2), none, .op (.box (.tmp 0))⟩,
 ⟨(some 3), none, .op (.move (.const (.bool false)))⟩])
 (.seq (.region [⟨(some 4), none, .op (.fieldA 0 (.tmp 2))⟩,
 ⟨(some 5), none, .op (.load 1 false (.tmp 4))⟩,
 ⟨(some 6), none, .op (.load 1 false (.tmp 1))⟩,
 ⟨(some 7), none, .op (.bin .eql (.tmp 5) (.tmp 6))⟩,
 ⟨(some 3), none, .op (.move (.tmp 7))⟩])
 .ret))
def R72 : List RV := [.tmp 3]
theorem is72 : Is Tryd.prog (fun _ _ => false) 72 8 A72 R72 := ⟨Tryd.f72, Tryd.func72, rfl, by kernel_rfl, by kernel_rfl, Tryd.call72⟩
def A73l0 : ACode :=
 (.seq (.seq (.region [⟨(some 15), none, .op (.move (.tmp 3))⟩,
 ⟨(some 16), none, .op (.move (.tmp 0))⟩,
 ⟨(some 17), none, .op (.lens (.tmp 16))⟩,
 ⟨(some 18), none, .op (.bin .lss (.tmp 15) (.tmp 17))⟩])
 (.cond (.tmp 18) .skip (.exit 0)))
 (.seq (.block 1 (.seq (.region [⟨(some 21), none, .op (.move (.tmp 0))⟩,
 ⟨(some 22), none, .op (.move (.tmp 3))⟩,
 ⟨(some 23), none, .op (.idxs (.tmp 21) (.tmp 22))⟩,
 ⟨(some 4), none, .op (.move (.tmp 23))⟩])
 (.seq (.region [⟨(some 24), none, .op (.move (.tmp 4))⟩,
 ⟨(some 25), none, .op (.bin .geq (.tmp 24) (.const (.int .u8 97)))⟩,
 ⟨(some 26), none, .op (.move (.tmp 25))⟩,
 ⟨(some 27), (some (26, true)), .op (.move (.tmp 4))⟩,
 ⟨(some 28), (some (26, true)), .op (.bin .leq (.tmp 27) (.const (.int .u8 122)))⟩,
 ⟨(some 29), none, .op (.pick (.tmp 26) (.tmp 28) (.const (.bool false)))⟩,
 ⟨(some 30), none, .op (.move (.tmp 29))⟩,
 ⟨(some 31), (some (30, false)), .op (.move (.tmp 4))⟩,
 ⟨(some 32), (some (30, false)), .op (.bin .geq (.tmp 31) (.const (.int .u8 65)))⟩,
 ⟨(some 33), (some (30, false)), .op (.move (.tmp 32))⟩,
 ⟨(some 34), (some (33, true)), .op (.move (.tmp 4))⟩,
 ⟨(some 35), (some (33, true)), .op (.bin .leq (.tmp 34) (.const (.int .u8 90)))⟩,
 ⟨(some 36), (some (30, false)), .op (.pick (.tmp 33) (.tmp 35) (.const (.bool false)))⟩,
 ⟨(some 37), none, .op (.pick (.tmp 30) (.const (.bool true)) (.tmp 36))⟩,
 ⟨(some 5), none, .op (.move (.tmp 37))⟩])
 (.seq (.region [⟨(some 38), none, .op (.move (.tmp 4))⟩,
 ⟨(some 39), none, .op (.bin .geq (.tmp 38) (.const (.int .u8 48)))⟩,
 ⟨(some 40), none, .op (.move (.tmp 39))⟩,
 ⟨(some 41), (some (40, true)), .op (.move (.tmp 4))⟩,
 ⟨(some 42), (some (40, true)), .op (.bin .leq (.tmp 41) (.const (.int .u8 57)))⟩,
 ⟨(some 43), none, .op (.pick (.tmp 40) (.tmp 42) (.const (.bool false)))⟩,
 ⟨(some 44), none, .op (.move (.tmp 43))⟩,
 ⟨(some 45), (some (44, false)), .op (.move (.tmp 4))⟩,
 ⟨(some 46), (some (44, false)), .op (.bin .eql (.tmp 45) (.const (.int .u8 95)))⟩,
 ⟨(some 47), none, .op (.pick (.tmp 44) (.const (.bool true)) (.tmp 46))⟩,
 ⟨(some 6), none, .op (.move (.tmp 47))⟩])
 (.seq (.region [⟨(some 48), none, .op (.move (.tmp 5))⟩,
 ⟨(some 49), none, .op (.un .not (.tmp 48))⟩,
 ⟨(some 50), none, .op (.move (.tmp 49))⟩,
 ⟨(some 51), (some (50, true)), .op (.move (.tmp 3))⟩,
 ⟨(some 52), (some (50, true)), .op (.bin .eql (.tmp 51) (.const (.int .i64 0)))⟩,
 ⟨(some 53), (some (50, true)), .op (.move (.tmp 52))⟩,
 ⟨(some 54), (some (53, false)), .op (.move (.tmp 6))⟩,
 ⟨(some 55), (some (53, false)), .op (.un .not (.tmp 54))⟩,
 ⟨(some 56), (some (50, true)), .op (.pick (.tmp 53) (.const (.bool true)) (.tmp 55))⟩,
 ⟨(some 57), none, .op (.pick (.tmp 50) (.tmp 56) (.const (.bool false)))⟩])
 (.cond (.tmp 57) (.seq (.region [⟨(some 2), none, .op (.move (.const (.bool false)))⟩])
 .ret) .skip))))))
 (.region [⟨(some 19), none, .op (.move (.tmp 3))⟩,
 ⟨(some 20), none, .op (.bin .add (.tmp 19) (.const (.int .i64 1)))⟩,
 ⟨(some 3), none, .op (.move (.tmp 20))⟩])))
def A73 : ACode :=
 (.seq (.region [⟨(some 2), none, .op (.move (.const (.bool false)))⟩])
 (.seq (.seq (.region [⟨(some 7), none, .op (.move (.tmp 0))⟩,
 ⟨(some 8), none, .op (.lens (.tmp 7))⟩,
 ⟨(some 9), none, .op (.bin .eql (.tmp 8) (.const (.int .i64 0)))⟩,
 ⟨(some 10), none, .op (.move (.tmp 9))⟩,
 ⟨(some 11), (some (10, false)), .op (.move (.tmp 0))⟩,
 ⟨(some 12), (some (10, false)), .op (.lens (.tmp 11))⟩,
 ⟨(some 13), (some (10, false)), .op (.bin .gtr (.tmp 12) (.const (.int .i64 24)))⟩,
 ⟨(some 14), none, .op (.pick (.tmp 10) (.const (.bool true)) (.tmp 13))⟩])
 (.cond (.tmp 14) (.seq (.region [⟨(some 2), none, .op (.move (.const (.bool false)))⟩])
 .ret) .skip))
 (.seq (.seq (.region [⟨(some 3), none, .op (.move (.const (.int .i64 0)))⟩])
 (.block 0 (.loop A73l0)))
 (.seq (.region [⟨(some 2), none, .op (.move (.const (.bool true)))⟩])
 .ret))))
def R73 : List RV := [.tmp 2]
theorem is73 : Is Tryd.prog (fun _ _ => false) 73 58 A73 R73 := ⟨Tryd.f73, Tryd.func73, rfl, by kernel_rfl, by kernel_rfl, Tryd.call73⟩
def A74l0 : ACode :=
 (.seq (.seq (.region [⟨(some 4), none, .op (.move (.tmp 3))⟩,
 ⟨(some 5), none, .op (.m (.glb (.lst 1 [[(.str [97, 114, 114, 97, 121])], [(.str [102, 117, 110, 99])], [(.str [118, 97, 114])], [(.str [105, 102])], [(.str [101, 108, 115, 101])], [(.str [119, 104, 105, 108, 101])], [(.str [98, 114, 101, 97, 107])], [(.str [116, 101, 108, 108])], [(.str [114, 101, 116, 117, 114, 110])], [(.str [115, 105, 103, 110, 101, 100])], [(.str [98, 105, 116])], [(.str [98, 121, 116, 101])], [(.str [104, 97, 108, 102])], [(.str [119, 111, 114, 100])]])))⟩,
 ⟨(some 6), none, .op (.len (.tmp 5))⟩,
 ⟨(some 7), none, .op (.bin .lss (.tmp 4) (.tmp 6))⟩])
 (.cond (.tmp 7) .skip (.exit 0)))
 (.seq (.block 1 (.seq (.region [⟨(some 10), none, .op (.m (.glb (.lst 1 [[(.str [97, 114, 114, 97, 121])], [(.str [102, 117, 110, 99])], [(.str [118, 97, 114])], [(.str [105, 102])], [(.str [101, 108, 115, 101])], [(.str [119, 104, 105, 108, 101])], [(.str [98, 114, 101, 97, 107])], [(.str [116, 101, 108, 108])], [(.str [114, 101, 116, 117, 114, 110])], [(.str [115, 105, 103, 110, 101, 100])], [(.str [98, 105, 116])], [(.str [98, 121, 116, 101])], [(.str [104, 97, 108, 102])], [(.str [119, 111, 114, 100])]])))⟩,
 ⟨(some 11), none, .op (.move (.tmp 3))⟩,
 ⟨(some 12), none, .op (.idxA 1 (.tmp 10) (.tmp 11))⟩,
 ⟨(some 13), none, .op (.load 1 false (.tmp 12))⟩,
 ⟨(some 14), none, .op (.move (.tmp 0))⟩,
 ⟨(some 15), none, .op (.bin .eql (.tmp 13) (.tmp 14))⟩])
 (.cond (.tmp 15) (.seq (.region [⟨(some 2), none, .op (.move (.const (.bool true)))⟩])
 .ret) .skip)))
 (.region [⟨(some 8), none, .op (.move (.tmp 3))⟩,
 ⟨(some 9), none, .op (.bin .add (.tmp 8) (.const (.int .i64 1)))⟩,
 ⟨(some 3), none, .op (.move (.tmp 9))⟩])))
def A74 : ACode :=
 (.seq (.region [⟨(some 2), none, .op (.move (.const (.bool false)))⟩])
 (.seq (.seq (.region [⟨(some 3), none, .op (.move (.const (.int .i64 0)))⟩])
 (.block 0 (.loop A74l0)))
 (.seq (.region [⟨(some 2), none, .op (.move (.const (.bool false)))⟩])
 .ret)))
def R74 : List RV := [.tmp 2]
theorem is74 : Is Tryd.prog (fun _ _ => false) 74 16 A74 R74 := ⟨Tryd.f74, Tryd.func74, rfl, by kernel_rfl, by kernel_rfl, Tryd.call74⟩
def A75l0 : ACode :=
 (.seq (.region [⟨(some 9), none, .op (.bin .lss (.tmp 8) (.tmp 7))⟩])
 (.seq (.cond (.tmp 9) .skip (.exit 0))
 (.seq (.block 1 (.seq (.region [⟨(some 10), none, .op (.move (.tmp 8))⟩,
 ⟨(some 5), none, .op (.move (.tmp 10))⟩])
 (.seq (.region [⟨(some 11), none, .op (.move (.tmp 1))⟩,
 ⟨(some 12), none, .op (.move (.tmp 0))⟩,
 ⟨(some 13), none, .op (.move (.tmp 5))⟩,
 ⟨(some 14), none, .op (.idxA 4 (.tmp 12) (.tmp 13))⟩,
 ⟨(some 15), none, .op (.load 4 true (.tmp 14))⟩,
 ⟨(some 16), none, .call (.tmp 11) [(.tmp 15)]⟩])
 (.cond (.tmp 16) (.seq (.region [⟨(some 17), none, .op (.move (.tmp 5))⟩,
 ⟨(some 4), none, .op (.move (.tmp 17))⟩])
 .ret) .skip))))
 (.region [⟨(some 18), none, .op (.bin .add (.tmp 8) (.const (.int .i64 1)))⟩,
 ⟨(some 8), none, .op (.move (.tmp 18))⟩]))))
def A75 : ACode :=
 (.seq (.region [⟨(some 4), none, .op (.move (.const (.int .i64 0)))⟩])
 (.seq (.seq (.region [⟨(some 6), none, .op (.move (.tmp 0))⟩,
 ⟨(some 7), none, .op (.len (.tmp 6))⟩,
 ⟨(some 8), none, .op (.move (.const (.int .i64 0)))⟩])
 (.block 0 (.loop A75l0)))
 (.seq (.region [⟨(some 4), none, .op (.move (.const (.int .i64 (-1))))⟩])
 .ret)))
def R75 : List RV := [.tmp 4]
theorem is75 : Is Tryd.prog (fun _ _ => false) 75 19 A75 R75 := ⟨Tryd.f75, Tryd.func75, rfl, by kernel_rfl, by kernel_rfl, Tryd.call75⟩
def A76 : ACode :=
 (.seq (.region [⟨(some 4), none, .op (.move (.const (.bool false)))⟩])
 (.seq (.region [⟨(some 5), none, .op (.move (.tmp 0))⟩,
 ⟨(some 6), none, .op (.move (.tmp 1))⟩,
 ⟨(some 7), none, .call (.func 86) [(.tmp 5), (.tmp 6)]⟩,
 ⟨(some 8), none, .op (.bin .geq (.tmp 7) (.const (.int .i64 0)))⟩,
 ⟨(some 4), none, .op (.move (.tmp 8))⟩])
 .ret))
def R76 : List RV := [.tmp 4]
theorem is76 : Is Tryd.prog (fun _ _ => false) 76 9 A76 R76 := ⟨Tryd.f76, Tryd.func76, rfl, by kernel_rfl, by kernel_rfl, Tryd.call76⟩
def A77 : ACode :=
 (.seq (.region [⟨(some 2), none, .op (.box (.tmp 0))⟩,
 ⟨(some 3), none, .op (.move (.const (.bool false)))⟩])
 (.seq (.region [⟨(some 4), none, .op (.load 1 false (.tmp 1))⟩,
 ⟨(some 5), none, .op (.load 2 true (.tmp 2))⟩,
 ⟨(some 6), none, .call (.tmp 4) [(.tmp 5)]⟩,
 ⟨(some 7), none, .op (.un .not (.tmp 6))⟩,
 ⟨(some 3), none, .op (.move (.tmp 7))⟩])
 .ret))
def R77 : List RV := [.tmp 3]
theorem is77 : Is Tryd.prog (fun _ _ => false) 77 8 A77 R77 := ⟨Tryd.f77, Tryd.func77, rfl, by kernel_rfl, by kernel_rfl, Tryd.call77⟩
def A78 : ACode :=
 (.seq (.region [⟨(some 4), none, .op (.move (.const (.bool false)))⟩])
 (.seq (.region [⟨(some 5), none, .op (.move (.tmp 0))⟩,
 ⟨(some 6), none, .op (.move (.tmp 1))⟩,
 ⟨(some 7), none, .call (.func 87) [(.tmp 5), (.tmp 6)]⟩,
 ⟨(some 8), none, .op (.bin .geq (.tmp 7) (.const (.int .i64 0)))⟩,
 ⟨(some 4), none, .op (.move (.tmp 8))⟩])
 .ret))
def R78 : List RV := [.tmp 4]
theorem is78 : Is Tryd.prog (fun _ _ => false) 78 9 A78 R78 := ⟨Tryd.f78, Tryd.func78, rfl, by kernel_rfl, by kernel_rfl, Tryd.call78⟩
def A79 : ACode :=
 (.seq (.region [⟨(some 2), none, .op (.box (.tmp 0))⟩,
 ⟨(some 3), none, .op (.move (.const (.bool false)))⟩])
 (.seq (.region [⟨(some 4), none, .op (.load 1 false (.tmp 1))⟩,
 ⟨(some 5), none, .op (.load 7 true (.tmp 2))⟩,
 ⟨(some 6), none, .call (.tmp 4) [(.tmp 5)]⟩,
 ⟨(some 7), none, .op (.un .not (.tmp 6))⟩,
 ⟨(some 3), none, .op (.move (.tmp 7))⟩])
 .ret))
def R79 : List RV := [.tmp 3]
theorem is79 : Is Tryd.prog (fun _ _ => false) 79 8 A79 R79 := ⟨Tryd.f79, Tryd.func79, rfl, by kernel_rfl, by kernel_rfl, Tryd.call79⟩
def A80 : ACode :=
 (.seq (.region [⟨(some 2), none, .op (.move (.const (.int .i64 0)))⟩])
 (.seq (.seq (.region [⟨(some 3), none, .op (.move (.tmp 0))⟩])
 (.cond (.tmp 3) (.seq (.region [⟨(some 2), none, .op (.move (.const (.int .i64 0)))⟩])
 .ret) .skip))
 (.seq (.region [⟨(some 2), none, .op (.move (.const (.int .i64 14)))⟩])
 .ret)))
def R80 : List RV := [.tmp 2]
theorem is80 : Is Tryd.prog (fun _ _ => false) 80 4 A80 R80 := ⟨Tryd.f80, Tryd.func80, rfl, by kernel_rfl, by kernel_rfl, Tryd.call80⟩
def A81l0 : ACode :=
 (.seq (.region [⟨(some 33), none, .op (.bin .lss (.tmp 32) (.tmp 31))⟩])
 (.seq (.cond (.tmp 33) .skip (.exit 0))
 (.seq (.block 1 (.seq (.region [⟨(some 34), none, .op (.idxA 2 (.tmp 30) (.tmp 32))⟩,
 ⟨(some 35), none, .op (.load 2 true (.tmp 34))⟩,
 ⟨(some 11), none, .op (.alloc [(.str []), (.int .i64 0)])⟩,
 ⟨none, none, .op (.store 2 (.tmp 11) (.tmp 35))⟩])
 (.region [⟨(some 36), none, .op (.move (.tmp 9))⟩,
 ⟨(some 37), none, .op (.fieldA 1 (.tmp 11))⟩,
 ⟨(some 38), none, .op (.load 1 false (.tmp 37))⟩,
 ⟨(some 39), none, .op (.buildF [(.int .i64 0)] 1 [(0, (.tmp 38))])⟩,
 ⟨(some 40), none, .op (.app 3 1 8 (.tmp 36) (.tmp 39))⟩,
 ⟨(some 9), none, .op (.move (.tmp 40))⟩])))
 (.region [⟨(some 41), none, .op (.bin .add (.tmp 32) (.const (.int .i64 1)))⟩,
 ⟨(some 32), none, .op (.move (.tmp 41))⟩]))))
def A81 : ACode :=
 (.seq (.region [⟨(some 4), none, .op (.box (.tmp 1))⟩,
 ⟨(some 6), none, .op (.move (.const (.int .i64 0)))⟩])
 (.seq (.dregion [⟨0, ⟨(some 12), none, .op (.move (.tmp 0))⟩, []⟩,
 ⟨1, ⟨(some 13), none, .op (.nilck (.tmp 12))⟩, []⟩,
 ⟨2, ⟨(some 14), none, .op (.fieldA 0 (.tmp 13))⟩, []⟩,
 ⟨3, ⟨(some 15), none, .op (.load 2 true (.tmp 14))⟩, []⟩,
 ⟨4, ⟨(some 16), none, .op (.fieldA 2 (.tmp 4))⟩, []⟩,
 ⟨5, ⟨(some 17), none, .op (.load 1 false (.tmp 16))⟩, []⟩,
 ⟨6, ⟨(some 18), none, .call (.func 88) [(.tmp 15), (.tmp 17)]⟩, []⟩,
 ⟨7, ⟨(some 7), none, .op (.move (.tmp 18))⟩, []⟩])
 (.seq (.seq (.region [⟨(some 19), none, .op (.move (.tmp 7))⟩,
 ⟨(some 20), none, .op (.bin .lss (.tmp 19) (.const (.int .i64 0)))⟩])
 (.cond (.tmp 20) (.seq (.region [⟨(some 6), none, .op (.move (.const (.int .i64 16)))⟩])
 .ret) .skip))
 (.seq (.region [⟨(some 21), none, .op (.move (.tmp 0))⟩,
 ⟨(some 22), none, .op (.nilck (.tmp 21))⟩,
 ⟨(some 23), none, .op (.fieldA 0 (.tmp 22))⟩,
 ⟨(some 24), none, .op (.fieldA 1 (.tmp 23))⟩,
 ⟨(some 25), none, .op (.load 1 false (.tmp 24))⟩,
 ⟨(some 26), none, .op (.move (.tmp 7))⟩,
 ⟨(some 27), none, .op (.idxA 4 (.tmp 25) (.tmp 26))⟩,
 ⟨(some 28), none, .op (.load 4 true (.tmp 27))⟩,
 ⟨(some 8), none, .op (.alloc [(.str []), .nilS, (.int .i64 0), .nilS])⟩,
 ⟨none, none, .op (.store 4 (.tmp 8) (.tmp 28))⟩])
 (.seq (.region [⟨(some 9), none, .op (.move (.const (.slice none 0 0)))⟩])
 (.seq (.seq (.region [⟨(some 29), none, .op (.fieldA 1 (.tmp 8))⟩,
 ⟨(some 30), none, .op (.load 1 false (.tmp 29))⟩,
 ⟨(some 31), none, .op (.len (.tmp 30))⟩,
 ⟨(some 32), none, .op (.move (.const (.int .i64 0)))⟩])
 (.block 0 (.loop A81l0)))
 (.seq (.seq (.region [⟨(some 42), none, .op (.move (.tmp 2))⟩,
 ⟨(some 43), none, .op (.move (.tmp 9))⟩,
 ⟨(some 44), none, .call (.func 89) [(.tmp 42), (.tmp 43)]⟩,
 ⟨(some 45), none, .op (.un .not (.tmp 44))⟩])
 (.cond (.tmp 45) (.seq (.region [⟨(some 6), none, .op (.move (.const (.int .i64 14)))⟩])
 .ret) .skip))
 (.seq (.seq (.region [⟨(some 46), none, .op (.fieldA 1 (.tmp 4))⟩,
 ⟨(some 47), none, .op (.load 1 false (.tmp 46))⟩,
 ⟨(some 48), none, .op (.bin .eql (.tmp 47) (.const (.string ⟨#[]⟩)))⟩])
 (.cond (.tmp 48) (.seq (.region [⟨(some 6), none, .op (.move (.const (.int .i64 0)))⟩])
 .ret) .skip))
 (.seq (.seq (.region [⟨(some 49), none, .op (.move (.tmp 0))⟩,
 ⟨(some 50), none, .op (.fieldA 1 (.tmp 4))⟩,
 ⟨(some 51), none, .op (.load 1 false (.tmp 50))⟩,
 ⟨(some 52), none, .call (.func 39) [(.tmp 49), (.tmp 51)]⟩,
 ⟨(some 53), none, .op (.bin .eql (.tmp 52) (.const (.int .i64 0)))⟩])
 (.cond (.tmp 53) (.seq (.region [⟨(some 6), none, .op (.move (.const (.int .i64 16)))⟩])
 .ret) .skip))
 (.seq (.dregion [⟨0, ⟨(some 54), none, .op (.move (.tmp 0))⟩, []⟩,
 ⟨1, ⟨(some 55), none, .op (.fieldA 1 (.tmp 4))⟩, []⟩,
 ⟨2, ⟨(some 56), none, .op (.load 1 false (.tmp 55))⟩, []⟩,
 ⟨4, ⟨(some 58), none, .op (.fieldA 2 (.tmp 8))⟩, []⟩,
 ⟨5, ⟨(some 59), none, .op (.load 1 false (.tmp 58))⟩, []⟩,
 ⟨3, ⟨(some 57), none, .call (.func 39) [(.tmp 54), (.tmp 56)]⟩, [4, 5]⟩,
 ⟨6, ⟨(some 60), none, .op (.bin .eql (.tmp 57) (.tmp 59))⟩, []⟩,
 ⟨7, ⟨(some 61), none, .call (.func 80) [(.tmp 60)]⟩, []⟩,
 ⟨8, ⟨(some 6), none, .op (.move (.tmp 61))⟩, []⟩])
 .ret))))))))))
def R81 : List RV := [.tmp 6]
theorem is81 : Is Tryd.prog (fun _ _ => false) 81 62 A81 R81 := ⟨Tryd.f81, Tryd.func81, rfl, by kernel_rfl, by kernel_rfl, Tryd.call81⟩
def A82l0 : ACode :=
 (.seq (.seq (.region [⟨(some 6), none, .op (.move (.tmp 3))⟩,
 ⟨(some 7), none, .op (.fieldA 4 (.tmp 1))⟩,
 ⟨(some 8), none, .op (.load 1 false (.tmp 7))⟩,
 ⟨(some 9), none, .op (.len (.tmp 8))⟩,
 ⟨(some 10), none, .op (.bin .lss (.tmp 6) (.tmp 9))⟩])
 (.cond (.tmp 10) .skip (.exit 0)))
 (.seq (.block 1 (.seq (.region [⟨(some 13), none, .op (.fieldA 4 (.tmp 1))⟩,
 ⟨(some 14), none, .op (.load 1 false (.tmp 13))⟩,
 ⟨(some 15), none, .op (.move (.tmp 3))⟩,
 ⟨(some 16), none, .op (.idxA 6 (.tmp 14) (.tmp 15))⟩,
 ⟨(some 17), none, .op (.load 6 true (.tmp 16))⟩,
 ⟨(some 18), none, .call (.func 21) [(.tmp 17)]⟩,
 ⟨(some 19), none, .op (.un .not (.tmp 18))⟩])
 (.cond (.tmp 19) (.seq (.region [⟨(some 2), none, .op (.move (.const (.bool false)))⟩])
 .ret) .skip)))
 (.region [⟨(some 11), none, .op (.move (.tmp 3))⟩,
 ⟨(some 12), none, .op (.bin .add (.tmp 11) (.const (.int .i64 1)))⟩,
 ⟨(some 3), none, .op (.move (.tmp 12))⟩])))
def A82 : ACode :=
 (.seq (.region [⟨(some 1), none, .op (.box (.tmp 0))⟩,
 ⟨(some 2), none, .op (.move (.const (.bool false)))⟩])
 (.seq (.seq (.region [⟨(some 3), none, .op (.move (.const (.int .i64 0)))⟩])
 (.block 0 (.loop A82l0)))
 (.seq (.seq (.region [⟨(some 20), none, .op (.fieldA 5 (.tmp 1))⟩,
 ⟨(some 21), none, .op (.load 1 false (.tmp 20))⟩,
 ⟨(some 22), none, .call (.func 61) [(.tmp 21)]⟩,
 ⟨(some 23), none, .op (.un .not (.tmp 22))⟩,
 ⟨(some 24), none, .op (.move (.tmp 23))⟩,
 ⟨(some 25), (some (24, false)), .op (.fieldA 6 (.tmp 1))⟩,
 ⟨(some 26), (some (24, false)), .op (.load 1 false (.tmp 25))⟩,
 ⟨(some 27), (some (24, false)), .call (.func 61) [(.tmp 26)]⟩,
 ⟨(some 28), (some (24, false)), .op (.un .not (.tmp 27))⟩,
 ⟨(some 29), none, .op (.pick (.tmp 24) (.const (.bool true)) (.tmp 28))⟩])
 (.cond (.tmp 29) (.seq (.region [⟨(some 2), none, .op (.move (.const (.bool false)))⟩])
 .ret) .skip))
 (.seq (.region [⟨(some 30), none, .op (.fieldA 4 (.tmp 1))⟩,
 ⟨(some 31), none, .op (.load 1 false (.tmp 30))⟩,
 ⟨(some 32), none, .op (.len (.tmp 31))⟩,
 ⟨(some 4), none, .op (.move (.tmp 32))⟩])
 (.seq (.region [⟨(some 33), none, .op (.fieldA 5 (.tmp 1))⟩,
 ⟨(some 34), none, .op (.load 1 false (.tmp 33))⟩,
 ⟨(some 35), none, .op (.len (.tmp 34))⟩,
 ⟨(some 36), none, .op (.bin .eql (.tmp 35) (.const (.int .i64 0)))⟩,
 ⟨(some 37), none, .op (.move (.tmp 36))⟩,
 ⟨(some 38), (some (37, true)), .op (.fieldA 6 (.tmp 1))⟩,
 ⟨(some 39), (some (37, true)), .op (.load 1 false (.tmp 38))⟩,
 ⟨(some 40), (some (37, true)), .op (.len (.tmp 39))⟩,
 ⟨(some 41), (some (37, true)), .op (.bin .eql (.tmp 40) (.const (.int .i64 0)))⟩,
 ⟨(some 42), none, .op (.pick (.tmp 37) (.tmp 41) (.const (.bool false)))⟩,
 ⟨(some 5), none, .op (.move (.tmp 42))⟩])
 (.seq (.seq (.region [⟨(some 43), none, .op (.fieldA 0 (.tmp 1))⟩,
 ⟨(some 44), none, .op (.load 1 false (.tmp 43))⟩,
 ⟨(some 45), none, .op (.bin .neq (.tmp 44) (.const (.int .u8 1)))⟩,
 ⟨(some 46), none, .op (.move (.tmp 45))⟩,
 ⟨(some 47), (some (46, true)), .op (.fieldA 3 (.tmp 1))⟩,
 ⟨(some 48), (some (46, true)), .op (.load 1 false (.tmp 47))⟩,
 ⟨(some 49), (some (46, true)), .op (.bin .neq (.tmp 48) (.const (.int .i64 0)))⟩,
 ⟨(some 50), none, .op (.pick (.tmp 46) (.tmp 49) (.const (.bool false)))⟩,
 ⟨(some 51), none, .op (.move (.tmp 50))⟩,
 ⟨(some 52), (some (51, false)), .op (.fieldA 0 (.tmp 1))⟩,
 ⟨(some 53), (some (51, false)), .op (.load 1 false (.tmp 52))⟩,
 ⟨(some 54), (some (51, false)), .op (.bin .neq (.tmp 53) (.const (.int .u8 9)))⟩,
 ⟨(some 55), (some (51, false)), .op (.move (.tmp 54))⟩,
 ⟨(some 56), (some (55, true)), .op (.fieldA 2 (.tmp 1))⟩,
 ⟨(some 57), (some (55, true)), .op (.load 1 false (.tmp 56))⟩,
 ⟨(some 58), (some (55, true)), .op (.bin .neq (.tmp 57) (.const (.string ⟨#[]⟩)))⟩,
 ⟨(some 59), (some (51, false)), .op (.pick (.tmp 55) (.tmp 58) (.const (.bool false)))⟩,
 ⟨(some 60), none, .op (.pick (.tmp 51) (.const (.bool true)) (.tmp 59))⟩])
 (.cond (.tmp 60) (.seq (.region [⟨(some 2), none, .op (.move (.const (.bool false)))⟩])
 .ret) .skip))
 (.seq (.seq (.region [⟨(some 61), none, .op (.fieldA 0 (.tmp 1))⟩,
 ⟨(some 62), none, .op (.load 1 false (.tmp 61))⟩])
 (.block 2 (.seq (.region [⟨(some 64), none, .op (.bin .eql (.tmp 62) (.const (.int .u8 1)))⟩,
 ⟨(some 63), none, .op (.move (.tmp 64))⟩])
 (.cond (.tmp 63) (.seq (.region [⟨(some 65), none, .op (.fieldA 1 (.tmp 1))⟩,
 ⟨(some 66), none, .op (.load 1 false (.tmp 65))⟩,
 ⟨(some 67), none, .call (.func 45) [(.tmp 66)]⟩,
 ⟨(some 68), none, .op (.move (.tmp 67))⟩,
 ⟨(some 69), (some (68, true)), .op (.fieldA 3 (.tmp 1))⟩,
 ⟨(some 70), (some (68, true)), .op (.load 1 false (.tmp 69))⟩,
 ⟨(some 71), (some (68, true)), .call (.func 44) [(.tmp 70)]⟩,
 ⟨(some 72), none, .op (.pick (.tmp 68) (.tmp 71) (.const (.bool false)))⟩,
 ⟨(some 73), none, .op (.move (.tmp 72))⟩,
 ⟨(some 74), (some (73, true)), .op (.move (.tmp 4))⟩,
 ⟨(some 75), (some (73, true)), .op (.bin .eql (.tmp 74) (.const (.int .i64 1)))⟩,
 ⟨(some 76), none, .op (.pick (.tmp 73) (.tmp 75) (.const (.bool false)))⟩,
 ⟨(some 77), none, .op (.move (.tmp 76))⟩,
 ⟨(some 78), (some (77, true)), .op (.move (.tmp 5))⟩,
 ⟨(some 79), none, .op (.pick (.tmp 77) (.tmp 78) (.const (.bool false)))⟩,
 ⟨(some 2), none, .op (.move (.tmp 79))⟩])
 .ret) (.seq (.region [⟨(some 81), none, .op (.bin .eql (.tmp 62) (.const (.int .u8 2)))⟩,
 ⟨(some 80), none, .op (.move (.tmp 81))⟩])
 (.cond (.tmp 80) (.seq (.region [⟨(some 82), none, .op (.fieldA 1 (.tmp 1))⟩,
 ⟨(some 83), none, .op (.load 1 false (.tmp 82))⟩,
 ⟨(some 84), none, .call (.func 45) [(.tmp 83)]⟩,
 ⟨(some 85), none, .op (.move (.tmp 84))⟩,
 ⟨(some 86), (some (85, true)), .op (.move (.tmp 4))⟩,
 ⟨(some 87), (some (85, true)), .op (.bin .eql (.tmp 86) (.const (.int .i64 1)))⟩,
 ⟨(some 88), none, .op (.pick (.tmp 85) (.tmp 87) (.const (.bool false)))⟩,
 ⟨(some 89), none, .op (.move (.tmp 88))⟩,
 ⟨(some 90), (some (89, true)), .op (.move (.tmp 5))⟩,
 ⟨(some 91), none, .op (.pick (.tmp 89) (.tmp 90) (.const (.bool false)))⟩,
 ⟨(some 2), none, .op (.move (.tmp 91))⟩])
 .ret) (.seq (.region [⟨(some 93), none, .op (.bin .eql (.tmp 62) (.const (.int .u8 3)))⟩,
 ⟨(some 92), none, .op (.move (.tmp 93))⟩])
 (.cond (.tmp 92) (.seq (.region [⟨(some 94), none, .op (.fieldA 1 (.tmp 1))⟩,
 ⟨(some 95), none, .op (.load 1 false (.tmp 94))⟩,
 ⟨(some 96), none, .call (.func 45) [(.tmp 95)]⟩,
 ⟨(some 97), none, .op (.move (.tmp 96))⟩,
 ⟨(some 98), (some (97, true)), .op (.move (.tmp 4))⟩,
 ⟨(some 99), (some (97, true)), .op (.bin .eql (.tmp 98) (.const (.int .i64 2)))⟩,
 ⟨(some 100), none, .op (.pick (.tmp 97) (.tmp 99) (.const (.bool false)))⟩,
 ⟨(some 101), none, .op (.move (.tmp 100))⟩,
 ⟨(some 102), (some (101, true)), .op (.move (.tmp 5))⟩,
 ⟨(some 103), none, .op (.pick (.tmp 101) (.tmp 102) (.const (.bool false)))⟩,
 ⟨(some 2), none, .op (.move (.tmp 103))⟩])
 .ret) (.seq (.region [⟨(some 105), none, .op (.bin .eql (.tmp 62) (.const (.int .u8 4)))⟩,
 ⟨(some 104), none, .op (.move (.tmp 105))⟩])
 (.cond (.tmp 104) (.seq (.region [⟨(some 106), none, .op (.fieldA 1 (.tmp 1))⟩,
 ⟨(some 107), none, .op (.load 1 false (.tmp 106))⟩,
 ⟨(some 108), none, .op (.bin .eql (.tmp 107) (.const (.string ⟨#[]⟩)))⟩,
 ⟨(some 109), none, .op (.move (.tmp 108))⟩,
 ⟨(some 110), (some (109, true)), .op (.move (.tmp 4))⟩,
 ⟨(some 111), (some (109, true)), .op (.bin .eql (.tmp 110) (.const (.int .i64 1)))⟩,
 ⟨(some 112), none, .op (.pick (.tmp 109) (.tmp 111) (.const (.bool false)))⟩,
 ⟨(some 2), none, .op (.move (.tmp 112))⟩])
 .ret) (.seq (.region [⟨(some 114), none, .op (.bin .eql (.tmp 62) (.const (.int .u8 5)))⟩,
 ⟨(some 113), none, .op (.move (.tmp 114))⟩])
 (.cond (.tmp 113) (.seq (.region [⟨(some 115), none, .op (.fieldA 1 (.tmp 1))⟩,
 ⟨(some 116), none, .op (.load 1 false (.tmp 115))⟩,
 ⟨(some 117), none, .op (.bin .eql (.tmp 116) (.const (.string ⟨#[]⟩)))⟩,
 ⟨(some 118), none, .op (.move (.tmp 117))⟩,
 ⟨(some 119), (some (118, true)), .op (.move (.tmp 4))⟩,
 ⟨(some 120), (some (118, true)), .op (.bin .eql (.tmp 119) (.const (.int .i64 1)))⟩,
 ⟨(some 121), none, .op (.pick (.tmp 118) (.tmp 120) (.const (.bool false)))⟩,
 ⟨(some 122), none, .op (.move (.tmp 121))⟩,
 ⟨(some 123), (some (122, true)), .op (.fieldA 6 (.tmp 1))⟩,
 ⟨(some 124), (some (122, true)), .op (.load 1 false (.tmp 123))⟩,
 ⟨(some 125), (some (122, true)), .op (.len (.tmp 124))⟩,
 ⟨(some 126), (some (122, true)), .op (.bin .eql (.tmp 125) (.const (.int .i64 0)))⟩,
 ⟨(some 127), none, .op (.pick (.tmp 122) (.tmp 126) (.const (.bool false)))⟩,
 ⟨(some 2), none, .op (.move (.tmp 127))⟩])
 .ret) (.seq (.region [⟨(some 129), none, .op (.bin .eql (.tmp 62) (.const (.int .u8 6)))⟩,
 ⟨(some 128), none, .op (.move (.tmp 129))⟩])
 (.cond (.tmp 128) (.seq (.region [⟨(some 130), none, .op (.fieldA 1 (.tmp 1))⟩,
 ⟨(some 131), none, .op (.load 1 false (.tmp 130))⟩,
 ⟨(some 132), none, .op (.bin .eql (.tmp 131) (.const (.string ⟨#[]⟩)))⟩,
 ⟨(some 133), none, .op (.move (.tmp 132))⟩,
 ⟨(some 134), (some (133, true)), .op (.move (.tmp 4))⟩,
 ⟨(some 135), (some (133, true)), .op (.bin .eql (.tmp 134) (.const (.int .i64 0)))⟩,
 ⟨(some 136), none, .op (.pick (.tmp 133) (.tmp 135) (.const (.bool false)))⟩,
 ⟨(some 137), none, .op (.move (.tmp 136))⟩,
 ⟨(some 138), (some (137, true)), .op (.move (.tmp 5))⟩,
 ⟨(some 139), none, .op (.pick (.tmp 137) (.tmp 138) (.const (.bool false)))⟩,
 ⟨(some 2), none, .op (.move (.tmp 139))⟩])
 .ret) (.seq (.region [⟨(some 141), none, .op (.bin .eql (.tmp 62) (.const (.int .u8 7)))⟩,
 ⟨(some 140), none, .op (.move (.tmp 141))⟩])
 (.cond (.tmp 140) (.seq (.region [⟨(some 142), none, .op (.fieldA 1 (.tmp 1))⟩,
 ⟨(some 143), none, .op (.load 1 false (.tmp 142))⟩,
 ⟨(some 144), none, .op (.bin .eql (.tmp 143) (.const (.string ⟨#[]⟩)))⟩,
 ⟨(some 145), none, .op (.move (.tmp 144))⟩,
 ⟨(some 146), (some (145, true)), .op (.move (.tmp 4))⟩,
 ⟨(some 147), (some (145, true)), .op (.bin .eql (.tmp 146) (.const (.int .i64 1)))⟩,
 ⟨(some 148), none, .op (.pick (.tmp 145) (.tmp 147) (.const (.bool false)))⟩,
 ⟨(some 149), none, .op (.move (.tmp 148))⟩,
 ⟨(some 150), (some (149, true)), .op (.move (.tmp 5))⟩,
 ⟨(some 151), none, .op (.pick (.tmp 149) (.tmp 150) (.const (.bool false)))⟩,
 ⟨(some 2), none, .op (.move (.tmp 151))⟩])
 .ret) (.seq (.region [⟨(some 153), none, .op (.bin .eql (.tmp 62) (.const (.int .u8 8)))⟩,
 ⟨(some 152), none, .op (.move (.tmp 153))⟩])
 (.cond (.tmp 152) (.seq (.region [⟨(some 154), none, .op (.fieldA 1 (.tmp 1))⟩,
 ⟨(some 155), none, .op (.load 1 false (.tmp 154))⟩,
 ⟨(some 156), none, .op (.bin .eql (.tmp 155) (.const (.string ⟨#[]⟩)))⟩,
 ⟨(some 157), none, .op (.move (.tmp 156))⟩,
 ⟨(some 158), (some (157, true)), .op (.move (.tmp 4))⟩,
 ⟨(some 159), (some (157, true)), .op (.bin .leq (.tmp 158) (.const (.int .i64 1)))⟩,
 ⟨(some 160), none, .op (.pick (.tmp 157) (.tmp 159) (.const (.bool false)))⟩,
 ⟨(some 161), none, .op (.move (.tmp 160))⟩,
 ⟨(some 162), (some (161, true)), .op (.move (.tmp 5))⟩,
 ⟨(some 163), none, .op (.pick (.tmp 161) (.tmp 162) (.const (.bool false)))⟩,
 ⟨(some 2), none, .op (.move (.tmp 163))⟩])
 .ret) (.seq (.region [⟨(some 165), none, .op (.bin .eql (.tmp 62) (.const (.int .u8 9)))⟩,
 ⟨(some 164), none, .op (.move (.tmp 165))⟩])
 (.cond (.tmp 164) (.seq (.region [⟨(some 166), none, .op (.fieldA 1 (.tmp 1))⟩,
 ⟨(some 167), none, .op (.load 1 false (.tmp 166))⟩,
 ⟨(some 168), none, .op (.bin .eql (.tmp 167) (.const (.string ⟨#[]⟩)))⟩,
 ⟨(some 169), none, .op (.move (.tmp 168))⟩,
 ⟨(some 170), (some (169, false)), .op (.fieldA 1 (.tmp 1))⟩,
 ⟨(some 171), (some (169, false)), .op (.load 1 false (.tmp 170))⟩,
 ⟨(some 172), (some (169, false)), .call (.func 45) [(.tmp 171)]⟩,
 ⟨(some 173), none, .op (.pick (.tmp 169) (.const (.bool true)) (.tmp 172))⟩,
 ⟨(some 174), none, .op (.move (.tmp 173))⟩,
 ⟨(some 175), (some (174, true)), .op (.fieldA 2 (.tmp 1))⟩,
 ⟨(some 176), (some (174, true)), .op (.load 1 false (.tmp 175))⟩,
 ⟨(some 177), (some (174, true)), .call (.func 45) [(.tmp 176)]⟩,
 ⟨(some 178), none, .op (.pick (.tmp 174) (.tmp 177) (.const (.bool false)))⟩,
 ⟨(some 179), none, .op (.move (.tmp 178))⟩,
 ⟨(some 180), (some (179, true)), .op (.move (.tmp 5))⟩,
 ⟨(some 181), none, .op (.pick (.tmp 179) (.tmp 180) (.const (.bool false)))⟩,
 ⟨(some 2), none, .op (.move (.tmp 181))⟩])
 .ret) .skip))))))))))))))))))))
 (.seq (.region [⟨(some 2), none, .op (.move (.const (.bool false)))⟩])
 .ret))))))))
def R82 : List RV := [.tmp 2]
theorem is82 : Is Tryd.prog (fun _ _ => false) 82 182 A82 R82 := ⟨Tryd.f82, Tryd.func82, rfl, by kernel_rfl, by kernel_rfl, Tryd.call82⟩
def A83l0 : ACode :=
 (.seq (.seq (.region [⟨(some 36), none, .op (.move (.tmp 8))⟩,
 ⟨(some 37), none, .op (.move (.tmp 2))⟩,
 ⟨(some 38), none, .op (.len (.tmp 37))⟩,
 ⟨(some 39), none, .op (.bin .lss (.tmp 36) (.tmp 38))⟩,
 ⟨(some 40), none, .op (.move (.tmp 39))⟩,
 ⟨(some 41), (some (40, true)), .op (.move (.tmp 8))⟩,
 ⟨(some 42), (some (40, true)), .op (.fieldA 1 (.tmp 7))⟩,
 ⟨(some 43), (some (40, true)), .op (.load 1 false (.tmp 42))⟩,
 ⟨(some 44), (some (40, true)), .op (.len (.tmp 43))⟩,
 ⟨(some 45), (some (40, true)), .op (.bin .lss (.tmp 41) (.tmp 44))⟩,
 ⟨(some 46), none, .op (.pick (.tmp 40) (.tmp 45) (.const (.bool false)))⟩])
 (.cond (.tmp 46) .skip (.exit 0)))
 (.seq (.block 1 (.dregion [⟨0, ⟨(some 49), none, .op (.move (.tmp 0))⟩, []⟩,
 ⟨1, ⟨(some 50), none, .op (.move (.tmp 2))⟩, []⟩,
 ⟨2, ⟨(some 51), none, .op (.move (.tmp 8))⟩, []⟩,
 ⟨3, ⟨(some 52), none, .op (.idxA 1 (.tmp 50) (.tmp 51))⟩, []⟩,
 ⟨4, ⟨(some 53), none, .op (.load 1 false (.tmp 52))⟩, []⟩,
 ⟨5, ⟨(some 54), none, .op (.fieldA 1 (.tmp 7))⟩, []⟩,
 ⟨6, ⟨(some 55), none, .op (.load 1 false (.tmp 54))⟩, []⟩,
 ⟨7, ⟨(some 56), none, .op (.move (.tmp 8))⟩, []⟩,
 ⟨8, ⟨(some 57), none, .op (.idxA 2 (.tmp 55) (.tmp 56))⟩, []⟩,
 ⟨9, ⟨(some 58), none, .op (.fieldA 1 (.tmp 57))⟩, []⟩,
 ⟨10, ⟨(some 59), none, .op (.load 1 false (.tmp 58))⟩, []⟩,
 ⟨11, ⟨(some 60), none, .op (.bin .neq (.tmp 53) (.tmp 59))⟩, []⟩,
 ⟨12, ⟨(some 61), none, .call (.func 47) [(.tmp 49), (.tmp 60), (.const (.int .i64 14))]⟩, []⟩]))
 (.region [⟨(some 47), none, .op (.move (.tmp 8))⟩,
 ⟨(some 48), none, .op (.bin .add (.tmp 47) (.const (.int .i64 1)))⟩,
 ⟨(some 8), none, .op (.move (.tmp 48))⟩])))
def A83 : ACode :=
 (.seq (.region [⟨(some 4), none, .op (.box (.tmp 1))⟩])
 (.seq (.dregion [⟨0, ⟨(some 9), none, .op (.move (.tmp 0))⟩, []⟩,
 ⟨1, ⟨(some 10), none, .op (.nilck (.tmp 9))⟩, []⟩,
 ⟨2, ⟨(some 11), none, .op (.fieldA 0 (.tmp 10))⟩, []⟩,
 ⟨3, ⟨(some 12), none, .op (.load 2 true (.tmp 11))⟩, []⟩,
 ⟨4, ⟨(some 13), none, .op (.fieldA 2 (.tmp 4))⟩, []⟩,
 ⟨5, ⟨(some 14), none, .op (.load 1 false (.tmp 13))⟩, []⟩,
 ⟨6, ⟨(some 15), none, .call (.func 90) [(.tmp 12), (.tmp 14)]⟩, []⟩,
 ⟨7, ⟨(some 6), none, .op (.move (.tmp 15))⟩, []⟩])
 (.seq (.seq (.region [⟨(some 16), none, .op (.move (.tmp 6))⟩,
 ⟨(some 17), none, .op (.bin .lss (.tmp 16) (.const (.int .i64 0)))⟩])
 (.cond (.tmp 17) (.seq (.region [⟨(some 18), none, .op (.move (.tmp 0))⟩,
 ⟨(some 19), none, .call (.func 47) [(.tmp 18), (.const (.bool true)), (.const (.int .i64 16))]⟩])
 .ret) .skip))
 (.seq (.region [⟨(some 20), none, .op (.move (.tmp 0))⟩,
 ⟨(some 21), none, .op (.nilck (.tmp 20))⟩,
 ⟨(some 22), none, .op (.fieldA 0 (.tmp 21))⟩,
 ⟨(some 23), none, .op (.fieldA 1 (.tmp 22))⟩,
 ⟨(some 24), none, .op (.load 1 false (.tmp 23))⟩,
 ⟨(some 25), none, .op (.move (.tmp 6))⟩,
 ⟨(some 26), none, .op (.idxA 4 (.tmp 24) (.tmp 25))⟩,
 ⟨(some 27), none, .op (.load 4 true (.tmp 26))⟩,
 ⟨(some 7), none, .op (.alloc [(.str []), .nilS, (.int .i64 0), .nilS])⟩,
 ⟨none, none, .op (.store 4 (.tmp 7) (.tmp 27))⟩])
 (.seq (.region [⟨(some 28), none, .op (.move (.tmp 0))⟩,
 ⟨(some 29), none, .op (.move (.tmp 2))⟩,
 ⟨(some 30), none, .op (.len (.tmp 29))⟩,
 ⟨(some 31), none, .op (.fieldA 1 (.tmp 7))⟩,
 ⟨(some 32), none, .op (.load 1 false (.tmp 31))⟩,
 ⟨(some 33), none, .op (.len (.tmp 32))⟩,
 ⟨(some 34), none, .op (.bin .neq (.tmp 30) (.tmp 33))⟩,
 ⟨(some 35), none, .call (.func 47) [(.tmp 28), (.tmp 34), (.const (.int .i64 14))]⟩])
 (.seq (.seq (.region [⟨(some 8), none, .op (.move (.const (.int .i64 0)))⟩])
 (.block 0 (.loop A83l0)))
 (.seq (.region [⟨(some 62), none, .op (.fieldA 1 (.tmp 4))⟩,
 ⟨(some 63), none, .op (.load 1 false (.tmp 62))⟩,
 ⟨(some 64), none, .op (.bin .neq (.tmp 63) (.const (.string ⟨#[]⟩)))⟩])
 (.cond (.tmp 64) (.seq (.region [⟨(some 65), none, .op (.move (.tmp 0))⟩,
 ⟨(some 66), none, .op (.move (.tmp 0))⟩,
 ⟨(some 67), none, .op (.fieldA 1 (.tmp 4))⟩,
 ⟨(some 68), none, .op (.load 1 false (.tmp 67))⟩,
 ⟨(some 69), none, .call (.func 48) [(.tmp 66), (.tmp 68)]⟩,
 ⟨(some 70), none, .op (.bin .eql (.tmp 69) (.const (.int .i64 0)))⟩,
 ⟨(some 71), none, .call (.func 47) [(.tmp 65), (.tmp 70), (.const (.int .i64 16))]⟩])
 (.dregion [⟨0, ⟨(some 72), none, .op (.move (.tmp 0))⟩, []⟩,
 ⟨1, ⟨(some 73), none, .op (.move (.tmp 0))⟩, []⟩,
 ⟨2, ⟨(some 74), none, .op (.fieldA 1 (.tmp 4))⟩, []⟩,
 ⟨3, ⟨(some 75), none, .op (.load 1 false (.tmp 74))⟩, []⟩,
 ⟨5, ⟨(some 77), none, .op (.fieldA 2 (.tmp 7))⟩, []⟩,
 ⟨6, ⟨(some 78), none, .op (.load 1 false (.tmp 77))⟩, []⟩,
 ⟨4, ⟨(some 76), none, .call (.func 48) [(.tmp 73), (.tmp 75)]⟩, [0, 5, 6]⟩,
 ⟨7, ⟨(some 79), none, .op (.bin .neq (.tmp 76) (.tmp 78))⟩, []⟩,
 ⟨8, ⟨(some 80), none, .call (.func 47) [(.tmp 72), (.tmp 79), (.const (.int .i64 14))]⟩, []⟩])) .skip))))))))
def R83 : List RV := []
theorem is83 : Is Tryd.prog (fun _ _ => false) 83 81 A83 R83 := ⟨Tryd.f83, Tryd.func83, rfl, by kernel_rfl, by kernel_rfl, Tryd.call83⟩
def A84l0 : ACode :=
 (.seq (.region [⟨(some 9), none, .op (.bin .lss (.tmp 8) (.tmp 7))⟩])
 (.seq (.cond (.tmp 9) .skip (.exit 0))
 (.seq (.block 1 (.seq (.region [⟨(some 10), none, .op (.move (.tmp 8))⟩,
 ⟨(some 5), none, .op (.move (.tmp 10))⟩])
 (.seq (.region [⟨(some 11), none, .op (.move (.tmp 1))⟩,
 ⟨(some 12), none, .op (.move (.tmp 0))⟩,
 ⟨(some 13), none, .op (.move (.tmp 5))⟩,
 ⟨(some 14), none, .op (.idxA 1 (.tmp 12) (.tmp 13))⟩,
 ⟨(some 15), none, .op (.load 1 false (.tmp 14))⟩,
 ⟨(some 16), none, .op (.bin .eql (.tmp 11) (.tmp 15))⟩])
 (.cond (.tmp 16) (.seq (.region [⟨(some 17), none, .op (.move (.tmp 5))⟩,
 ⟨(some 4), none, .op (.move (.tmp 17))⟩])
 .ret) .skip))))
 (.region [⟨(some 18), none, .op (.bin .add (.tmp 8) (.const (.int .i64 1)))⟩,
 ⟨(some 8), none, .op (.move (.tmp 18))⟩]))))
def A84 : ACode :=
 (.seq (.region [⟨(some 4), none, .op (.move (.const (.int .i64 0)))⟩])
 (.seq (.seq (.region [⟨(some 6), none, .op (.move (.tmp 0))⟩,
 ⟨(some 7), none, .op (.len (.tmp 6))⟩,
 ⟨(some 8), none, .op (.move (.const (.int .i64 0)))⟩])
 (.block 0 (.loop A84l0)))
 (.seq (.region [⟨(some 4), none, .op (.move (.const (.int .i64 (-1))))⟩])
 .ret)))
def R84 : List RV := [.tmp 4]
theorem is84 : Is Tryd.prog (fun _ _ => false) 84 19 A84 R84 := ⟨Tryd.f84, Tryd.func84, rfl, by kernel_rfl, by kernel_rfl, Tryd.call84⟩
def A85l0 : ACode :=
 (.seq (.region [⟨(some 9), none, .op (.bin .lss (.tmp 8) (.tmp 7))⟩])
 (.seq (.cond (.tmp 9) .skip (.exit 0))
 (.seq (.block 1 (.seq (.region [⟨(some 10), none, .op (.move (.tmp 8))⟩,
 ⟨(some 5), none, .op (.move (.tmp 10))⟩])
 (.seq (.region [⟨(some 11), none, .op (.move (.tmp 1))⟩,
 ⟨(some 12), none, .op (.move (.tmp 0))⟩,
 ⟨(some 13), none, .op (.move (.tmp 5))⟩,
 ⟨(some 14), none, .op (.idxA 6 (.tmp 12) (.tmp 13))⟩,
 ⟨(some 15), none, .op (.load 6 true (.tmp 14))⟩,
 ⟨(some 16), none, .call (.tmp 11) [(.tmp 15)]⟩])
 (.cond (.tmp 16) (.seq (.region [⟨(some 17), none, .op (.move (.tmp 5))⟩,
 ⟨(some 4), none, .op (.move (.tmp 17))⟩])
 .ret) .skip))))
 (.region [⟨(some 18), none, .op (.bin .add (.tmp 8) (.const (.int .i64 1)))⟩,
 ⟨(some 8), none, .op (.move (.tmp 18))⟩]))))
def A85 : ACode :=
 (.seq (.region [⟨(some 4), none, .op (.move (.const (.int .i64 0)))⟩])
 (.seq (.seq (.region [⟨(some 6), none, .op (.move (.tmp 0))⟩,
 ⟨(some 7), none, .op (.len (.tmp 6))⟩,
 ⟨(some 8), none, .op (.move (.const (.int .i64 0)))⟩])
 (.block 0 (.loop A85l0)))
 (.seq (.region [⟨(some 4), none, .op (.move (.const (.int .i64 (-1))))⟩])
 .ret)))
def R85 : List RV := [.tmp 4]
theorem is85 : Is Tryd.prog (fun _ _ => false) 85 19 A85 R85 := ⟨Tryd.f85, Tryd.func85, rfl, by kernel_rfl, by kernel_rfl, Tryd.call85⟩
def A86l0 : ACode :=
 (.seq (.region [⟨(some 9), none, .op (.bin .lss (.tmp 8) (.tmp 7))⟩])
 (.seq (.cond (.tmp 9) .skip (.exit 0))
 (.seq (.block 1 (.seq (.region [⟨(some 10), none, .op (.move (.tmp 8))⟩,
 ⟨(some 5), none, .op (.move (.tmp 10))⟩])
 (.seq (.region [⟨(some 11), none, .op (.move (.tmp 1))⟩,
 ⟨(some 12), none, .op (.move (.tmp 0))⟩,
 ⟨(some 13), none, .op (.move (.tmp 5))⟩,
 ⟨(some 14), none, .op (.idxA 2 (.tmp 12) (.tmp 13))⟩,
 ⟨(some 15), none, .op (.load 2 true (.tmp 14))⟩,
 ⟨(some 16), none, .call (.tmp 11) [(.tmp 15)]⟩])
 (.cond (.tmp 16) (.seq (.region [⟨(some 17), none, .op (.move (.tmp 5))⟩,
 ⟨(some 4), none, .op (.move (.tmp 17))⟩])
 .ret) .skip))))
 (.region [⟨(some 18), none, .op (.bin .add (.tmp 8) (.const (.int .i64 1)))⟩,
 ⟨(some 8), none, .op (.move (.tmp 18))⟩]))))
def A86 : ACode :=
 (.seq (.region [⟨(some 4), none, .op (.move (.const (.int .i64 0)))⟩])
 (.seq (.seq (.region [⟨(some 6), none, .op (.move (.tmp 0))⟩,
 ⟨(some 7), none, .op (.len (.tmp 6))⟩,
 ⟨(some 8), none, .op (.move (.const (.int .i64 0)))⟩])
 (.block 0 (.loop A86l0)))
 (.seq (.region [⟨(some 4), none, .op (.move (.const (.int .i64 (-1))))⟩])
 .ret)))
def R86 : List RV := [.tmp 4]
theorem is86 : Is Tryd.prog (fun _ _ => false) 86 19 A86 R86 := ⟨Tryd.f86, Tryd.func86, rfl, by kernel_rfl, by kernel_rfl, Tryd.call86⟩
def A87l0 : ACode :=
 (.seq (.region [⟨(some 9), none, .op (.bin .lss (.tmp 8) (.tmp 7))⟩])
 (.seq (.cond (.tmp 9) .skip (.exit 0))
 (.seq (.block 1 (.seq (.region [⟨(some 10), none, .op (.move (.tmp 8))⟩,
 ⟨(some 5), none, .op (.move (.tmp 10))⟩])
 (.seq (.region [⟨(some 11), none, .op (.move (.tmp 1))⟩,
 ⟨(some 12), none, .op (.move (.tmp 0))⟩,
 ⟨(some 13), none, .op (.move (.tmp 5))⟩,
 ⟨(some 14), none, .op (.idxA 7 (.tmp 12) (.tmp 13))⟩,
 ⟨(some 15), none, .op (.load 7 true (.tmp 14))⟩,
 ⟨(some 16), none, .call (.tmp 11) [(.tmp 15)]⟩])
 (.cond (.tmp 16) (.seq (.region [⟨(some 17), none, .op (.move (.tmp 5))⟩,
 ⟨(some 4), none, .op (.move (.tmp 17))⟩])
 .ret) .skip))))
 (.region [⟨(some 18), none, .op (.bin .add (.tmp 8) (.const (.int .i64 1)))⟩,
 ⟨(some 8), none, .op (.move (.tmp 18))⟩]))))
def A87 : ACode :=
 (.seq (.region [⟨(some 4), none, .op (.move (.const (.int .i64 0)))⟩])
 (.seq (.seq (.region [⟨(some 6), none, .op (.move (.tmp 0))⟩,
 ⟨(some 7), none, .op (.len (.tmp 6))⟩,
 ⟨(some 8), none, .op (.move (.const (.int .i64 0)))⟩])
 (.block 0 (.loop A87l0)))
 (.seq (.region [⟨(some 4), none, .op (.move (.const (.int .i64 (-1))))⟩])
 .ret)))
def R87 : List RV := [.tmp 4]
theorem is87 : Is Tryd.prog (fun _ _ => false) 87 19 A87 R87 := ⟨Tryd.f87, Tryd.func87, rfl, by kernel_rfl, by kernel_rfl, Tryd.call87⟩
def A88 : ACode :=
 (.seq (.region [⟨(some 2), none, .op (.box (.tmp 0))⟩,
 ⟨(some 3), none, .op (.box (.tmp 1))⟩,
 ⟨(some 4), none, .op (.move (.const (.int .i64 0)))⟩])
 (.seq (.region [⟨(some 5), none, .op (.fieldA 1 (.tmp 2))⟩,
 ⟨(some 6), none, .op (.load 1 false (.tmp 5))⟩,
 ⟨(some 7), none, .op (.mkfn (.func 91) [(.tmp 3)])⟩,
 ⟨(some 8), none, .call (.func 75) [(.tmp 6), (.tmp 7)]⟩,
 ⟨(some 4), none, .op (.move (.tmp 8))⟩])
 .ret))
def R88 : List RV := [.tmp 4]
theorem is88 : Is Tryd.prog (fun _ _ => false) 88 9 A88 R88 := ⟨Tryd.f88, Tryd.func88, rfl, by kernel_rfl, by kernel_rfl, Tryd.call88⟩
def A89l0 : ACode :=
 (.seq (.region [⟨(some 14), none, .op (.bin .lss (.tmp 13) (.tmp 12))⟩])
 (.seq (.cond (.tmp 14) .skip (.exit 0))
 (.seq (.block 1 (.seq (.region [⟨(some 15), none, .op (.move (.tmp 13))⟩,
 ⟨(some 5), none, .op (.move (.tmp 15))⟩])
 (.seq (.dregion [⟨0, ⟨(some 16), none, .op (.move (.tmp 0))⟩, []⟩,
 ⟨1, ⟨(some 17), none, .op (.move (.tmp 5))⟩, []⟩,
 ⟨2, ⟨(some 18), none, .op (.idxA 1 (.tmp 16) (.tmp 17))⟩, []⟩,
 ⟨3, ⟨(some 19), none, .op (.load 1 false (.tmp 18))⟩, []⟩,
 ⟨4, ⟨(some 20), none, .op (.move (.tmp 1))⟩, []⟩,
 ⟨5, ⟨(some 21), none, .op (.move (.tmp 5))⟩, []⟩,
 ⟨6, ⟨(some 22), none, .op (.idxA 1 (.tmp 20) (.tmp 21))⟩, []⟩,
 ⟨7, ⟨(some 23), none, .op (.load 1 false (.tmp 22))⟩, []⟩,
 ⟨8, ⟨(some 24), none, .op (.bin .neq (.tmp 19) (.tmp 23))⟩, []⟩])
 (.cond (.tmp 24) (.seq (.region [⟨(some 4), none, .op (.move (.const (.bool false)))⟩])
 .ret) .skip))))
 (.region [⟨(some 25), none, .op (.bin .add (.tmp 13) (.const (.int .i64 1)))⟩,
 ⟨(some 13), none, .op (.move (.tmp 25))⟩]))))
def A89 : ACode :=
 (.seq (.region [⟨(some 4), none, .op (.move (.const (.bool false)))⟩])
 (.seq (.seq (.region [⟨(some 6), none, .op (.move (.tmp 0))⟩,
 ⟨(some 7), none, .op (.len (.tmp 6))⟩,
 ⟨(some 8), none, .op (.move (.tmp 1))⟩,
 ⟨(some 9), none, .op (.len (.tmp 8))⟩,
 ⟨(some 10), none, .op (.bin .neq (.tmp 7) (.tmp 9))⟩])
 (.cond (.tmp 10) (.seq (.region [⟨(some 4), none, .op (.move (.const (.bool false)))⟩])
 .ret) .skip))
 (.seq (.seq (.region [⟨(some 11), none, .op (.move (.tmp 0))⟩,
 ⟨(some 12), none, .op (.len (.tmp 11))⟩,
 ⟨(some 13), none, .op (.move (.const (.int .i64 0)))⟩])
 (.block 0 (.loop A89l0)))
 (.seq (.region [⟨(some 4), none, .op (.move (.const (.bool true)))⟩])
 .ret))))
def R89 : List RV := [.tmp 4]
theorem is89 : Is Tryd.prog (fun _ _ => false) 89 26 A89 R89 := ⟨Tryd.f89, Tryd.func89, rfl, by kernel_rfl, by kernel_rfl, Tryd.call89⟩
def A90l0 : ACode :=
 (.seq (.seq (.region [⟨(some 6), none, .op (.move (.tmp 5))⟩,
 ⟨(some 7), none, .op (.fieldA 1 (.tmp 2))⟩,
 ⟨(some 8), none, .op (.load 1 false (.tmp 7))⟩,
 ⟨(some 9), none, .op (.len (.tmp 8))⟩,
 ⟨(some 10), none, .op (.bin .lss (.tmp 6) (.tmp 9))⟩])
 (.cond (.tmp 10) .skip (.exit 0)))
 (.seq (.block 1 (.seq (.region [⟨(some 13), none, .op (.fieldA 1 (.tmp 2))⟩,
 ⟨(some 14), none, .op (.load 1 false (.tmp 13))⟩,
 ⟨(some 15), none, .op (.move (.tmp 5))⟩,
 ⟨(some 16), none, .op (.idxA 4 (.tmp 14) (.tmp 15))⟩,
 ⟨(some 17), none, .op (.fieldA 0 (.tmp 16))⟩,
 ⟨(some 18), none, .op (.load 1 false (.tmp 17))⟩,
 ⟨(some 19), none, .op (.move (.tmp 1))⟩,
 ⟨(some 20), none, .op (.bin .eql (.tmp 18) (.tmp 19))⟩])
 (.cond (.tmp 20) (.seq (.region [⟨(some 21), none, .op (.move (.tmp 5))⟩,
 ⟨(some 4), none, .op (.move (.tmp 21))⟩])
 .ret) .skip)))
 (.region [⟨(some 11), none, .op (.move (.tmp 5))⟩,
 ⟨(some 12), none, .op (.bin .add (.tmp 11) (.const (.int .i64 1)))⟩,
 ⟨(some 5), none, .op (.move (.tmp 12))⟩])))
def A90 : ACode :=
 (.seq (.region [⟨(some 2), none, .op (.box (.tmp 0))⟩,
 ⟨(some 4), none, .op (.move (.const (.int .i64 0)))⟩])
 (.seq (.seq (.region [⟨(some 5), none, .op (.move (.const (.int .i64 0)))⟩])
 (.block 0 (.loop A90l0)))
 (.seq (.region [⟨(some 4), none, .op (.move (.const (.int .i64 (-1))))⟩])
 .ret)))
def R90 : List RV := [.tmp 4]
theorem is90 : Is Tryd.prog (fun _ _ => false) 90 22 A90 R90 := ⟨Tryd.f90, Tryd.func90, rfl, by kernel_rfl, by kernel_rfl, Tryd.call90⟩
def A91 : ACode :=
 (.seq (.region [⟨(some 2), none, .op (.box (.tmp 0))⟩,
 ⟨(some 3), none, .op (.move (.const (.bool false)))⟩])
 (.seq (.region [⟨(some 4), none, .op (.fieldA 0 (.tmp 2))⟩,
 ⟨(some 5), none, .op (.load 1 false (.tmp 4))⟩,
 ⟨(some 6), none, .op (.load 1 false (.tmp 1))⟩,
 ⟨(some 7), none, .op (.bin .eql (.tmp 5) (.tmp 6))⟩,
 ⟨(some 3), none, .op (.move (.tmp 7))⟩])
 .ret))
def R91 : List RV := [.tmp 3]
theorem is91 : Is Tryd.prog (fun _ _ => false) 91 8 A91 R91 := ⟨Tryd.f91, Tryd.func91, rfl, by kernel_rfl, by kernel_rfl, Tryd.call91⟩
end Go.Proofs.YtkfldbimfbacmaaDoor
/- Leaves: widths, masks, signs, lists of words. -/
namespace Go.Proofs.YtkfldbimfbacmaaDoor
open Go Go.Ab Go.Proofs
set_option linter.unusedVariables false
set_option linter.unusedSimpArgs false
set_option maxRecDepth 20000

theorem mixed : Tryd.prog.follows .mixedOrders = true := by kernel_rfl
theorem ced_cases (p : Prop) [Decidable p] : (¬ p ∧ p = False) ∨ (p ∧ p = True) := by
  by_cases h : p
  · exact .inr ⟨h, eq_true h⟩
  · exact .inl ⟨h, eq_false h⟩
theorem btf (b : Bool) : b = true ∨ b = false := by cases b <;> simp
theorem dec_cases (p : Prop) [Decidable p] : (p ∧ p = True) ∨ (¬ p ∧ p = False) := by
  by_cases h : p
  · exact .inl ⟨h, eq_true h⟩
  · exact .inr ⟨h, eq_false h⟩
def wide (w : Int) : Bool := decide (1 ≤ w) && decide (w ≤ 64)
theorem w64' (w : Int) : Pure Tryd.prog 64 [.int .i64 w] (.bool (wide w)) := by
  refine Pure.of fun nx => AC.go mixed is64 (by simp) ?_
  by_cases c1 : (1 : Int) ≤ w
  · simp -implicitDefEqProofs only [RR, RE, RP, RG, takeV, Nat.reduceEqDiff, ↓reduceIte, reduceCtorEq, Nat.reduceAdd, Nat.reduceLeDiff, Nat.reduceLT, Nat.reduceBEq, A64, wide, c1, R64, Bool.true_and]
  · simp -implicitDefEqProofs only [RR, RE, RP, RG, takeV, Nat.reduceEqDiff, ↓reduceIte, reduceCtorEq, Nat.reduceAdd, Nat.reduceLeDiff, Nat.reduceLT, Nat.reduceBEq, A64, wide, c1, R64, Bool.false_and]
def mask (w : Int) : Int := if wide w = true then (18446744073709551615 : Int).fdiv (2 ^ (64 - w).toNat) else 0
theorem w65 (w : Int) : Pure Tryd.prog 65 [.int .i64 w] (.int .u64 (mask w)) := by
  refine Pure.of fun nx => AC.go mixed is65 (by simp) ?_
  simp -implicitDefEqProofs only [RR, RE, RP, RG, takeV, Nat.reduceEqDiff, ↓reduceIte, reduceCtorEq, Nat.reduceAdd, Nat.reduceLeDiff, Nat.reduceLT, Nat.reduceBEq, A65]
  refine (w64' w).use fun n1 hn1 => ?_
  by_cases c1 : wide w = true
  · have c2 := c1
    simp only [wide, Bool.and_eq_true, decide_eq_true_eq] at c2
    have e1 : IntKind.i64.wrap (64 - w) = 64 - w := w64 (by omega) (by omega)
    have e2 : min (64 - w).toNat IntKind.u64.bits = (64 - w).toNat := by simp only [IntKind.bits]; omega
    simp -implicitDefEqProofs only [RR, RE, RP, RG, takeV, Nat.reduceEqDiff, ↓reduceIte, reduceCtorEq, Nat.reduceAdd, Nat.reduceLeDiff, Nat.reduceLT, Nat.reduceBEq, c1, unA, e1, b_shr _ _ _ _ (show (0 : Int) ≤ 64 - w by omega), e2, mask, R65]
  · simp only [Bool.not_eq_true] at c1
    simp -implicitDefEqProofs only [RR, RE, RP, RG, takeV, Nat.reduceEqDiff, ↓reduceIte, reduceCtorEq, Nat.reduceAdd, Nat.reduceLeDiff, Nat.reduceLT, Nat.reduceBEq, c1, unA, mask, R65, Bool.false_eq_true]
def okB (w b : Int) : Bool := wide w && decide (b ≤ mask w)
theorem w36 (w x : Int) : Pure Tryd.prog 36 [.int .i64 w, .int .u64 x] (.bool (okB w x)) := by
  refine Pure.of fun nx => AC.go mixed is36 (by simp) ?_
  simp -implicitDefEqProofs only [RR, RE, RP, RG, takeV, Nat.reduceEqDiff, ↓reduceIte, reduceCtorEq, Nat.reduceAdd, Nat.reduceLeDiff, Nat.reduceLT, Nat.reduceBEq, A36]
  refine (w64' w).use fun n1 hn1 => ?_
  by_cases c1 : wide w = true
  · simp -implicitDefEqProofs only [RR, RE, RP, RG, takeV, Nat.reduceEqDiff, ↓reduceIte, reduceCtorEq, Nat.reduceAdd, Nat.reduceLeDiff, Nat.reduceLT, Nat.reduceBEq, c1]
    refine (w65 w).use fun n2 hn2 => ?_
    simp -implicitDefEqProofs only [RR, RE, RP, RG, takeV, Nat.reduceEqDiff, ↓reduceIte, reduceCtorEq, Nat.reduceAdd, Nat.reduceLeDiff, Nat.reduceLT, Nat.reduceBEq, c1, R36, okB, Bool.true_and]
  · simp only [Bool.not_eq_true] at c1
    simp -implicitDefEqProofs only [RR, RE, RP, RG, takeV, Nat.reduceEqDiff, ↓reduceIte, reduceCtorEq, Nat.reduceAdd, Nat.reduceLeDiff, Nat.reduceLT, Nat.reduceBEq, c1, R36, okB, Bool.false_and]
theorem w44 (w : Int) : Pure Tryd.prog 44 [.int .i64 w] (.bool (sized w)) := by
  refine Pure.of fun nx => AC.go mixed is44 (by simp) ?_
  rcases dec_cases (w = 1) with ⟨c1, d1⟩ | ⟨c1, d1⟩
  · simp -implicitDefEqProofs only [RR, RE, RP, RG, takeV, Nat.reduceEqDiff, ↓reduceIte, reduceCtorEq, Nat.reduceAdd, Nat.reduceLeDiff, Nat.reduceLT, Nat.reduceBEq, A44, sized, d1, R44]
  rcases dec_cases (w = 8) with ⟨c2, d2⟩ | ⟨c2, d2⟩
  · simp -implicitDefEqProofs only [RR, RE, RP, RG, takeV, Nat.reduceEqDiff, ↓reduceIte, reduceCtorEq, Nat.reduceAdd, Nat.reduceLeDiff, Nat.reduceLT, Nat.reduceBEq, A44, sized, d1, d2, R44]
  rcases dec_cases (w = 16) with ⟨c3, d3⟩ | ⟨c3, d3⟩
  · simp -implicitDefEqProofs only [RR, RE, RP, RG, takeV, Nat.reduceEqDiff, ↓reduceIte, reduceCtorEq, Nat.reduceAdd, Nat.reduceLeDiff, Nat.reduceLT, Nat.reduceBEq, A44, sized, d1, d2, d3, R44]
  · simp -implicitDefEqProofs only [RR, RE, RP, RG, takeV, Nat.reduceEqDiff, ↓reduceIte, reduceCtorEq, Nat.reduceAdd, Nat.reduceLeDiff, Nat.reduceLT, Nat.reduceBEq, A44, sized, d1, d2, d3, R44]
def wordN (w : Int) : Nm := if w = 1 then [98, 105, 116] else if w = 8 then [98, 121, 116, 101] else if w = 16 then [104, 97, 108, 102] else if w = 32 then [119, 111, 114, 100] else []
def sizeM : List (AV × AV) := [(.str [98, 105, 116], .int .i64 1), (.str [98, 121, 116, 101], .int .i64 8), (.str [104, 97, 108, 102], .int .i64 16), (.str [119, 111, 114, 100], .int .i64 32)]
theorem w41 (nx : Nat) : AC Tryd.prog 41 [] [] nx fun y h' n' => ∃ b, y = .ret (.mp b) ∧ b < n' ∧ hget h' b = some (.map sizeM [0, 1, 2, 3] 4) := by
  refine AC.go mixed is41 (by simp) ?_
  have e1 : ∀ h : Heap, setA ((nx, .map [] [] 0) :: h) .str (.mp nx) (.str [98, 105, 116]) (.int .i64 1) = some ((nx, .map (sizeM.take 1) [0] 1) :: (nx, .map [] [] 0) :: h) := fun h => by simp [setA, hget, hset, isKey, findA, sizeM]
  have e2 : ∀ h : Heap, setA ((nx, .map (sizeM.take 1) [0] 1) :: h) .str (.mp nx) (.str [98, 121, 116, 101]) (.int .i64 8) = some ((nx, .map (sizeM.take 2) [0, 1] 2) :: (nx, .map (sizeM.take 1) [0] 1) :: h) := fun h => by simp [setA, hget, hset, isKey, findA, sizeM, eqC]
  have e3 : ∀ h : Heap, setA ((nx, .map (sizeM.take 2) [0, 1] 2) :: h) .str (.mp nx) (.str [104, 97, 108, 102]) (.int .i64 16) = some ((nx, .map (sizeM.take 3) [0, 1, 2] 3) :: (nx, .map (sizeM.take 2) [0, 1] 2) :: h) := fun h => by simp [setA, hget, hset, isKey, findA, sizeM, eqC]
  have e4 : ∀ h : Heap, setA ((nx, .map (sizeM.take 3) [0, 1, 2] 3) :: h) .str (.mp nx) (.str [119, 111, 114, 100]) (.int .i64 32) = some ((nx, .map sizeM [0, 1, 2, 3] 4) :: (nx, .map (sizeM.take 3) [0, 1, 2] 3) :: h) := fun h => by simp [setA, hget, hset, isKey, findA, sizeM, eqC]
  simp -implicitDefEqProofs only [RR, RE, RP, RG, takeV, Nat.reduceEqDiff, ↓reduceIte, reduceCtorEq, Nat.reduceAdd, Nat.reduceLeDiff, Nat.reduceLT, Nat.reduceBEq, A41, e1, e2, e3, e4, R41]
  exact ⟨nx, rfl, by omega, by simp [hget]⟩
theorem nodup_len : ∀ (n : Nat) (l : List Nat), l.Nodup → (∀ x ∈ l, x < n) → l.length ≤ n
  | 0, l, _, h => by
    cases l with
    | nil => simp
    | cons a l => have := h a (by simp); omega
  | n + 1, l, hn, h => by
    have ih := nodup_len n (l.erase n) (hn.erase n) fun x hx => by
      have h1 := (List.Nodup.mem_erase_iff hn).1 hx
      have := h x h1.2
      have := h1.1
      omega
    rw [List.length_erase] at ih
    split at ih <;> omega
theorem ofV_mark : ofV (.tuple #[]) = none := rfl
theorem size_at {i : Nat} {q x : AV} {s : Nat} (k1 : sizeM[i]? = some (q, x)) (k2 : [0, 1, 2, 3][i]? = some s) : s = i ∧ i < 4 ∧ ∃ nm m, q = .str nm ∧ x = .int .i64 m ∧ wordN m = nm ∧ nm ≠ [] ∧ sizeM[i]? = some (.str (wordN m), .int .i64 m) := by
  have h4 : i < 4 := (List.getElem?_eq_some_iff.1 k1).1
  match i, h4 with
  | 0, _ => simp [sizeM] at k1 k2; exact ⟨k2.symm, by omega, _, _, k1.1.symm, k1.2.symm, rfl, by simp, rfl⟩
  | 1, _ => simp [sizeM] at k1 k2; exact ⟨k2.symm, by omega, _, _, k1.1.symm, k1.2.symm, rfl, by simp, rfl⟩
  | 2, _ => simp [sizeM] at k1 k2; exact ⟨k2.symm, by omega, _, _, k1.1.symm, k1.2.symm, rfl, by simp, rfl⟩
  | 3, _ => simp [sizeM] at k1 k2; exact ⟨k2.symm, by omega, _, _, k1.1.symm, k1.2.symm, rfl, by simp, rfl⟩
theorem ent_size {h : Heap} {n b i s : Nat} {seen : List Nat} {q x : AV} (hm : hget h b = some (.map sizeM [0, 1, 2, 3] 4)) (hn : n ≠ b) (k1 : sizeM[i]? = some (q, x)) (k2 : [0, 1, 2, 3][i]? = some s) : entH ((n, .mit b 4 (seen ++ [s]) 4) :: h) (.op n 0) = some (.tup [q, x]) := by
  have h4 : i < 4 := (List.getElem?_eq_some_iff.1 k1).1
  have e1 : hget ((n, .mit b 4 (seen ++ [s]) 4) :: h) n = some (.mit b 4 (seen ++ [s]) 4) := by rw [hget_cons, if_pos rfl]
  have e2 : hget ((n, .mit b 4 (seen ++ [s]) 4) :: h) b = some (.map sizeM [0, 1, 2, 3] 4) := by rw [hget_cons, if_neg hn]; exact hm
  have e3 : (seen ++ [s]).getLast? = some s := by simp
  simp only [entH, e1, e2, e3, if_true]
  match i, h4 with
  | 0, _ => simp [sizeM] at k1 k2; subst k2; simp [entA, sizeM, k1]
  | 1, _ => simp [sizeM] at k1 k2; subst k2; simp [entA, sizeM, k1]
  | 2, _ => simp [sizeM] at k1 k2; subst k2; simp [entA, sizeM, k1]
  | 3, _ => simp [sizeM] at k1 k2; subst k2; simp [entA, sizeM, k1]
theorem w63 (w : Int) : Pure Tryd.prog 63 [.int .i64 w] (.str (wordN w)) := by
  refine Pure.of fun nx => AC.go mixed is63 (by simp) ?_
  simp -implicitDefEqProofs only [RR, RE, RP, RG, takeV, Nat.reduceEqDiff, ↓reduceIte, reduceCtorEq, Nat.reduceAdd, Nat.reduceLeDiff, Nat.reduceLT, Nat.reduceBEq, A63]
  refine (w41 nx).mono ?_
  rintro y h n ⟨b, rfl, hbn, hb⟩
  have er : rngA h n (.mp b) = some ((n, .mit b 4 [] 4) :: h) := by simp only [rngA, hb]
  simp -implicitDefEqProofs only [RR, RE, RP, RG, takeV, Nat.reduceEqDiff, ↓reduceIte, reduceCtorEq, Nat.reduceAdd, Nat.reduceLeDiff, Nat.reduceLT, Nat.reduceBEq, er]
  refine go_rounds (fun q st => ∃ seen : List Nat, q = 4 - seen.length ∧ seen.length ≤ 4 ∧ seen.Nodup ∧ (∀ s ∈ seen, s < 4) ∧ (∀ i q m, sizeM[i]? = some (q, .int .i64 m) → i ∈ seen → m ≠ w) ∧ eget st.env 0 = some (.int .i64 w) ∧ eget st.env 6 = some (.op n 0) ∧ hget st.heap n = some (.mit b 4 seen 4) ∧ hget st.heap b = some (.map sizeM [0, 1, 2, 3] 4) ∧ st.dm = []) (n := 4) mixed
    ⟨[], rfl, by simp, by simp, by simp, by simp, by simp [eget], by simp [eget], by simp [hget], by rw [hget_cons, if_neg (by omega)]; exact hb, rfl⟩ ?_
  rintro q ⟨env, heap, nx', dm⟩ ⟨seen, rfl, hlen, hnd, hlt, hne, g0, g6, g7, g8, hdm⟩
  simp only at g0 g6 g7 g8 hdm
  subst hdm
  simp -implicitDefEqProofs only [RR, RE, RP, RG, takeV, Nat.reduceEqDiff, ↓reduceIte, reduceCtorEq, Nat.reduceAdd, Nat.reduceLeDiff, Nat.reduceLT, Nat.reduceBEq, A63l0, g6, ofV_mark]
  refine ⟨rfl, b, 4, 4, 4, seen, [0, 1, 2, 3], sizeM, g7, g8, by decide, by omega, fun hall => ?_, fun i qq x s k1 k2 k3 => ?_⟩
  · have h1 := hne 0 _ 1 rfl (hall 0 (by simp))
    have h2 := hne 1 _ 8 rfl (hall 1 (by simp))
    have h3 := hne 2 _ 16 rfl (hall 2 (by simp))
    have h4 := hne 3 _ 32 rfl (hall 3 (by simp))
    have hw : wordN w = [] := by unfold wordN; rw [if_neg (Ne.symm h1), if_neg (Ne.symm h2), if_neg (Ne.symm h3), if_neg (Ne.symm h4)]
    simp -implicitDefEqProofs only [RR, RE, RP, RG, takeV, Nat.reduceEqDiff, ↓reduceIte, reduceCtorEq, Nat.reduceAdd, Nat.reduceLeDiff, Nat.reduceLT, Nat.reduceBEq, R63, hw]
  · have ee := ent_size (n := n) (b := b) (seen := seen) g8 (by omega) k1 k2
    obtain ⟨rfl, h4, nm, m, rfl, rfl, rfl, hnm, hat⟩ := size_at k1 k2
    rcases dec_cases (m = w) with ⟨c1, d1⟩ | ⟨c1, d1⟩
    · subst c1
      simp -implicitDefEqProofs only [RR, RE, RP, RG, takeV, Nat.reduceEqDiff, ↓reduceIte, reduceCtorEq, Nat.reduceAdd, Nat.reduceLeDiff, Nat.reduceLT, Nat.reduceBEq, g0, g6, ee, R63]
    · simp -implicitDefEqProofs only [RR, RE, RP, RG, takeV, Nat.reduceEqDiff, ↓reduceIte, reduceCtorEq, Nat.reduceAdd, Nat.reduceLeDiff, Nat.reduceLT, Nat.reduceBEq, g0, g6, ee, d1]
      have hnd2 : (seen ++ [s]).Nodup := by
        rw [List.nodup_append]
        exact ⟨hnd, by simp, fun a ha b hb e => by simp at hb; subst hb; subst e; exact k3 ha⟩
      have hlt2 : ∀ t ∈ seen ++ [s], t < 4 := fun t ht => by
        rcases List.mem_append.1 ht with h | h
        · exact hlt t h
        · simp at h; omega
      have hlen2 := nodup_len 4 _ hnd2 hlt2
      rw [List.length_append] at hlen2
      simp only [List.length_cons, List.length_nil] at hlen2
      have hne2 : ∀ (j : Nat) (q' : AV) (m' : Int), sizeM[j]? = some (q', .int .i64 m') → j ∈ seen ++ [s] → m' ≠ w := by
        intro j q' m' hj hjs
        rcases List.mem_append.1 hjs with h | h
        · exact hne j q' m' hj h
        · simp at h; subst h
          rw [hat] at hj
          simp only [Option.some.injEq, Prod.mk.injEq, AV.int.injEq, true_and] at hj
          rw [← hj.2]; exact c1
      refine ⟨4 - (seen ++ [s]).length, by rw [List.length_append]; simp only [List.length_cons, List.length_nil]; omega, seen ++ [s], ?_⟩
      repeat' apply And.intro
      all_goals first | assumption | rfl | (rw [List.length_append]; exact hlen2) | (simp [eget, *]; done) | (rw [if_neg (by omega)]; exact g8)
theorem word_sized (w : Int) : (wordN w ≠ []) ↔ sized w = true := by
  unfold wordN sized
  by_cases h1 : w = 1 <;> by_cases h2 : w = 8 <;> by_cases h3 : w = 16 <;> by_cases h4 : w = 32 <;> simp [h1, h2, h3, h4]
theorem w35 (w : Int) : Pure Tryd.prog 35 [.int .i64 w] (.bool (sized w)) := by
  refine Pure.of fun nx => AC.go mixed is35 (by simp) ?_
  simp -implicitDefEqProofs only [RR, RE, RP, RG, takeV, Nat.reduceEqDiff, ↓reduceIte, reduceCtorEq, Nat.reduceAdd, Nat.reduceLeDiff, Nat.reduceLT, Nat.reduceBEq, A35]
  refine (w63 w).use fun n1 hn1 => ?_
  have e1 : binA .neq (.str (wordN w)) (.str []) = some (.bool (sized w)) := by
    rw [b_str]
    simp only [strA]
    congr 2
    have := word_sized w
    cases h : sized w
    · rw [h] at this
      have h2 : wordN w = [] := Classical.byContradiction fun h3 => by have := this.1 h3; cases this
      rw [h2]; rfl
    · have h2 := this.2 h
      cases hw : wordN w with
      | nil => exact absurd hw h2
      | cons a l => rfl
  simp -implicitDefEqProofs only [RR, RE, RP, RG, takeV, Nat.reduceEqDiff, ↓reduceIte, reduceCtorEq, Nat.reduceAdd, Nat.reduceLeDiff, Nat.reduceLT, Nat.reduceBEq, e1, R35]
end Go.Proofs.YtkfldbimfbacmaaDoor
/- Names. -/
namespace Go.Proofs.YtkfldbimfbacmaaDoor
open Go Go.Ab Go.Proofs
set_option linter.unusedVariables false
set_option linter.unusedSimpArgs false
set_option maxRecDepth 20000

def okAt (i : Nat) (b : UInt8) : Prop := (97 ≤ b.toNat ∧ b.toNat ≤ 122) ∨ (65 ≤ b.toNat ∧ b.toNat ≤ 90) ∨ (i ≠ 0 ∧ (b.toNat = 95 ∨ (48 ≤ b.toNat ∧ b.toNat ≤ 57)))
def isName (s : List UInt8) : Prop := 1 ≤ s.length ∧ s.length ≤ 24 ∧ ∀ j b, s[j]? = some b → okAt j b
theorem w66 (s : List UInt8) (v : Bool) (hv : v = true ↔ isName s) (hs : s.length ≤ 100000) : Pure Tryd.prog 66 [.str s] (.bool v) := by
  refine Pure.of fun nx => AC.go mixed is66 (by simp) ?_
  by_cases l1 : (s.length : Int) < 1
  case pos =>
    obtain rfl : v = false := by
      cases v with
      | false => rfl
      | true => have := (hv.1 rfl).1; omega
    simp -implicitDefEqProofs only [RR, RE, RP, RG, takeV, Nat.reduceEqDiff, ↓reduceIte, reduceCtorEq, Nat.reduceAdd, Nat.reduceLeDiff, Nat.reduceLT, Nat.reduceBEq, A66, l1, R66]
  by_cases l2 : (24 : Int) < (s.length : Int)
  case pos =>
    obtain rfl : v = false := by
      cases v with
      | false => rfl
      | true => have := (hv.1 rfl).2.1; omega
    simp -implicitDefEqProofs only [RR, RE, RP, RG, takeV, Nat.reduceEqDiff, ↓reduceIte, reduceCtorEq, Nat.reduceAdd, Nat.reduceLeDiff, Nat.reduceLT, Nat.reduceBEq, A66, l1, l2, R66]
  simp -implicitDefEqProofs only [RR, RE, RP, RG, takeV, Nat.reduceEqDiff, ↓reduceIte, reduceCtorEq, Nat.reduceAdd, Nat.reduceLeDiff, Nat.reduceLT, Nat.reduceBEq, A66, l1, l2]
  refine go_rounds (fun q st => ∃ i : Nat, q = s.length - i ∧ i ≤ s.length ∧ (∀ j b, j < i → s[j]? = some b → okAt j b) ∧ eget st.env 0 = some (.str s) ∧ eget st.env 15 = some (.int .i64 s.length) ∧ eget st.env 16 = some (.int .i64 i) ∧ st.dm = []) (n := s.length) mixed
    ⟨0, rfl, by omega, fun j b hj => by omega, by simp [eget], by simp [eget], by simp [eget], rfl⟩ ?_
  rintro q ⟨env, heap, nx', dm⟩ ⟨i, rfl, hi, hok, h0, h15, h16, hdm⟩
  simp only at h0 h15 h16 hdm
  subst hdm
  by_cases hl : (i : Int) < (s.length : Int)
  case neg =>
    obtain rfl : v = true := hv.2 ⟨by omega, by omega, fun j b hb => hok j b (by have := (List.getElem?_eq_some_iff.1 hb).1; omega) hb⟩
    simp -implicitDefEqProofs only [RR, RE, RP, RG, takeV, Nat.reduceEqDiff, ↓reduceIte, reduceCtorEq, Nat.reduceAdd, Nat.reduceLeDiff, Nat.reduceLT, Nat.reduceBEq, A66l0, h15, h16, hl, R66]
  have hb := List.getElem?_eq_getElem (show i < s.length by omega)
  generalize s[i] = b at hb
  have ei : (0 : Int) ≤ (i : Int) := Int.natCast_nonneg _
  have f1 : IntKind.i64.wrap ((i : Int) + 1) = ((i + 1 : Nat) : Int) := by rw [w64 (by omega) (by omega)]; omega
  by_cases hk : okAt i b
  · have hok2 : ∀ j b, j < i + 1 → s[j]? = some b → okAt j b := by
      intro j b' hj hb'
      rcases Nat.lt_or_ge j i with h | h
      · exact hok j b' h hb'
      · obtain rfl : j = i := by omega
        rw [hb] at hb'; injection hb' with hb'; subst hb'; exact hk
    unfold okAt at hk
    by_cases c1 : (97 : Int) ≤ (b.toNat : Int) <;> by_cases c2 : (b.toNat : Int) ≤ 122 <;> (try (exfalso; omega)) <;> by_cases c3 : (65 : Int) ≤ (b.toNat : Int) <;> (try (exfalso; omega)) <;> by_cases c4 : (b.toNat : Int) ≤ 90 <;> (try (exfalso; omega)) <;> rcases dec_cases ((i : Int) = 0) with ⟨c5, d5⟩ | ⟨c5, d5⟩ <;> (try (exfalso; omega)) <;> rcases dec_cases ((b.toNat : Int) = 95) with ⟨c6, d6⟩ | ⟨c6, d6⟩ <;> (try (exfalso; omega)) <;> by_cases c7 : (b.toNat : Int) < 48 <;> (try (exfalso; omega)) <;> by_cases c8 : (57 : Int) < (b.toNat : Int) <;> (try (exfalso; omega))
    all_goals
      simp -implicitDefEqProofs only [RR, RE, RP, RG, takeV, Nat.reduceEqDiff, ↓reduceIte, reduceCtorEq, Nat.reduceAdd, Nat.reduceLeDiff, Nat.reduceLT, Nat.reduceBEq, A66l0, h0, h15, h16, hl, ei, Int.toNat_natCast, hb, unA, c1, c2, c3, c4, d5, d6, c7, c8, f1]
      refine ⟨s.length - (i + 1), by omega, i + 1, ?_⟩
      repeat' apply And.intro
      all_goals first | assumption | rfl | omega | (simp [eget, *]; done)
  · obtain rfl : v = false := by
      cases v with
      | false => rfl
      | true => exact absurd ((hv.1 rfl).2.2 i b hb) hk
    unfold okAt at hk
    by_cases c1 : (97 : Int) ≤ (b.toNat : Int) <;> by_cases c2 : (b.toNat : Int) ≤ 122 <;> (try (exfalso; omega)) <;> by_cases c3 : (65 : Int) ≤ (b.toNat : Int) <;> (try (exfalso; omega)) <;> by_cases c4 : (b.toNat : Int) ≤ 90 <;> (try (exfalso; omega)) <;> rcases dec_cases ((i : Int) = 0) with ⟨c5, d5⟩ | ⟨c5, d5⟩ <;> (try (exfalso; omega)) <;> rcases dec_cases ((b.toNat : Int) = 95) with ⟨c6, d6⟩ | ⟨c6, d6⟩ <;> (try (exfalso; omega)) <;> by_cases c7 : (b.toNat : Int) < 48 <;> (try (exfalso; omega)) <;> by_cases c8 : (57 : Int) < (b.toNat : Int) <;> (try (exfalso; omega))
    all_goals
      simp -implicitDefEqProofs only [RR, RE, RP, RG, takeV, Nat.reduceEqDiff, ↓reduceIte, reduceCtorEq, Nat.reduceAdd, Nat.reduceLeDiff, Nat.reduceLT, Nat.reduceBEq, A66l0, h0, h15, h16, hl, ei, Int.toNat_natCast, hb, unA, c1, c2, c3, c4, d5, d6, c7, c8, R66]
theorem w73 (s : List UInt8) (v : Bool) (hv : v = true ↔ isName s) (hs : s.length ≤ 100000) : Pure Tryd.prog 73 [.str s] (.bool v) := by
  refine Pure.of fun nx => AC.go mixed is73 (by simp) ?_
  by_cases l1 : (s.length : Int) = 0
  case pos =>
    obtain rfl : v = false := by
      cases v with
      | false => rfl
      | true => have := (hv.1 rfl).1; omega
    simp -implicitDefEqProofs only [RR, RE, RP, RG, takeV, Nat.reduceEqDiff, ↓reduceIte, reduceCtorEq, Nat.reduceAdd, Nat.reduceLeDiff, Nat.reduceLT, Nat.reduceBEq, A73, l1, R73]
  by_cases l2 : (24 : Int) < (s.length : Int)
  case pos =>
    obtain rfl : v = false := by
      cases v with
      | false => rfl
      | true => have := (hv.1 rfl).2.1; omega
    simp -implicitDefEqProofs only [RR, RE, RP, RG, takeV, Nat.reduceEqDiff, ↓reduceIte, reduceCtorEq, Nat.reduceAdd, Nat.reduceLeDiff, Nat.reduceLT, Nat.reduceBEq, A73, l1, l2, R73]
  simp -implicitDefEqProofs only [RR, RE, RP, RG, takeV, Nat.reduceEqDiff, ↓reduceIte, reduceCtorEq, Nat.reduceAdd, Nat.reduceLeDiff, Nat.reduceLT, Nat.reduceBEq, A73, l1, l2]
  refine go_rounds (fun q st => ∃ i : Nat, q = s.length - i ∧ i ≤ s.length ∧ (∀ j b, j < i → s[j]? = some b → okAt j b) ∧ eget st.env 0 = some (.str s) ∧ eget st.env 3 = some (.int .i64 i) ∧ st.dm = []) (n := s.length) mixed
    ⟨0, rfl, by omega, fun j b hj => by omega, by simp [eget], by simp [eget], rfl⟩ ?_
  rintro q ⟨env, heap, nx', dm⟩ ⟨i, rfl, hi, hok, h0, h3, hdm⟩
  simp only at h0 h3 hdm
  subst hdm
  by_cases hl : (i : Int) < (s.length : Int)
  case neg =>
    obtain rfl : v = true := hv.2 ⟨by omega, by omega, fun j b hb => hok j b (by have := (List.getElem?_eq_some_iff.1 hb).1; omega) hb⟩
    simp -implicitDefEqProofs only [RR, RE, RP, RG, takeV, Nat.reduceEqDiff, ↓reduceIte, reduceCtorEq, Nat.reduceAdd, Nat.reduceLeDiff, Nat.reduceLT, Nat.reduceBEq, A73l0, h0, h3, hl, R73]
  have hb := List.getElem?_eq_getElem (show i < s.length by omega)
  generalize s[i] = b at hb
  have ei : (0 : Int) ≤ (i : Int) := Int.natCast_nonneg _
  have f1 : IntKind.i64.wrap ((i : Int) + 1) = ((i + 1 : Nat) : Int) := by rw [w64 (by omega) (by omega)]; omega
  by_cases hk : okAt i b
  · have hok2 : ∀ j b, j < i + 1 → s[j]? = some b → okAt j b := by
      intro j b' hj hb'
      rcases Nat.lt_or_ge j i with h | h
      · exact hok j b' h hb'
      · obtain rfl : j = i := by omega
        rw [hb] at hb'; injection hb' with hb'; subst hb'; exact hk
    unfold okAt at hk
    by_cases c1 : (97 : Int) ≤ (b.toNat : Int) <;> by_cases c2 : (b.toNat : Int) ≤ 122 <;> (try (exfalso; omega)) <;> by_cases c3 : (65 : Int) ≤ (b.toNat : Int) <;> (try (exfalso; omega)) <;> by_cases c4 : (b.toNat : Int) ≤ 90 <;> (try (exfalso; omega)) <;> rcases dec_cases ((i : Int) = 0) with ⟨c5, d5⟩ | ⟨c5, d5⟩ <;> (try (exfalso; omega)) <;> rcases dec_cases ((b.toNat : Int) = 95) with ⟨c6, d6⟩ | ⟨c6, d6⟩ <;> (try (exfalso; omega)) <;> by_cases c7 : (48 : Int) ≤ (b.toNat : Int) <;> (try (exfalso; omega)) <;> by_cases c8 : (b.toNat : Int) ≤ 57 <;> (try (exfalso; omega))
    all_goals
      simp -implicitDefEqProofs only [RR, RE, RP, RG, takeV, Nat.reduceEqDiff, ↓reduceIte, reduceCtorEq, Nat.reduceAdd, Nat.reduceLeDiff, Nat.reduceLT, Nat.reduceBEq, A73l0, h0, h3, hl, ei, Int.toNat_natCast, hb, unA, c1, c2, c3, c4, d5, d6, c7, c8, f1]
      refine ⟨s.length - (i + 1), by omega, i + 1, ?_⟩
      repeat' apply And.intro
      all_goals first | assumption | rfl | omega | (simp [eget, *]; done)
  · obtain rfl : v = false := by
      cases v with
      | false => rfl
      | true => exact absurd ((hv.1 rfl).2.2 i b hb) hk
    unfold okAt at hk
    by_cases c1 : (97 : Int) ≤ (b.toNat : Int) <;> by_cases c2 : (b.toNat : Int) ≤ 122 <;> (try (exfalso; omega)) <;> by_cases c3 : (65 : Int) ≤ (b.toNat : Int) <;> (try (exfalso; omega)) <;> by_cases c4 : (b.toNat : Int) ≤ 90 <;> (try (exfalso; omega)) <;> rcases dec_cases ((i : Int) = 0) with ⟨c5, d5⟩ | ⟨c5, d5⟩ <;> (try (exfalso; omega)) <;> rcases dec_cases ((b.toNat : Int) = 95) with ⟨c6, d6⟩ | ⟨c6, d6⟩ <;> (try (exfalso; omega)) <;> by_cases c7 : (48 : Int) ≤ (b.toNat : Int) <;> (try (exfalso; omega)) <;> by_cases c8 : (b.toNat : Int) ≤ 57 <;> (try (exfalso; omega))
    all_goals
      simp -implicitDefEqProofs only [RR, RE, RP, RG, takeV, Nat.reduceEqDiff, ↓reduceIte, reduceCtorEq, Nat.reduceAdd, Nat.reduceLeDiff, Nat.reduceLT, Nat.reduceBEq, A73l0, h0, h3, hl, ei, Int.toNat_natCast, hb, unA, c1, c2, c3, c4, d5, d6, c7, c8, R73]

instance (i : Nat) (b : UInt8) : Decidable (okAt i b) := by unfold okAt; infer_instance
def nameB : Nat → List UInt8 → Bool
  | _, [] => true
  | i, b :: l => decide (okAt i b) && nameB (i + 1) l
theorem nameB_iff : ∀ (l : List UInt8) (i : Nat), nameB i l = true ↔ ∀ j b, l[j]? = some b → okAt (i + j) b
  | [], i => by simp [nameB]
  | c :: l, i => by
    rw [nameB, Bool.and_eq_true, decide_eq_true_eq, nameB_iff l (i + 1)]
    constructor
    · rintro ⟨h1, h2⟩ j b hb
      cases j with
      | zero => simp at hb; subst hb; exact h1
      | succ j => have := h2 j b (by simpa using hb); rw [show i + (j + 1) = i + 1 + j by omega]; exact this
    · intro h
      refine ⟨h 0 c rfl, fun j b hb => ?_⟩
      have := h (j + 1) b (by simpa using hb)
      rw [show i + 1 + j = i + (j + 1) by omega]; exact this
theorem name_is {s : List UInt8} {v : Bool} (h : (decide (1 ≤ s.length) && (decide (s.length ≤ 24) && nameB 0 s)) = v) : v = true ↔ isName s := by
  subst h
  rw [Bool.and_eq_true, Bool.and_eq_true, decide_eq_true_eq, decide_eq_true_eq, nameB_iff]
  simp only [Nat.zero_add]
  exact Iff.rfl

def nameOk (s : Nm) : Bool := decide (1 ≤ s.length) && (decide (s.length ≤ 24) && nameB 0 s)
theorem w66' (s : Nm) (hs : s.length ≤ 100000) : Pure Tryd.prog 66 [.str s] (.bool (nameOk s)) := w66 s _ (name_is rfl) hs
theorem w73' (s : Nm) (hs : s.length ≤ 100000) : Pure Tryd.prog 73 [.str s] (.bool (nameOk s)) := w73 s _ (name_is rfl) hs

/-! ### The first that holds -/
def fi {α : Type} (p : α → Bool) : List α → Nat → Int
  | [], _ => -1
  | x :: r, i => if p x = true then (i : Int) else fi p r (i + 1)
theorem fi_step {α : Type} {p : α → Bool} {l : List α} {i : Nat} {x : α} (h : l[i]? = some x) : fi p (l.drop i) i = if p x = true then (i : Int) else fi p (l.drop (i + 1)) (i + 1) := by
  have hl := (List.getElem?_eq_some_iff.1 h).1
  have e : l.drop i = x :: l.drop (i + 1) := by
    rw [List.drop_eq_getElem_cons hl]; congr 1
    rw [List.getElem?_eq_getElem hl] at h; injection h
  rw [e, fi]
theorem fi_any {α : Type} (p : α → Bool) : ∀ (l : List α) (i : Nat), decide (0 ≤ fi p l i) = l.any p
  | [], _ => by simp [fi]
  | x :: r, i => by
    simp only [fi, List.any_cons]
    split
    · rename_i h; simp [h]
    · rename_i h; rw [fi_any p r (i + 1)]; simp only [Bool.not_eq_true] at h; simp [h]
def strsA (l : List Nm) : AV := .lst 1 (l.map fun s => [.str s])
theorem strs_len (l : List Nm) : lenA (strsA l) = some l.length := by simp [strsA, len_map]
theorem strs_idx {l : List Nm} {n : Nat} {r : Nm} (h : l[n]? = some r) : idxA 1 (strsA l) (n : Int) = some (.fp [.str r]) := idxA_map (f := fun s => [AV.str s]) h
theorem w84 (l : List Nm) (v : Nm) (hl : l.length ≤ 100000) : Pure Tryd.prog 84 [strsA l, .str v] (.int .i64 (fi (fun x => v == x) l 0)) := by
  refine Pure.of fun nx => AC.go mixed is84 (by simp) ?_
  have lv := strs_len l
  simp -implicitDefEqProofs only [RR, RE, RP, RG, takeV, Nat.reduceEqDiff, ↓reduceIte, reduceCtorEq, Nat.reduceAdd, Nat.reduceLeDiff, Nat.reduceLT, Nat.reduceBEq, A84, lv]
  refine go_rounds (fun q st => ∃ i : Nat, q = l.length - i ∧ i ≤ l.length ∧ fi (fun x => v == x) (l.drop i) i = fi (fun x => v == x) l 0 ∧ eget st.env 0 = some (strsA l) ∧ eget st.env 1 = some (.str v) ∧ eget st.env 7 = some (.int .i64 l.length) ∧ eget st.env 8 = some (.int .i64 i) ∧ st.dm = []) (n := l.length) mixed
    ⟨0, rfl, by omega, by simp, by simp [eget], by simp [eget], by simp [eget], by simp [eget], rfl⟩ ?_
  rintro q ⟨env, heap, nx', dm⟩ ⟨i, rfl, hi, hf, g0, g1, g7, g8, hdm⟩
  simp only at g0 g1 g7 g8 hdm
  subst hdm
  by_cases hc : (i : Int) < (l.length : Int)
  case neg =>
    have : l.drop i = [] := List.drop_of_length_le (by omega)
    rw [this, fi] at hf
    rw [← hf]
    simp -implicitDefEqProofs only [RR, RE, RP, RG, takeV, Nat.reduceEqDiff, ↓reduceIte, reduceCtorEq, Nat.reduceAdd, Nat.reduceLeDiff, Nat.reduceLT, Nat.reduceBEq, A84l0, g7, g8, hc, R84]
  have hr := List.getElem?_eq_getElem (show i < l.length by omega)
  generalize l[i] = r at hr
  rw [fi_step hr] at hf
  have ix := strs_idx hr
  have f1 : IntKind.i64.wrap ((i : Int) + 1) = ((i + 1 : Nat) : Int) := by rw [w64 (by omega) (by omega)]; omega
  cases hv : (v == r) with
  | true =>
    simp only [hv, if_true] at hf
    rw [← hf]
    simp -implicitDefEqProofs only [RR, RE, RP, RG, takeV, Nat.reduceEqDiff, ↓reduceIte, reduceCtorEq, Nat.reduceAdd, Nat.reduceLeDiff, Nat.reduceLT, Nat.reduceBEq, A84l0, g0, g1, g7, g8, hc, ix, b_str, strA, hv, R84]
  | false =>
    simp only [hv, Bool.false_eq_true, if_false] at hf
    simp -implicitDefEqProofs only [RR, RE, RP, RG, takeV, Nat.reduceEqDiff, ↓reduceIte, reduceCtorEq, Nat.reduceAdd, Nat.reduceLeDiff, Nat.reduceLT, Nat.reduceBEq, A84l0, g0, g1, g7, g8, hc, ix, b_str, strA, hv, f1]
    refine ⟨l.length - (i + 1), by omega, i + 1, ?_⟩
    repeat' apply And.intro
    all_goals first | assumption | rfl | omega | (simp [eget, *]; done)
theorem w67 (l : List Nm) (v : Nm) (hl : l.length ≤ 100000) : Pure Tryd.prog 67 [strsA l, .str v] (.bool (l.any fun x => v == x)) := by
  refine Pure.of fun nx => AC.go mixed is67 (by simp) ?_
  simp -implicitDefEqProofs only [RR, RE, RP, RG, takeV, Nat.reduceEqDiff, ↓reduceIte, reduceCtorEq, Nat.reduceAdd, Nat.reduceLeDiff, Nat.reduceLT, Nat.reduceBEq, A67]
  refine (w84 l v hl).use fun n1 hn1 => ?_
  have e := fi_any (fun x => v == x) l 0
  simp -implicitDefEqProofs only [RR, RE, RP, RG, takeV, Nat.reduceEqDiff, ↓reduceIte, reduceCtorEq, Nat.reduceAdd, Nat.reduceLeDiff, Nat.reduceLT, Nat.reduceBEq, e, R67]
def ownW : List Nm := [[97, 114, 114, 97, 121], [102, 117, 110, 99], [118, 97, 114], [105, 102], [101, 108, 115, 101], [119, 104, 105, 108, 101], [98, 114, 101, 97, 107], [116, 101, 108, 108], [114, 101, 116, 117, 114, 110], [115, 105, 103, 110, 101, 100], [98, 105, 116], [98, 121, 116, 101], [104, 97, 108, 102], [119, 111, 114, 100]]
theorem w68 : Pure Tryd.prog 68 [] (strsA ownW) := by
  refine Pure.of fun nx => AC.go mixed is68 (by simp) ?_
  have n0 : ((14 : Nat) = 0) = False := eq_false (by decide)
  simp -implicitDefEqProofs only [RR, RE, RP, RG, takeV, Nat.reduceEqDiff, ↓reduceIte, reduceCtorEq, Nat.reduceAdd, Nat.reduceLeDiff, Nat.reduceLT, Nat.reduceBEq, A68, n0, R68, if_false]
  rfl
def isNm (s : Nm) : Bool := nameOk s && !(ownW.any fun x => s == x)
theorem w37 (s : Nm) (hs : s.length ≤ 100000) : Pure Tryd.prog 37 [.str s] (.bool (isNm s)) := by
  refine Pure.of fun nx => AC.go mixed is37 (by simp) ?_
  simp -implicitDefEqProofs only [RR, RE, RP, RG, takeV, Nat.reduceEqDiff, ↓reduceIte, reduceCtorEq, Nat.reduceAdd, Nat.reduceLeDiff, Nat.reduceLT, Nat.reduceBEq, A37]
  refine (w66' s hs).use fun n1 hn1 => ?_
  cases h : nameOk s with
  | false =>
    have e : isNm s = false := by simp [isNm, h]
    simp -implicitDefEqProofs only [RR, RE, RP, RG, takeV, Nat.reduceEqDiff, ↓reduceIte, reduceCtorEq, Nat.reduceAdd, Nat.reduceLeDiff, Nat.reduceLT, Nat.reduceBEq, h, e, R37]
  | true =>
    have e : isNm s = !(ownW.any fun x => s == x) := by simp [isNm, h]
    simp -implicitDefEqProofs only [RR, RE, RP, RG, takeV, Nat.reduceEqDiff, ↓reduceIte, reduceCtorEq, Nat.reduceAdd, Nat.reduceLeDiff, Nat.reduceLT, Nat.reduceBEq, h]
    refine w68.use fun n2 hn2 => ?_
    simp -implicitDefEqProofs only [RR, RE, RP, RG, takeV, Nat.reduceEqDiff, ↓reduceIte, reduceCtorEq, Nat.reduceAdd, Nat.reduceLeDiff, Nat.reduceLT, Nat.reduceBEq]
    refine (w67 ownW s (by decide)).use fun n3 hn3 => ?_
    simp -implicitDefEqProofs only [RR, RE, RP, RG, takeV, Nat.reduceEqDiff, ↓reduceIte, reduceCtorEq, Nat.reduceAdd, Nat.reduceLeDiff, Nat.reduceLT, Nat.reduceBEq, unA, e, R37]
theorem w74 (s : Nm) : Pure Tryd.prog 74 [.str s] (.bool (ownW.any fun x => s == x)) := by
  refine Pure.of fun nx => AC.go mixed is74 (by simp) ?_
  have lv := strs_len ownW
  have e0 : ∀ i : Nat, fi (fun x => s == x) (ownW.drop i) i = fi (fun x => s == x) ownW 0 → decide (0 ≤ fi (fun x => s == x) (ownW.drop i) i) = ownW.any fun x => s == x := fun i h => by rw [h, fi_any]
  have eo : strsA ownW = .lst 1 [[.str [97, 114, 114, 97, 121]], [.str [102, 117, 110, 99]], [.str [118, 97, 114]], [.str [105, 102]], [.str [101, 108, 115, 101]], [.str [119, 104, 105, 108, 101]], [.str [98, 114, 101, 97, 107]], [.str [116, 101, 108, 108]], [.str [114, 101, 116, 117, 114, 110]], [.str [115, 105, 103, 110, 101, 100]], [.str [98, 105, 116]], [.str [98, 121, 116, 101]], [.str [104, 97, 108, 102]], [.str [119, 111, 114, 100]]] := rfl
  simp -implicitDefEqProofs only [RR, RE, RP, RG, takeV, Nat.reduceEqDiff, ↓reduceIte, reduceCtorEq, Nat.reduceAdd, Nat.reduceLeDiff, Nat.reduceLT, Nat.reduceBEq, A74]
  refine go_rounds (fun q st => ∃ i : Nat, q = ownW.length - i ∧ i ≤ ownW.length ∧ fi (fun x => s == x) (ownW.drop i) i = fi (fun x => s == x) ownW 0 ∧ eget st.env 0 = some (.str s) ∧ eget st.env 3 = some (.int .i64 i) ∧ st.dm = []) (n := ownW.length) mixed
    ⟨0, rfl, by omega, by simp, by simp [eget], by simp [eget], rfl⟩ ?_
  rintro q ⟨env, heap, nx', dm⟩ ⟨i, rfl, hi, hf, g0, g3, hdm⟩
  simp only at g0 g3 hdm
  subst hdm
  have e1 := e0 i hf
  have l14 : ownW.length = 14 := rfl
  by_cases hc : (i : Int) < (ownW.length : Int)
  case neg =>
    have : ownW.drop i = [] := List.drop_of_length_le (by omega)
    rw [this, fi] at e1
    rw [← e1]
    simp -implicitDefEqProofs only [RR, RE, RP, RG, takeV, Nat.reduceEqDiff, ↓reduceIte, reduceCtorEq, Nat.reduceAdd, Nat.reduceLeDiff, Nat.reduceLT, Nat.reduceBEq, A74l0, ← eo, lv, g0, g3, hc, R74]
    rfl
  have hr := List.getElem?_eq_getElem (show i < ownW.length by omega)
  generalize ownW[i] = r at hr
  rw [fi_step hr] at hf e1
  have ix := strs_idx hr
  have f1 : IntKind.i64.wrap ((i : Int) + 1) = ((i + 1 : Nat) : Int) := by rw [w64 (by omega) (by omega)]; omega
  have hsym : (r == s) = (s == r) := by
    cases h : (r == s) <;> cases h2 : (s == r) <;> simp_all
  cases hv : (s == r) with
  | true =>
    simp only [hv, if_true] at e1
    have : decide ((0 : Int) ≤ (i : Int)) = true := by simp
    rw [this] at e1
    rw [← e1]
    simp -implicitDefEqProofs only [RR, RE, RP, RG, takeV, Nat.reduceEqDiff, ↓reduceIte, reduceCtorEq, Nat.reduceAdd, Nat.reduceLeDiff, Nat.reduceLT, Nat.reduceBEq, A74l0, ← eo, lv, g0, g3, hc, ix, b_str, strA, hsym, hv, R74]
  | false =>
    simp only [hv, Bool.false_eq_true, if_false] at hf
    simp -implicitDefEqProofs only [RR, RE, RP, RG, takeV, Nat.reduceEqDiff, ↓reduceIte, reduceCtorEq, Nat.reduceAdd, Nat.reduceLeDiff, Nat.reduceLT, Nat.reduceBEq, A74l0, ← eo, lv, g0, g3, hc, ix, b_str, strA, hsym, hv, f1]
    refine ⟨ownW.length - (i + 1), by omega, i + 1, ?_⟩
    repeat' apply And.intro
    all_goals first | assumption | rfl | omega | (simp [eget, *]; done)
theorem w45 (s : Nm) (hs : s.length ≤ 100000) : Pure Tryd.prog 45 [.str s] (.bool (isNm s)) := by
  refine Pure.of fun nx => AC.go mixed is45 (by simp) ?_
  simp -implicitDefEqProofs only [RR, RE, RP, RG, takeV, Nat.reduceEqDiff, ↓reduceIte, reduceCtorEq, Nat.reduceAdd, Nat.reduceLeDiff, Nat.reduceLT, Nat.reduceBEq, A45]
  refine (w73' s hs).use fun n1 hn1 => ?_
  cases h : nameOk s with
  | false =>
    have e : isNm s = false := by simp [isNm, h]
    simp -implicitDefEqProofs only [RR, RE, RP, RG, takeV, Nat.reduceEqDiff, ↓reduceIte, reduceCtorEq, Nat.reduceAdd, Nat.reduceLeDiff, Nat.reduceLT, Nat.reduceBEq, h, e, R45]
  | true =>
    have e : isNm s = !(ownW.any fun x => s == x) := by simp [isNm, h]
    simp -implicitDefEqProofs only [RR, RE, RP, RG, takeV, Nat.reduceEqDiff, ↓reduceIte, reduceCtorEq, Nat.reduceAdd, Nat.reduceLeDiff, Nat.reduceLT, Nat.reduceBEq, h]
    refine (w74 s).use fun n2 hn2 => ?_
    simp -implicitDefEqProofs only [RR, RE, RP, RG, takeV, Nat.reduceEqDiff, ↓reduceIte, reduceCtorEq, Nat.reduceAdd, Nat.reduceLeDiff, Nat.reduceLT, Nat.reduceBEq, unA, e, R45]
end Go.Proofs.YtkfldbimfbacmaaDoor
/- Measures of expressions. -/
namespace Go.Proofs.YtkfldbimfbacmaaDoor
open Go Go.Ab Go.Proofs
set_option linter.unusedVariables false
set_option linter.unusedSimpArgs false
set_option maxRecDepth 20000

theorem exs_len (l : List Ex) : lenA (exsA l) = some l.length := by simp [exsA, len_map]
theorem exs_idx {l : List Ex} {n : Nat} {r : Ex} (h : l[n]? = some r) : idxA 6 (exsA l) (n : Int) = some (.fp (exE r)) := idxA_map h
theorem ex_len (x : Ex) : (exE x).length = 6 := by rw [exE_eq]; rfl
theorem ex_take (x : Ex) : (exE x).take 6 = exE x := List.take_of_length_le (by rw [ex_len]; omega)
theorem nodes_eq (x : Ex) : nodes x = nodesL x.sub + 1 := by cases x; simp [nodes, Ex.sub]
theorem depth_eq (x : Ex) : depth x = depthL x.sub + 1 := by cases x; simp [depth, Ex.sub]
theorem nodesL_app : ∀ (a b : List Ex), nodesL (a ++ b) = nodesL a + nodesL b
  | [], b => by simp [nodesL]
  | x :: a, b => by simp only [List.cons_append, nodesL, nodesL_app a b]; omega
theorem depthL_app : ∀ (a b : List Ex), depthL (a ++ b) = max (depthL a) (depthL b)
  | [], b => by simp [depthL]
  | x :: a, b => by simp only [List.cons_append, depthL, depthL_app a b]; omega
theorem take_succ {α : Type} {l : List α} {i : Nat} {r : α} (h : l[i]? = some r) : l.take (i + 1) = l.take i ++ [r] := by
  rw [List.take_add_one, h]; rfl
theorem nodesL_take {l : List Ex} {i : Nat} {r : Ex} (h : l[i]? = some r) : nodesL (l.take (i + 1)) = nodesL (l.take i) + nodes r := by
  rw [take_succ h, nodesL_app]; simp [nodesL]
theorem depthL_take {l : List Ex} {i : Nat} {r : Ex} (h : l[i]? = some r) : depthL (l.take (i + 1)) = max (depthL (l.take i)) (depth r) := by
  rw [take_succ h, depthL_app]; simp [depthL]
theorem nodesL_le {l : List Ex} (i : Nat) : nodesL (l.take i) ≤ nodesL l := by
  have := nodesL_app (l.take i) (l.drop i)
  rw [List.take_append_drop] at this
  omega
theorem nodes_pos (x : Ex) : 1 ≤ nodes x := by rw [nodes_eq]; omega
theorem nodesL_len : ∀ (l : List Ex), l.length ≤ nodesL l
  | [] => by simp
  | x :: r => by have := nodesL_len r; have := nodes_pos x; simp only [List.length_cons, nodesL]; omega
theorem nodesL_mem {l : List Ex} {i : Nat} {r : Ex} (h : l[i]? = some r) : nodes r ≤ nodesL l := by
  have := nodesL_take h
  have := nodesL_le (l := l) (i + 1)
  omega
theorem depth_nodes : ∀ (n : Nat) (x : Ex), nodes x ≤ n → depth x ≤ nodes x := by
  intro n
  induction n with
  | zero => intro x hx; have := nodes_pos x; omega
  | succ n ih =>
    intro x hx
    rw [depth_eq, nodes_eq] at *
    have key : ∀ l : List Ex, nodesL l ≤ n → depthL l ≤ nodesL l := by
      intro l
      induction l with
      | nil => intro _; simp [depthL]
      | cons y l ihl =>
        intro hl
        simp only [nodesL, depthL] at hl ⊢
        have := ih y (by omega)
        have := ihl (by omega)
        omega
    have := key x.sub (by omega)
    omega
theorem depthL_nodes {l : List Ex} (i : Nat) : depthL (l.take i) ≤ nodesL l := by
  have h1 : depthL (l.take i) ≤ depthL l := by
    have := depthL_app (l.take i) (l.drop i)
    rw [List.take_append_drop] at this
    omega
  have h2 : ∀ l : List Ex, depthL l ≤ nodesL l := by
    intro l
    induction l with
    | nil => simp [depthL]
    | cons y l ihl => simp only [nodesL, depthL]; have := depth_nodes _ y (Nat.le_refl _); omega
  have := h2 l
  omega

theorem w34 : ∀ (n : Nat) (x : Ex), nodes x ≤ n → nodes x ≤ 4611686018427387904 → Pure Tryd.prog 34 [.agg (exE x)] (.tup [.int .i64 (nodes x), .int .i64 (depth x)]) := by
  intro n
  induction n with
  | zero => intro x hx; have := nodes_pos x; omega
  | succ n ih =>
    intro x hn hB
    refine Pure.of fun nx => AC.go mixed is34 (by simp) ?_
    have hnd := nodes_eq x
    have hdd := depth_eq x
    have hlen := nodesL_len x.sub
    have hdl := depthL_nodes (l := x.sub) x.sub.length
    rw [List.take_length] at hdl
    have lv := exs_len x.sub
    rw [exE_eq]
    simp -implicitDefEqProofs only [RR, RE, RP, RG, takeV, Nat.reduceEqDiff, ↓reduceIte, reduceCtorEq, Nat.reduceAdd, Nat.reduceLeDiff, Nat.reduceLT, Nat.reduceBEq, A34, lv]
    refine go_rounds (fun q st => ∃ i : Nat, q = x.sub.length - i ∧ i ≤ x.sub.length ∧ eget st.env 2 = some (.int .i64 (nodesL (x.sub.take i))) ∧ eget st.env 3 = some (.int .i64 (depthL (x.sub.take i))) ∧ eget st.env 9 = some (exsA x.sub) ∧ eget st.env 10 = some (.int .i64 x.sub.length) ∧ eget st.env 11 = some (.int .i64 i) ∧ st.dm = []) (n := x.sub.length) mixed
      ⟨0, rfl, by omega, by simp [eget, nodesL], by simp [eget, depthL], by simp [eget], by simp [eget], by simp [eget], rfl⟩ ?_
    rintro q ⟨env, heap, nx', dm⟩ ⟨i, rfl, hi, g2, g3, g9, g10, g11, hdm⟩
    simp only at g2 g3 g9 g10 g11 hdm
    subst hdm
    have f1 : IntKind.i64.wrap ((i : Int) + 1) = ((i + 1 : Nat) : Int) := by rw [w64 (by omega) (by omega)]; omega
    by_cases hc : (i : Int) < (x.sub.length : Int)
    case neg =>
      have ht : x.sub.take i = x.sub := List.take_of_length_le (by omega)
      rw [ht] at g2 g3
      have a1 : IntKind.i64.wrap ((nodesL x.sub : Int) + 1) = (nodes x : Int) := by rw [w64 (by omega) (by omega)]; omega
      have a2 : IntKind.i64.wrap ((depthL x.sub : Int) + 1) = (depth x : Int) := by rw [w64 (by omega) (by omega)]; omega
      simp -implicitDefEqProofs only [RR, RE, RP, RG, takeV, Nat.reduceEqDiff, ↓reduceIte, reduceCtorEq, Nat.reduceAdd, Nat.reduceLeDiff, Nat.reduceLT, Nat.reduceBEq, A34l0, g2, g3, g10, g11, hc, a1, a2, R34]
    have hr := List.getElem?_eq_getElem (show i < x.sub.length by omega)
    generalize x.sub[i] = r at hr
    have ix := exs_idx hr
    have m1 := nodesL_mem hr
    have t1 := nodesL_take hr
    have t2 := depthL_take hr
    have t3 := nodesL_le (l := x.sub) (i + 1)
    have rl := ex_len r
    have rt := ex_take r
    simp -implicitDefEqProofs only [RR, RE, RP, RG, takeV, Nat.reduceEqDiff, ↓reduceIte, reduceCtorEq, Nat.reduceAdd, Nat.reduceLeDiff, Nat.reduceLT, Nat.reduceBEq, A34l0, g2, g3, g9, g10, g11, hc, ix, rl, rt]
    refine (ih r (by omega) (by omega)).use fun n1 hn1 => ?_
    have a1 : IntKind.i64.wrap ((nodesL (x.sub.take i) : Int) + (nodes r : Int)) = (nodesL (x.sub.take (i + 1)) : Int) := by rw [w64 (by omega) (by omega)]; omega
    have a2 : (if (depth r : Int) > (depthL (x.sub.take i) : Int) then (depth r : Int) else (depthL (x.sub.take i) : Int)) = (depthL (x.sub.take (i + 1)) : Int) := by split <;> omega
    simp -implicitDefEqProofs only [RR, RE, RP, RG, takeV, Nat.reduceEqDiff, ↓reduceIte, reduceCtorEq, Nat.reduceAdd, Nat.reduceLeDiff, Nat.reduceLT, Nat.reduceBEq, g2, g3, g11, f1, a1, a2, gt_iff_lt]
    refine ⟨x.sub.length - (i + 1), by omega, i + 1, ?_⟩
    repeat' apply And.intro
    all_goals first | assumption | rfl | omega | (simp [eget, *]; done)

theorem big_eq (x : Ex) : (decide (50 < (nodes x : Int)) || decide (14 < (depth x : Int))) = big x := by
  unfold big
  congr 1
  · apply decide_eq_decide.2; omega
  · apply decide_eq_decide.2; omega
theorem w17 (x : Ex) (hx : nodes x ≤ 4611686018427387904) : Pure Tryd.prog 17 [.agg (exE x)] (.bool (big x)) := by
  refine Pure.of fun nx => AC.go mixed is17 (by simp) ?_
  have rl := ex_len x
  have rt := ex_take x
  have e := big_eq x
  simp -implicitDefEqProofs only [RR, RE, RP, RG, takeV, Nat.reduceEqDiff, ↓reduceIte, reduceCtorEq, Nat.reduceAdd, Nat.reduceLeDiff, Nat.reduceLT, Nat.reduceBEq, A17, rl, rt]
  refine (w34 _ x (Nat.le_refl _) hx).use fun n1 hn1 => ?_
  rcases dec_cases ((50 : Int) < (nodes x : Int)) with ⟨c1, d1⟩ | ⟨c1, d1⟩
  · simp only [d1, decide_true, Bool.true_or] at e
    simp -implicitDefEqProofs only [RR, RE, RP, RG, takeV, Nat.reduceEqDiff, ↓reduceIte, reduceCtorEq, Nat.reduceAdd, Nat.reduceLeDiff, Nat.reduceLT, Nat.reduceBEq, d1, ← e, R17]
  · simp only [d1, decide_false, Bool.false_or] at e
    simp -implicitDefEqProofs only [RR, RE, RP, RG, takeV, Nat.reduceEqDiff, ↓reduceIte, reduceCtorEq, Nat.reduceAdd, Nat.reduceLeDiff, Nat.reduceLT, Nat.reduceBEq, d1, e, R17]
theorem w42 : ∀ (n : Nat) (x : Ex), nodes x ≤ n → nodes x ≤ 4611686018427387904 → Pure Tryd.prog 42 [.agg (exE x)] (.int .i64 (nodes x)) := by
  intro n
  induction n with
  | zero => intro x hx; have := nodes_pos x; omega
  | succ n ih =>
    intro x hn hB
    refine Pure.of fun nx => AC.go mixed is42 (by simp) ?_
    have hnd := nodes_eq x
    have hlen := nodesL_len x.sub
    have lv := exs_len x.sub
    rw [exE_eq]
    simp -implicitDefEqProofs only [RR, RE, RP, RG, takeV, Nat.reduceEqDiff, ↓reduceIte, reduceCtorEq, Nat.reduceAdd, Nat.reduceLeDiff, Nat.reduceLT, Nat.reduceBEq, A42, lv]
    refine go_rounds (fun q st => ∃ i : Nat, q = x.sub.length - i ∧ i ≤ x.sub.length ∧ eget st.env 1 = some (.op nx 0) ∧ eget st.env 3 = some (.int .i64 (nodesL (x.sub.take i) + 1)) ∧ eget st.env 4 = some (.int .i64 i) ∧ hget st.heap nx = some (.cells [.int .u8 x.kind, .int .i64 x.width, .int .u64 x.bits, .str x.name, .int .u8 x.op, exsA x.sub]) ∧ st.dm = []) (n := x.sub.length) mixed
      ⟨0, rfl, by omega, by simp [eget], by simp [eget, nodesL], by simp [eget], by simp [hget], rfl⟩ ?_
    rintro q ⟨env, heap, nx', dm⟩ ⟨i, rfl, hi, g1, g3, g4, gh, hdm⟩
    simp only at g1 g3 g4 gh hdm
    subst hdm
    have f1 : IntKind.i64.wrap ((i : Int) + 1) = ((i + 1 : Nat) : Int) := by rw [w64 (by omega) (by omega)]; omega
    by_cases hc : (i : Int) < (x.sub.length : Int)
    case neg =>
      have ht : x.sub.take i = x.sub := List.take_of_length_le (by omega)
      rw [ht] at g3
      have e3 : (nodesL x.sub : Int) + 1 = (nodes x : Int) := by omega
      rw [e3] at g3
      simp -implicitDefEqProofs only [RR, RE, RP, RG, takeV, Nat.reduceEqDiff, ↓reduceIte, reduceCtorEq, Nat.reduceAdd, Nat.reduceLeDiff, Nat.reduceLT, Nat.reduceBEq, A42l0, g1, g3, g4, gh, lv, hc, R42]
    have hr := List.getElem?_eq_getElem (show i < x.sub.length by omega)
    generalize x.sub[i] = r at hr
    have ix := exs_idx hr
    have m1 := nodesL_mem hr
    have t1 := nodesL_take hr
    have t3 := nodesL_le (l := x.sub) (i + 1)
    have rl := ex_len r
    have rt := ex_take r
    simp -implicitDefEqProofs only [RR, RE, RP, RG, takeV, Nat.reduceEqDiff, ↓reduceIte, reduceCtorEq, Nat.reduceAdd, Nat.reduceLeDiff, Nat.reduceLT, Nat.reduceBEq, A42l0, g1, g3, g4, gh, lv, hc, ix, rl, rt]
    refine (ih r (by omega) (by omega)).use fun n1 hn1 => ?_
    have a1 : IntKind.i64.wrap ((nodesL (x.sub.take i) : Int) + 1 + (nodes r : Int)) = (nodesL (x.sub.take (i + 1)) : Int) + 1 := by rw [w64 (by omega) (by omega)]; omega
    simp -implicitDefEqProofs only [RR, RE, RP, RG, takeV, Nat.reduceEqDiff, ↓reduceIte, reduceCtorEq, Nat.reduceAdd, Nat.reduceLeDiff, Nat.reduceLT, Nat.reduceBEq, g1, g3, g4, f1, a1]
    refine ⟨x.sub.length - (i + 1), by omega, i + 1, ?_⟩
    repeat' apply And.intro
    all_goals first | assumption | rfl | omega | (simp [eget, *]; done)
theorem w43 : ∀ (n : Nat) (x : Ex), nodes x ≤ n → nodes x ≤ 4611686018427387904 → Pure Tryd.prog 43 [.agg (exE x)] (.int .i64 (depth x)) := by
  intro n
  induction n with
  | zero => intro x hx; have := nodes_pos x; omega
  | succ n ih =>
    intro x hn hB
    refine Pure.of fun nx => AC.go mixed is43 (by simp) ?_
    have hnd := nodes_eq x
    have hdd := depth_eq x
    have hlen := nodesL_len x.sub
    have hdl := depthL_nodes (l := x.sub) x.sub.length
    rw [List.take_length] at hdl
    have lv := exs_len x.sub
    rw [exE_eq]
    simp -implicitDefEqProofs only [RR, RE, RP, RG, takeV, Nat.reduceEqDiff, ↓reduceIte, reduceCtorEq, Nat.reduceAdd, Nat.reduceLeDiff, Nat.reduceLT, Nat.reduceBEq, A43, lv]
    refine go_rounds (fun q st => ∃ i : Nat, q = x.sub.length - i ∧ i ≤ x.sub.length ∧ eget st.env 1 = some (.op nx 0) ∧ eget st.env 3 = some (.int .i64 (depthL (x.sub.take i))) ∧ eget st.env 4 = some (.int .i64 i) ∧ hget st.heap nx = some (.cells [.int .u8 x.kind, .int .i64 x.width, .int .u64 x.bits, .str x.name, .int .u8 x.op, exsA x.sub]) ∧ st.dm = []) (n := x.sub.length) mixed
      ⟨0, rfl, by omega, by simp [eget], by simp [eget, depthL], by simp [eget], by simp [hget], rfl⟩ ?_
    rintro q ⟨env, heap, nx', dm⟩ ⟨i, rfl, hi, g1, g3, g4, gh, hdm⟩
    simp only at g1 g3 g4 gh hdm
    subst hdm
    have f1 : IntKind.i64.wrap ((i : Int) + 1) = ((i + 1 : Nat) : Int) := by rw [w64 (by omega) (by omega)]; omega
    by_cases hc : (i : Int) < (x.sub.length : Int)
    case neg =>
      have ht : x.sub.take i = x.sub := List.take_of_length_le (by omega)
      rw [ht] at g3
      have a2 : IntKind.i64.wrap ((depthL x.sub : Int) + 1) = (depth x : Int) := by rw [w64 (by omega) (by omega)]; omega
      simp -implicitDefEqProofs only [RR, RE, RP, RG, takeV, Nat.reduceEqDiff, ↓reduceIte, reduceCtorEq, Nat.reduceAdd, Nat.reduceLeDiff, Nat.reduceLT, Nat.reduceBEq, A43l0, g1, g3, g4, gh, lv, hc, a2, R43]
    have hr := List.getElem?_eq_getElem (show i < x.sub.length by omega)
    generalize x.sub[i] = r at hr
    have ix := exs_idx hr
    have m1 := nodesL_mem hr
    have t2 := depthL_take hr
    have rl := ex_len r
    have rt := ex_take r
    simp -implicitDefEqProofs only [RR, RE, RP, RG, takeV, Nat.reduceEqDiff, ↓reduceIte, reduceCtorEq, Nat.reduceAdd, Nat.reduceLeDiff, Nat.reduceLT, Nat.reduceBEq, A43l0, g1, g3, g4, gh, lv, hc, ix, rl, rt]
    refine (ih r (by omega) (by omega)).use fun n1 hn1 => ?_
    have a2 : (if (depth r : Int) > (depthL (x.sub.take i) : Int) then (depth r : Int) else (depthL (x.sub.take i) : Int)) = (depthL (x.sub.take (i + 1)) : Int) := by split <;> omega
    simp -implicitDefEqProofs only [RR, RE, RP, RG, takeV, Nat.reduceEqDiff, ↓reduceIte, reduceCtorEq, Nat.reduceAdd, Nat.reduceLeDiff, Nat.reduceLT, Nat.reduceBEq, g1, g3, g4, f1, a2, gt_iff_lt]
    refine ⟨x.sub.length - (i + 1), by omega, i + 1, ?_⟩
    repeat' apply And.intro
    all_goals first | assumption | rfl | omega | (simp [eget, *]; done)
theorem w20 (x : Ex) (hx : nodes x ≤ 4611686018427387904) : Pure Tryd.prog 20 [.agg (exE x)] (.bool (big x)) := by
  refine Pure.of fun nx => AC.go mixed is20 (by simp) ?_
  have rl := ex_len x
  have rt := ex_take x
  have e := big_eq x
  simp -implicitDefEqProofs only [RR, RE, RP, RG, takeV, Nat.reduceEqDiff, ↓reduceIte, reduceCtorEq, Nat.reduceAdd, Nat.reduceLeDiff, Nat.reduceLT, Nat.reduceBEq, A20, rl, rt]
  refine (w42 _ x (Nat.le_refl _) hx).use fun n1 hn1 => ?_
  rcases dec_cases ((50 : Int) < (nodes x : Int)) with ⟨c1, d1⟩ | ⟨c1, d1⟩
  · simp only [d1, decide_true, Bool.true_or] at e
    simp -implicitDefEqProofs only [RR, RE, RP, RG, takeV, Nat.reduceEqDiff, ↓reduceIte, reduceCtorEq, Nat.reduceAdd, Nat.reduceLeDiff, Nat.reduceLT, Nat.reduceBEq, d1, ← e, R20]
  · simp only [d1, decide_false, Bool.false_or] at e
    simp -implicitDefEqProofs only [RR, RE, RP, RG, takeV, Nat.reduceEqDiff, ↓reduceIte, reduceCtorEq, Nat.reduceAdd, Nat.reduceLeDiff, Nat.reduceLT, Nat.reduceBEq, d1, rl, rt]
    refine (w43 _ x (Nat.le_refl _) hx).use fun n2 hn2 => ?_
    simp -implicitDefEqProofs only [RR, RE, RP, RG, takeV, Nat.reduceEqDiff, ↓reduceIte, reduceCtorEq, Nat.reduceAdd, Nat.reduceLeDiff, Nat.reduceLT, Nat.reduceBEq, d1, e, R20]
end Go.Proofs.YtkfldbimfbacmaaDoor
/- IndexFunc, ContainsFunc and all. -/
namespace Go.Proofs.YtkfldbimfbacmaaDoor
open Go Go.Ab Go.Proofs
set_option linter.unusedVariables false
set_option linter.unusedSimpArgs false
set_option maxRecDepth 20000

theorem AC_keep {P : Program} {f : FuncId} {xs : List AV} {h : Heap} {nx : Nat} {r : AV} (hc : AC P f xs h nx fun y h' n' => y = .ret r ∧ ∀ b o, b < nx → hget h b = some o → hget h' b = some o) : AC P f xs h nx fun y h' n' => y = .ret r ∧ h' = h ∧ nx ≤ n' :=
  AC.live hc.1 fun hlive => hc.sub fun y h' n' hle ⟨hy, hk⟩ => ⟨h, fun b o hb => hk b o (hlive b o hb) hb, hy, rfl, hle⟩
theorem c_exs (l : List Ex) : cellsOf (exsA l) = [exsA l] := rfl
theorem p_exs (l : List Ex) : (exsA l).plain = true := rfl
theorem c_sms (l : List Sm) : cellsOf (smsA l) = [smsA l] := rfl
theorem p_sms (l : List Sm) : (smsA l).plain = true := rfl
theorem c_ars (l : List Ar) : cellsOf (arsA l) = [arsA l] := rfl
theorem p_ars (l : List Ar) : (arsA l).plain = true := rfl
theorem c_fus (l : List Fu) : cellsOf (fusA l) = [fusA l] := rfl
theorem p_fus (l : List Fu) : (fusA l).plain = true := rfl
theorem c_pms (l : List Pm) : cellsOf (pmsA l) = [pmsA l] := rfl
theorem p_pms (l : List Pm) : (pmsA l).plain = true := rfl
theorem any_not {α : Type} (g : α → Bool) : ∀ l : List α, (!(l.any fun x => !g x)) = l.all g
  | [] => rfl
  | x :: r => by
    simp only [List.any_cons, List.all_cons, Bool.not_or, Bool.not_not, any_not g r]
theorem sms_len (l : List Sm) : lenA (smsA l) = some l.length := by simp [smsA, len_map]
theorem sms_idx {l : List Sm} {n : Nat} {r : Sm} (h : l[n]? = some r) : idxA 7 (smsA l) (n : Int) = some (.fp (smE r)) := idxA_map h
theorem sm_len (x : Sm) : (smE x).length = 7 := by rw [smE_eq]; rfl
theorem sm_take (x : Sm) : (smE x).take 7 = smE x := List.take_of_length_le (by rw [sm_len]; omega)
theorem ars_len (l : List Ar) : lenA (arsA l) = some l.length := by simp [arsA, len_map]
theorem ars_idx {l : List Ar} {n : Nat} {r : Ar} (h : l[n]? = some r) : idxA 3 (arsA l) (n : Int) = some (.fp (arE r)) := idxA_map h
theorem ar_len (x : Ar) : (arE x).length = 3 := rfl
theorem ar_take (x : Ar) : (arE x).take 3 = arE x := rfl
theorem fus_len (l : List Fu) : lenA (fusA l) = some l.length := by simp [fusA, len_map]
theorem fus_idx {l : List Fu} {n : Nat} {r : Fu} (h : l[n]? = some r) : idxA 4 (fusA l) (n : Int) = some (.fp (fuE r)) := idxA_map h
theorem fu_len (x : Fu) : (fuE x).length = 4 := rfl
theorem fu_take (x : Fu) : (fuE x).take 4 = fuE x := rfl
theorem pms_len (l : List Pm) : lenA (pmsA l) = some l.length := by simp [pmsA, len_map]
theorem pms_idx {l : List Pm} {n : Nat} {r : Pm} (h : l[n]? = some r) : idxA 2 (pmsA l) (n : Int) = some (.fp (pmE r)) := idxA_map h
theorem pm_len (x : Pm) : (pmE x).length = 2 := rfl
theorem pm_take (x : Pm) : (pmE x).take 2 = pmE x := rfl

theorem w85 {c : FuncId} {caps : List AV} (p : Ex → Bool) (l : List Ex) (h : Heap) (nx : Nat) (hl : l.length ≤ 4611686018427387904) (hp : ∀ x ∈ l, ∀ n, nx ≤ n → AC Tryd.prog c (.agg (exE x) :: caps) h n fun y h' n' => y = .ret (.bool (p x)) ∧ h' = h ∧ n ≤ n') :
    AC Tryd.prog 85 [exsA l, .fn (.func c) caps] h nx fun y h' n' => y = .ret (.int .i64 (fi p l 0)) ∧ h' = h ∧ nx ≤ n' := by
  refine AC.go mixed is85 (by simp) ?_
  have lv := exs_len l
  simp -implicitDefEqProofs only [RR, RE, RP, RG, takeV, Nat.reduceEqDiff, ↓reduceIte, reduceCtorEq, Nat.reduceAdd, Nat.reduceLeDiff, Nat.reduceLT, Nat.reduceBEq, A85, lv]
  refine go_rounds (fun q st => ∃ i : Nat, q = l.length - i ∧ i ≤ l.length ∧ fi p (l.drop i) i = fi p l 0 ∧ eget st.env 0 = some (exsA l) ∧ eget st.env 1 = some (.fn (.func c) caps) ∧ eget st.env 7 = some (.int .i64 l.length) ∧ eget st.env 8 = some (.int .i64 i) ∧ st.heap = h ∧ nx ≤ st.nx ∧ st.dm = []) (n := l.length) mixed
    ⟨0, rfl, by omega, by simp, by simp [eget], by simp [eget], by simp [eget], by simp [eget], rfl, Nat.le_refl _, rfl⟩ ?_
  rintro q ⟨env, heap, nx', dm⟩ ⟨i, rfl, hi, hf, g0, g1, g7, g8, hh, hnx, hdm⟩
  simp only at g0 g1 g7 g8 hh hnx hdm
  subst hdm; subst hh
  by_cases hc : (i : Int) < (l.length : Int)
  case neg =>
    have : l.drop i = [] := List.drop_of_length_le (by omega)
    rw [this, fi] at hf
    rw [← hf]
    simp -implicitDefEqProofs only [RR, RE, RP, RG, takeV, Nat.reduceEqDiff, ↓reduceIte, reduceCtorEq, Nat.reduceAdd, Nat.reduceLeDiff, Nat.reduceLT, Nat.reduceBEq, A85l0, g7, g8, hc, R85]
    exact hnx
  have hr := List.getElem?_eq_getElem (show i < l.length by omega)
  generalize l[i] = r at hr
  rw [fi_step hr] at hf
  have ix := exs_idx hr
  have rl := ex_len r
  have rt := ex_take r
  have f1 : IntKind.i64.wrap ((i : Int) + 1) = ((i + 1 : Nat) : Int) := by rw [w64 (by omega) (by omega)]; omega
  simp -implicitDefEqProofs only [RR, RE, RP, RG, takeV, Nat.reduceEqDiff, ↓reduceIte, reduceCtorEq, Nat.reduceAdd, Nat.reduceLeDiff, Nat.reduceLT, Nat.reduceBEq, A85l0, g0, g1, g7, g8, hc, ix, rl, rt]
  refine (hp r (List.mem_of_getElem? hr) nx' hnx).mono ?_
  rintro y h' n1 ⟨rfl, rfl, hn1⟩
  cases hv : p r with
  | true =>
    simp only [hv, if_true] at hf
    rw [← hf]
    simp -implicitDefEqProofs only [RR, RE, RP, RG, takeV, Nat.reduceEqDiff, ↓reduceIte, reduceCtorEq, Nat.reduceAdd, Nat.reduceLeDiff, Nat.reduceLT, Nat.reduceBEq, g0, g1, g7, g8, R85]
    omega
  | false =>
    simp only [hv, Bool.false_eq_true, if_false] at hf
    simp -implicitDefEqProofs only [RR, RE, RP, RG, takeV, Nat.reduceEqDiff, ↓reduceIte, reduceCtorEq, Nat.reduceAdd, Nat.reduceLeDiff, Nat.reduceLT, Nat.reduceBEq, g0, g1, g7, g8, f1]
    refine ⟨l.length - (i + 1), by omega, i + 1, ?_⟩
    repeat' apply And.intro
    all_goals first | assumption | rfl | omega | (simp [eget, *]; done)
theorem w69 {c : FuncId} {caps : List AV} (p : Ex → Bool) (l : List Ex) (h : Heap) (nx : Nat) (hl : l.length ≤ 4611686018427387904) (hp : ∀ x ∈ l, ∀ n, nx ≤ n → AC Tryd.prog c (.agg (exE x) :: caps) h n fun y h' n' => y = .ret (.bool (p x)) ∧ h' = h ∧ n ≤ n') :
    AC Tryd.prog 69 [exsA l, .fn (.func c) caps] h nx fun y h' n' => y = .ret (.bool (l.any p)) ∧ h' = h ∧ nx ≤ n' := by
  refine AC.go mixed is69 (by simp) ?_
  simp -implicitDefEqProofs only [RR, RE, RP, RG, takeV, Nat.reduceEqDiff, ↓reduceIte, reduceCtorEq, Nat.reduceAdd, Nat.reduceLeDiff, Nat.reduceLT, Nat.reduceBEq, A69]
  refine (w85 p l h nx hl hp).mono ?_
  rintro y h' n1 ⟨rfl, rfl, hn1⟩
  have e := fi_any p l 0
  simp -implicitDefEqProofs only [RR, RE, RP, RG, takeV, Nat.reduceEqDiff, ↓reduceIte, reduceCtorEq, Nat.reduceAdd, Nat.reduceLeDiff, Nat.reduceLT, Nat.reduceBEq, e, R69]
  exact hn1
theorem w70 {c : FuncId} (g : Ex → Bool) (x : Ex) (b : Nat) (h : Heap) (nx : Nat) (hb : hget h b = some (.cells [.fn (.func c) []])) (hbn : b < nx) (hp : Pure Tryd.prog c [.agg (exE x)] (.bool (g x))) :
    AC Tryd.prog 70 [.agg (exE x), .op b 0] h nx fun y h' n' => y = .ret (.bool (!g x)) ∧ h' = h ∧ nx ≤ n' := by
  refine AC_keep (AC.go mixed is70 (by simp) ?_)
  have rl := ex_len x
  have rt := ex_take x
  have nb : (nx = b) = False := eq_false (by omega)
  simp -implicitDefEqProofs only [RR, RE, RP, RG, takeV, Nat.reduceEqDiff, ↓reduceIte, reduceCtorEq, Nat.reduceAdd, Nat.reduceLeDiff, Nat.reduceLT, Nat.reduceBEq, A70, rl, rt, hb, nb]
  refine hp.use fun n1 hn1 => ?_
  simp -implicitDefEqProofs only [RR, RE, RP, RG, takeV, Nat.reduceEqDiff, ↓reduceIte, reduceCtorEq, Nat.reduceAdd, Nat.reduceLeDiff, Nat.reduceLT, Nat.reduceBEq, unA, R70]
  intro k o hk ho
  rw [if_neg (by omega)]; exact ho
theorem w38 {c : FuncId} (g : Ex → Bool) (l : List Ex) (hl : l.length ≤ 4611686018427387904) (hp : ∀ x ∈ l, Pure Tryd.prog c [.agg (exE x)] (.bool (g x))) : Pure Tryd.prog 38 [exsA l, .fn (.func c) []] (.bool (l.all g)) := by
  refine Pure.of fun nx => AC.go mixed is38 (by simp) ?_
  simp -implicitDefEqProofs only [RR, RE, RP, RG, takeV, Nat.reduceEqDiff, ↓reduceIte, reduceCtorEq, Nat.reduceAdd, Nat.reduceLeDiff, Nat.reduceLT, Nat.reduceBEq, A38]
  refine (w69 (fun x => !g x) l _ _ hl fun x hx n hn => w70 g x nx _ n (by simp [hget]) (by omega) (hp x hx)).mono ?_
  rintro y h' n1 ⟨rfl, rfl, hn1⟩
  have e := any_not g l
  simp -implicitDefEqProofs only [RR, RE, RP, RG, takeV, Nat.reduceEqDiff, ↓reduceIte, reduceCtorEq, Nat.reduceAdd, Nat.reduceLeDiff, Nat.reduceLT, Nat.reduceBEq, unA, e, R38]
theorem w71 {c : FuncId} {caps : List AV} (p : Ar → Bool) (l : List Ar) (h : Heap) (nx : Nat) (hl : l.length ≤ 4611686018427387904) (hp : ∀ x ∈ l, ∀ n, nx ≤ n → AC Tryd.prog c (.agg (arE x) :: caps) h n fun y h' n' => y = .ret (.bool (p x)) ∧ h' = h ∧ n ≤ n') :
    AC Tryd.prog 71 [arsA l, .fn (.func c) caps] h nx fun y h' n' => y = .ret (.int .i64 (fi p l 0)) ∧ h' = h ∧ nx ≤ n' := by
  refine AC.go mixed is71 (by simp) ?_
  have lv := ars_len l
  simp -implicitDefEqProofs only [RR, RE, RP, RG, takeV, Nat.reduceEqDiff, ↓reduceIte, reduceCtorEq, Nat.reduceAdd, Nat.reduceLeDiff, Nat.reduceLT, Nat.reduceBEq, A71, lv]
  refine go_rounds (fun q st => ∃ i : Nat, q = l.length - i ∧ i ≤ l.length ∧ fi p (l.drop i) i = fi p l 0 ∧ eget st.env 0 = some (arsA l) ∧ eget st.env 1 = some (.fn (.func c) caps) ∧ eget st.env 7 = some (.int .i64 l.length) ∧ eget st.env 8 = some (.int .i64 i) ∧ st.heap = h ∧ nx ≤ st.nx ∧ st.dm = []) (n := l.length) mixed
    ⟨0, rfl, by omega, by simp, by simp [eget], by simp [eget], by simp [eget], by simp [eget], rfl, Nat.le_refl _, rfl⟩ ?_
  rintro q ⟨env, heap, nx', dm⟩ ⟨i, rfl, hi, hf, g0, g1, g7, g8, hh, hnx, hdm⟩
  simp only at g0 g1 g7 g8 hh hnx hdm
  subst hdm; subst hh
  by_cases hc : (i : Int) < (l.length : Int)
  case neg =>
    have : l.drop i = [] := List.drop_of_length_le (by omega)
    rw [this, fi] at hf
    rw [← hf]
    simp -implicitDefEqProofs only [RR, RE, RP, RG, takeV, Nat.reduceEqDiff, ↓reduceIte, reduceCtorEq, Nat.reduceAdd, Nat.reduceLeDiff, Nat.reduceLT, Nat.reduceBEq, A71l0, g7, g8, hc, R71]
    exact hnx
  have hr := List.getElem?_eq_getElem (show i < l.length by omega)
  generalize l[i] = r at hr
  rw [fi_step hr] at hf
  have ix := ars_idx hr
  have rl := ar_len r
  have rt := ar_take r
  have f1 : IntKind.i64.wrap ((i : Int) + 1) = ((i + 1 : Nat) : Int) := by rw [w64 (by omega) (by omega)]; omega
  simp -implicitDefEqProofs only [RR, RE, RP, RG, takeV, Nat.reduceEqDiff, ↓reduceIte, reduceCtorEq, Nat.reduceAdd, Nat.reduceLeDiff, Nat.reduceLT, Nat.reduceBEq, A71l0, g0, g1, g7, g8, hc, ix, rl, rt]
  refine (hp r (List.mem_of_getElem? hr) nx' hnx).mono ?_
  rintro y h' n1 ⟨rfl, rfl, hn1⟩
  cases hv : p r with
  | true =>
    simp only [hv, if_true] at hf
    rw [← hf]
    simp -implicitDefEqProofs only [RR, RE, RP, RG, takeV, Nat.reduceEqDiff, ↓reduceIte, reduceCtorEq, Nat.reduceAdd, Nat.reduceLeDiff, Nat.reduceLT, Nat.reduceBEq, g0, g1, g7, g8, R71]
    omega
  | false =>
    simp only [hv, Bool.false_eq_true, if_false] at hf
    simp -implicitDefEqProofs only [RR, RE, RP, RG, takeV, Nat.reduceEqDiff, ↓reduceIte, reduceCtorEq, Nat.reduceAdd, Nat.reduceLeDiff, Nat.reduceLT, Nat.reduceBEq, g0, g1, g7, g8, f1]
    refine ⟨l.length - (i + 1), by omega, i + 1, ?_⟩
    repeat' apply And.intro
    all_goals first | assumption | rfl | omega | (simp [eget, *]; done)
theorem w51 {c : FuncId} {caps : List AV} (p : Ar → Bool) (l : List Ar) (h : Heap) (nx : Nat) (hl : l.length ≤ 4611686018427387904) (hp : ∀ x ∈ l, ∀ n, nx ≤ n → AC Tryd.prog c (.agg (arE x) :: caps) h n fun y h' n' => y = .ret (.bool (p x)) ∧ h' = h ∧ n ≤ n') :
    AC Tryd.prog 51 [arsA l, .fn (.func c) caps] h nx fun y h' n' => y = .ret (.bool (l.any p)) ∧ h' = h ∧ nx ≤ n' := by
  refine AC.go mixed is51 (by simp) ?_
  simp -implicitDefEqProofs only [RR, RE, RP, RG, takeV, Nat.reduceEqDiff, ↓reduceIte, reduceCtorEq, Nat.reduceAdd, Nat.reduceLeDiff, Nat.reduceLT, Nat.reduceBEq, A51]
  refine (w71 p l h nx hl hp).mono ?_
  rintro y h' n1 ⟨rfl, rfl, hn1⟩
  have e := fi_any p l 0
  simp -implicitDefEqProofs only [RR, RE, RP, RG, takeV, Nat.reduceEqDiff, ↓reduceIte, reduceCtorEq, Nat.reduceAdd, Nat.reduceLeDiff, Nat.reduceLT, Nat.reduceBEq, e, R51]
  exact hn1
theorem w52 {c : FuncId} (g : Ar → Bool) (x : Ar) (b : Nat) (h : Heap) (nx : Nat) (hb : hget h b = some (.cells [.fn (.func c) []])) (hbn : b < nx) (hp : Pure Tryd.prog c [.agg (arE x)] (.bool (g x))) :
    AC Tryd.prog 52 [.agg (arE x), .op b 0] h nx fun y h' n' => y = .ret (.bool (!g x)) ∧ h' = h ∧ nx ≤ n' := by
  refine AC_keep (AC.go mixed is52 (by simp) ?_)
  have rl := ar_len x
  have rt := ar_take x
  have nb : (nx = b) = False := eq_false (by omega)
  simp -implicitDefEqProofs only [RR, RE, RP, RG, takeV, Nat.reduceEqDiff, ↓reduceIte, reduceCtorEq, Nat.reduceAdd, Nat.reduceLeDiff, Nat.reduceLT, Nat.reduceBEq, A52, rl, rt, hb, nb]
  refine hp.use fun n1 hn1 => ?_
  simp -implicitDefEqProofs only [RR, RE, RP, RG, takeV, Nat.reduceEqDiff, ↓reduceIte, reduceCtorEq, Nat.reduceAdd, Nat.reduceLeDiff, Nat.reduceLT, Nat.reduceBEq, unA, R52]
  intro k o hk ho
  rw [if_neg (by omega)]; exact ho
theorem w24 {c : FuncId} (g : Ar → Bool) (l : List Ar) (hl : l.length ≤ 4611686018427387904) (hp : ∀ x ∈ l, Pure Tryd.prog c [.agg (arE x)] (.bool (g x))) : Pure Tryd.prog 24 [arsA l, .fn (.func c) []] (.bool (l.all g)) := by
  refine Pure.of fun nx => AC.go mixed is24 (by simp) ?_
  simp -implicitDefEqProofs only [RR, RE, RP, RG, takeV, Nat.reduceEqDiff, ↓reduceIte, reduceCtorEq, Nat.reduceAdd, Nat.reduceLeDiff, Nat.reduceLT, Nat.reduceBEq, A24]
  refine (w51 (fun x => !g x) l _ _ hl fun x hx n hn => w52 g x nx _ n (by simp [hget]) (by omega) (hp x hx)).mono ?_
  rintro y h' n1 ⟨rfl, rfl, hn1⟩
  have e := any_not g l
  simp -implicitDefEqProofs only [RR, RE, RP, RG, takeV, Nat.reduceEqDiff, ↓reduceIte, reduceCtorEq, Nat.reduceAdd, Nat.reduceLeDiff, Nat.reduceLT, Nat.reduceBEq, unA, e, R24]
theorem w75 {c : FuncId} {caps : List AV} (p : Fu → Bool) (l : List Fu) (h : Heap) (nx : Nat) (hl : l.length ≤ 4611686018427387904) (hp : ∀ x ∈ l, ∀ n, nx ≤ n → AC Tryd.prog c (.agg (fuE x) :: caps) h n fun y h' n' => y = .ret (.bool (p x)) ∧ h' = h ∧ n ≤ n') :
    AC Tryd.prog 75 [fusA l, .fn (.func c) caps] h nx fun y h' n' => y = .ret (.int .i64 (fi p l 0)) ∧ h' = h ∧ nx ≤ n' := by
  refine AC.go mixed is75 (by simp) ?_
  have lv := fus_len l
  simp -implicitDefEqProofs only [RR, RE, RP, RG, takeV, Nat.reduceEqDiff, ↓reduceIte, reduceCtorEq, Nat.reduceAdd, Nat.reduceLeDiff, Nat.reduceLT, Nat.reduceBEq, A75, lv]
  refine go_rounds (fun q st => ∃ i : Nat, q = l.length - i ∧ i ≤ l.length ∧ fi p (l.drop i) i = fi p l 0 ∧ eget st.env 0 = some (fusA l) ∧ eget st.env 1 = some (.fn (.func c) caps) ∧ eget st.env 7 = some (.int .i64 l.length) ∧ eget st.env 8 = some (.int .i64 i) ∧ st.heap = h ∧ nx ≤ st.nx ∧ st.dm = []) (n := l.length) mixed
    ⟨0, rfl, by omega, by simp, by simp [eget], by simp [eget], by simp [eget], by simp [eget], rfl, Nat.le_refl _, rfl⟩ ?_
  rintro q ⟨env, heap, nx', dm⟩ ⟨i, rfl, hi, hf, g0, g1, g7, g8, hh, hnx, hdm⟩
  simp only at g0 g1 g7 g8 hh hnx hdm
  subst hdm; subst hh
  by_cases hc : (i : Int) < (l.length : Int)
  case neg =>
    have : l.drop i = [] := List.drop_of_length_le (by omega)
    rw [this, fi] at hf
    rw [← hf]
    simp -implicitDefEqProofs only [RR, RE, RP, RG, takeV, Nat.reduceEqDiff, ↓reduceIte, reduceCtorEq, Nat.reduceAdd, Nat.reduceLeDiff, Nat.reduceLT, Nat.reduceBEq, A75l0, g7, g8, hc, R75]
    exact hnx
  have hr := List.getElem?_eq_getElem (show i < l.length by omega)
  generalize l[i] = r at hr
  rw [fi_step hr] at hf
  have ix := fus_idx hr
  have rl := fu_len r
  have rt := fu_take r
  have f1 : IntKind.i64.wrap ((i : Int) + 1) = ((i + 1 : Nat) : Int) := by rw [w64 (by omega) (by omega)]; omega
  simp -implicitDefEqProofs only [RR, RE, RP, RG, takeV, Nat.reduceEqDiff, ↓reduceIte, reduceCtorEq, Nat.reduceAdd, Nat.reduceLeDiff, Nat.reduceLT, Nat.reduceBEq, A75l0, g0, g1, g7, g8, hc, ix, rl, rt]
  refine (hp r (List.mem_of_getElem? hr) nx' hnx).mono ?_
  rintro y h' n1 ⟨rfl, rfl, hn1⟩
  cases hv : p r with
  | true =>
    simp only [hv, if_true] at hf
    rw [← hf]
    simp -implicitDefEqProofs only [RR, RE, RP, RG, takeV, Nat.reduceEqDiff, ↓reduceIte, reduceCtorEq, Nat.reduceAdd, Nat.reduceLeDiff, Nat.reduceLT, Nat.reduceBEq, g0, g1, g7, g8, R75]
    omega
  | false =>
    simp only [hv, Bool.false_eq_true, if_false] at hf
    simp -implicitDefEqProofs only [RR, RE, RP, RG, takeV, Nat.reduceEqDiff, ↓reduceIte, reduceCtorEq, Nat.reduceAdd, Nat.reduceLeDiff, Nat.reduceLT, Nat.reduceBEq, g0, g1, g7, g8, f1]
    refine ⟨l.length - (i + 1), by omega, i + 1, ?_⟩
    repeat' apply And.intro
    all_goals first | assumption | rfl | omega | (simp [eget, *]; done)
theorem w53 {c : FuncId} {caps : List AV} (p : Fu → Bool) (l : List Fu) (h : Heap) (nx : Nat) (hl : l.length ≤ 4611686018427387904) (hp : ∀ x ∈ l, ∀ n, nx ≤ n → AC Tryd.prog c (.agg (fuE x) :: caps) h n fun y h' n' => y = .ret (.bool (p x)) ∧ h' = h ∧ n ≤ n') :
    AC Tryd.prog 53 [fusA l, .fn (.func c) caps] h nx fun y h' n' => y = .ret (.bool (l.any p)) ∧ h' = h ∧ nx ≤ n' := by
  refine AC.go mixed is53 (by simp) ?_
  simp -implicitDefEqProofs only [RR, RE, RP, RG, takeV, Nat.reduceEqDiff, ↓reduceIte, reduceCtorEq, Nat.reduceAdd, Nat.reduceLeDiff, Nat.reduceLT, Nat.reduceBEq, A53]
  refine (w75 p l h nx hl hp).mono ?_
  rintro y h' n1 ⟨rfl, rfl, hn1⟩
  have e := fi_any p l 0
  simp -implicitDefEqProofs only [RR, RE, RP, RG, takeV, Nat.reduceEqDiff, ↓reduceIte, reduceCtorEq, Nat.reduceAdd, Nat.reduceLeDiff, Nat.reduceLT, Nat.reduceBEq, e, R53]
  exact hn1
theorem w54 {c : FuncId} (g : Fu → Bool) (x : Fu) (b : Nat) (h : Heap) (nx : Nat) (hb : hget h b = some (.cells [.fn (.func c) []])) (hbn : b < nx) (hp : Pure Tryd.prog c [.agg (fuE x)] (.bool (g x))) :
    AC Tryd.prog 54 [.agg (fuE x), .op b 0] h nx fun y h' n' => y = .ret (.bool (!g x)) ∧ h' = h ∧ nx ≤ n' := by
  refine AC_keep (AC.go mixed is54 (by simp) ?_)
  have rl := fu_len x
  have rt := fu_take x
  have nb : (nx = b) = False := eq_false (by omega)
  simp -implicitDefEqProofs only [RR, RE, RP, RG, takeV, Nat.reduceEqDiff, ↓reduceIte, reduceCtorEq, Nat.reduceAdd, Nat.reduceLeDiff, Nat.reduceLT, Nat.reduceBEq, A54, rl, rt, hb, nb]
  refine hp.use fun n1 hn1 => ?_
  simp -implicitDefEqProofs only [RR, RE, RP, RG, takeV, Nat.reduceEqDiff, ↓reduceIte, reduceCtorEq, Nat.reduceAdd, Nat.reduceLeDiff, Nat.reduceLT, Nat.reduceBEq, unA, R54]
  intro k o hk ho
  rw [if_neg (by omega)]; exact ho
theorem w26 {c : FuncId} (g : Fu → Bool) (l : List Fu) (hl : l.length ≤ 4611686018427387904) (hp : ∀ x ∈ l, Pure Tryd.prog c [.agg (fuE x)] (.bool (g x))) : Pure Tryd.prog 26 [fusA l, .fn (.func c) []] (.bool (l.all g)) := by
  refine Pure.of fun nx => AC.go mixed is26 (by simp) ?_
  simp -implicitDefEqProofs only [RR, RE, RP, RG, takeV, Nat.reduceEqDiff, ↓reduceIte, reduceCtorEq, Nat.reduceAdd, Nat.reduceLeDiff, Nat.reduceLT, Nat.reduceBEq, A26]
  refine (w53 (fun x => !g x) l _ _ hl fun x hx n hn => w54 g x nx _ n (by simp [hget]) (by omega) (hp x hx)).mono ?_
  rintro y h' n1 ⟨rfl, rfl, hn1⟩
  have e := any_not g l
  simp -implicitDefEqProofs only [RR, RE, RP, RG, takeV, Nat.reduceEqDiff, ↓reduceIte, reduceCtorEq, Nat.reduceAdd, Nat.reduceLeDiff, Nat.reduceLT, Nat.reduceBEq, unA, e, R26]
theorem w86 {c : FuncId} {caps : List AV} (p : Pm → Bool) (l : List Pm) (h : Heap) (nx : Nat) (hl : l.length ≤ 4611686018427387904) (hp : ∀ x ∈ l, ∀ n, nx ≤ n → AC Tryd.prog c (.agg (pmE x) :: caps) h n fun y h' n' => y = .ret (.bool (p x)) ∧ h' = h ∧ n ≤ n') :
    AC Tryd.prog 86 [pmsA l, .fn (.func c) caps] h nx fun y h' n' => y = .ret (.int .i64 (fi p l 0)) ∧ h' = h ∧ nx ≤ n' := by
  refine AC.go mixed is86 (by simp) ?_
  have lv := pms_len l
  simp -implicitDefEqProofs only [RR, RE, RP, RG, takeV, Nat.reduceEqDiff, ↓reduceIte, reduceCtorEq, Nat.reduceAdd, Nat.reduceLeDiff, Nat.reduceLT, Nat.reduceBEq, A86, lv]
  refine go_rounds (fun q st => ∃ i : Nat, q = l.length - i ∧ i ≤ l.length ∧ fi p (l.drop i) i = fi p l 0 ∧ eget st.env 0 = some (pmsA l) ∧ eget st.env 1 = some (.fn (.func c) caps) ∧ eget st.env 7 = some (.int .i64 l.length) ∧ eget st.env 8 = some (.int .i64 i) ∧ st.heap = h ∧ nx ≤ st.nx ∧ st.dm = []) (n := l.length) mixed
    ⟨0, rfl, by omega, by simp, by simp [eget], by simp [eget], by simp [eget], by simp [eget], rfl, Nat.le_refl _, rfl⟩ ?_
  rintro q ⟨env, heap, nx', dm⟩ ⟨i, rfl, hi, hf, g0, g1, g7, g8, hh, hnx, hdm⟩
  simp only at g0 g1 g7 g8 hh hnx hdm
  subst hdm; subst hh
  by_cases hc : (i : Int) < (l.length : Int)
  case neg =>
    have : l.drop i = [] := List.drop_of_length_le (by omega)
    rw [this, fi] at hf
    rw [← hf]
    simp -implicitDefEqProofs only [RR, RE, RP, RG, takeV, Nat.reduceEqDiff, ↓reduceIte, reduceCtorEq, Nat.reduceAdd, Nat.reduceLeDiff, Nat.reduceLT, Nat.reduceBEq, A86l0, g7, g8, hc, R86]
    exact hnx
  have hr := List.getElem?_eq_getElem (show i < l.length by omega)
  generalize l[i] = r at hr
  rw [fi_step hr] at hf
  have ix := pms_idx hr
  have rl := pm_len r
  have rt := pm_take r
  have f1 : IntKind.i64.wrap ((i : Int) + 1) = ((i + 1 : Nat) : Int) := by rw [w64 (by omega) (by omega)]; omega
  simp -implicitDefEqProofs only [RR, RE, RP, RG, takeV, Nat.reduceEqDiff, ↓reduceIte, reduceCtorEq, Nat.reduceAdd, Nat.reduceLeDiff, Nat.reduceLT, Nat.reduceBEq, A86l0, g0, g1, g7, g8, hc, ix, rl, rt]
  refine (hp r (List.mem_of_getElem? hr) nx' hnx).mono ?_
  rintro y h' n1 ⟨rfl, rfl, hn1⟩
  cases hv : p r with
  | true =>
    simp only [hv, if_true] at hf
    rw [← hf]
    simp -implicitDefEqProofs only [RR, RE, RP, RG, takeV, Nat.reduceEqDiff, ↓reduceIte, reduceCtorEq, Nat.reduceAdd, Nat.reduceLeDiff, Nat.reduceLT, Nat.reduceBEq, g0, g1, g7, g8, R86]
    omega
  | false =>
    simp only [hv, Bool.false_eq_true, if_false] at hf
    simp -implicitDefEqProofs only [RR, RE, RP, RG, takeV, Nat.reduceEqDiff, ↓reduceIte, reduceCtorEq, Nat.reduceAdd, Nat.reduceLeDiff, Nat.reduceLT, Nat.reduceBEq, g0, g1, g7, g8, f1]
    refine ⟨l.length - (i + 1), by omega, i + 1, ?_⟩
    repeat' apply And.intro
    all_goals first | assumption | rfl | omega | (simp [eget, *]; done)
theorem w76 {c : FuncId} {caps : List AV} (p : Pm → Bool) (l : List Pm) (h : Heap) (nx : Nat) (hl : l.length ≤ 4611686018427387904) (hp : ∀ x ∈ l, ∀ n, nx ≤ n → AC Tryd.prog c (.agg (pmE x) :: caps) h n fun y h' n' => y = .ret (.bool (p x)) ∧ h' = h ∧ n ≤ n') :
    AC Tryd.prog 76 [pmsA l, .fn (.func c) caps] h nx fun y h' n' => y = .ret (.bool (l.any p)) ∧ h' = h ∧ nx ≤ n' := by
  refine AC.go mixed is76 (by simp) ?_
  simp -implicitDefEqProofs only [RR, RE, RP, RG, takeV, Nat.reduceEqDiff, ↓reduceIte, reduceCtorEq, Nat.reduceAdd, Nat.reduceLeDiff, Nat.reduceLT, Nat.reduceBEq, A76]
  refine (w86 p l h nx hl hp).mono ?_
  rintro y h' n1 ⟨rfl, rfl, hn1⟩
  have e := fi_any p l 0
  simp -implicitDefEqProofs only [RR, RE, RP, RG, takeV, Nat.reduceEqDiff, ↓reduceIte, reduceCtorEq, Nat.reduceAdd, Nat.reduceLeDiff, Nat.reduceLT, Nat.reduceBEq, e, R76]
  exact hn1
theorem w77 {c : FuncId} (g : Pm → Bool) (x : Pm) (b : Nat) (h : Heap) (nx : Nat) (hb : hget h b = some (.cells [.fn (.func c) []])) (hbn : b < nx) (hp : Pure Tryd.prog c [.agg (pmE x)] (.bool (g x))) :
    AC Tryd.prog 77 [.agg (pmE x), .op b 0] h nx fun y h' n' => y = .ret (.bool (!g x)) ∧ h' = h ∧ nx ≤ n' := by
  refine AC_keep (AC.go mixed is77 (by simp) ?_)
  have rl := pm_len x
  have rt := pm_take x
  have nb : (nx = b) = False := eq_false (by omega)
  simp -implicitDefEqProofs only [RR, RE, RP, RG, takeV, Nat.reduceEqDiff, ↓reduceIte, reduceCtorEq, Nat.reduceAdd, Nat.reduceLeDiff, Nat.reduceLT, Nat.reduceBEq, A77, rl, rt, hb, nb]
  refine hp.use fun n1 hn1 => ?_
  simp -implicitDefEqProofs only [RR, RE, RP, RG, takeV, Nat.reduceEqDiff, ↓reduceIte, reduceCtorEq, Nat.reduceAdd, Nat.reduceLeDiff, Nat.reduceLT, Nat.reduceBEq, unA, R77]
  intro k o hk ho
  rw [if_neg (by omega)]; exact ho
theorem w55 {c : FuncId} (g : Pm → Bool) (l : List Pm) (hl : l.length ≤ 4611686018427387904) (hp : ∀ x ∈ l, Pure Tryd.prog c [.agg (pmE x)] (.bool (g x))) : Pure Tryd.prog 55 [pmsA l, .fn (.func c) []] (.bool (l.all g)) := by
  refine Pure.of fun nx => AC.go mixed is55 (by simp) ?_
  simp -implicitDefEqProofs only [RR, RE, RP, RG, takeV, Nat.reduceEqDiff, ↓reduceIte, reduceCtorEq, Nat.reduceAdd, Nat.reduceLeDiff, Nat.reduceLT, Nat.reduceBEq, A55]
  refine (w76 (fun x => !g x) l _ _ hl fun x hx n hn => w77 g x nx _ n (by simp [hget]) (by omega) (hp x hx)).mono ?_
  rintro y h' n1 ⟨rfl, rfl, hn1⟩
  have e := any_not g l
  simp -implicitDefEqProofs only [RR, RE, RP, RG, takeV, Nat.reduceEqDiff, ↓reduceIte, reduceCtorEq, Nat.reduceAdd, Nat.reduceLeDiff, Nat.reduceLT, Nat.reduceBEq, unA, e, R55]
theorem w87 {c : FuncId} {caps : List AV} (p : Sm → Bool) (l : List Sm) (h : Heap) (nx : Nat) (hl : l.length ≤ 4611686018427387904) (hp : ∀ x ∈ l, ∀ n, nx ≤ n → AC Tryd.prog c (.agg (smE x) :: caps) h n fun y h' n' => y = .ret (.bool (p x)) ∧ h' = h ∧ n ≤ n') :
    AC Tryd.prog 87 [smsA l, .fn (.func c) caps] h nx fun y h' n' => y = .ret (.int .i64 (fi p l 0)) ∧ h' = h ∧ nx ≤ n' := by
  refine AC.go mixed is87 (by simp) ?_
  have lv := sms_len l
  simp -implicitDefEqProofs only [RR, RE, RP, RG, takeV, Nat.reduceEqDiff, ↓reduceIte, reduceCtorEq, Nat.reduceAdd, Nat.reduceLeDiff, Nat.reduceLT, Nat.reduceBEq, A87, lv]
  refine go_rounds (fun q st => ∃ i : Nat, q = l.length - i ∧ i ≤ l.length ∧ fi p (l.drop i) i = fi p l 0 ∧ eget st.env 0 = some (smsA l) ∧ eget st.env 1 = some (.fn (.func c) caps) ∧ eget st.env 7 = some (.int .i64 l.length) ∧ eget st.env 8 = some (.int .i64 i) ∧ st.heap = h ∧ nx ≤ st.nx ∧ st.dm = []) (n := l.length) mixed
    ⟨0, rfl, by omega, by simp, by simp [eget], by simp [eget], by simp [eget], by simp [eget], rfl, Nat.le_refl _, rfl⟩ ?_
  rintro q ⟨env, heap, nx', dm⟩ ⟨i, rfl, hi, hf, g0, g1, g7, g8, hh, hnx, hdm⟩
  simp only at g0 g1 g7 g8 hh hnx hdm
  subst hdm; subst hh
  by_cases hc : (i : Int) < (l.length : Int)
  case neg =>
    have : l.drop i = [] := List.drop_of_length_le (by omega)
    rw [this, fi] at hf
    rw [← hf]
    simp -implicitDefEqProofs only [RR, RE, RP, RG, takeV, Nat.reduceEqDiff, ↓reduceIte, reduceCtorEq, Nat.reduceAdd, Nat.reduceLeDiff, Nat.reduceLT, Nat.reduceBEq, A87l0, g7, g8, hc, R87]
    exact hnx
  have hr := List.getElem?_eq_getElem (show i < l.length by omega)
  generalize l[i] = r at hr
  rw [fi_step hr] at hf
  have ix := sms_idx hr
  have rl := sm_len r
  have rt := sm_take r
  have f1 : IntKind.i64.wrap ((i : Int) + 1) = ((i + 1 : Nat) : Int) := by rw [w64 (by omega) (by omega)]; omega
  simp -implicitDefEqProofs only [RR, RE, RP, RG, takeV, Nat.reduceEqDiff, ↓reduceIte, reduceCtorEq, Nat.reduceAdd, Nat.reduceLeDiff, Nat.reduceLT, Nat.reduceBEq, A87l0, g0, g1, g7, g8, hc, ix, rl, rt]
  refine (hp r (List.mem_of_getElem? hr) nx' hnx).mono ?_
  rintro y h' n1 ⟨rfl, rfl, hn1⟩
  cases hv : p r with
  | true =>
    simp only [hv, if_true] at hf
    rw [← hf]
    simp -implicitDefEqProofs only [RR, RE, RP, RG, takeV, Nat.reduceEqDiff, ↓reduceIte, reduceCtorEq, Nat.reduceAdd, Nat.reduceLeDiff, Nat.reduceLT, Nat.reduceBEq, g0, g1, g7, g8, R87]
    omega
  | false =>
    simp only [hv, Bool.false_eq_true, if_false] at hf
    simp -implicitDefEqProofs only [RR, RE, RP, RG, takeV, Nat.reduceEqDiff, ↓reduceIte, reduceCtorEq, Nat.reduceAdd, Nat.reduceLeDiff, Nat.reduceLT, Nat.reduceBEq, g0, g1, g7, g8, f1]
    refine ⟨l.length - (i + 1), by omega, i + 1, ?_⟩
    repeat' apply And.intro
    all_goals first | assumption | rfl | omega | (simp [eget, *]; done)
theorem w78 {c : FuncId} {caps : List AV} (p : Sm → Bool) (l : List Sm) (h : Heap) (nx : Nat) (hl : l.length ≤ 4611686018427387904) (hp : ∀ x ∈ l, ∀ n, nx ≤ n → AC Tryd.prog c (.agg (smE x) :: caps) h n fun y h' n' => y = .ret (.bool (p x)) ∧ h' = h ∧ n ≤ n') :
    AC Tryd.prog 78 [smsA l, .fn (.func c) caps] h nx fun y h' n' => y = .ret (.bool (l.any p)) ∧ h' = h ∧ nx ≤ n' := by
  refine AC.go mixed is78 (by simp) ?_
  simp -implicitDefEqProofs only [RR, RE, RP, RG, takeV, Nat.reduceEqDiff, ↓reduceIte, reduceCtorEq, Nat.reduceAdd, Nat.reduceLeDiff, Nat.reduceLT, Nat.reduceBEq, A78]
  refine (w87 p l h nx hl hp).mono ?_
  rintro y h' n1 ⟨rfl, rfl, hn1⟩
  have e := fi_any p l 0
  simp -implicitDefEqProofs only [RR, RE, RP, RG, takeV, Nat.reduceEqDiff, ↓reduceIte, reduceCtorEq, Nat.reduceAdd, Nat.reduceLeDiff, Nat.reduceLT, Nat.reduceBEq, e, R78]
  exact hn1
theorem w79 {c : FuncId} (g : Sm → Bool) (x : Sm) (b : Nat) (h : Heap) (nx : Nat) (hb : hget h b = some (.cells [.fn (.func c) []])) (hbn : b < nx) (hp : Pure Tryd.prog c [.agg (smE x)] (.bool (g x))) :
    AC Tryd.prog 79 [.agg (smE x), .op b 0] h nx fun y h' n' => y = .ret (.bool (!g x)) ∧ h' = h ∧ nx ≤ n' := by
  refine AC_keep (AC.go mixed is79 (by simp) ?_)
  have rl := sm_len x
  have rt := sm_take x
  have nb : (nx = b) = False := eq_false (by omega)
  simp -implicitDefEqProofs only [RR, RE, RP, RG, takeV, Nat.reduceEqDiff, ↓reduceIte, reduceCtorEq, Nat.reduceAdd, Nat.reduceLeDiff, Nat.reduceLT, Nat.reduceBEq, A79, rl, rt, hb, nb]
  refine hp.use fun n1 hn1 => ?_
  simp -implicitDefEqProofs only [RR, RE, RP, RG, takeV, Nat.reduceEqDiff, ↓reduceIte, reduceCtorEq, Nat.reduceAdd, Nat.reduceLeDiff, Nat.reduceLT, Nat.reduceBEq, unA, R79]
  intro k o hk ho
  rw [if_neg (by omega)]; exact ho
theorem w57 {c : FuncId} (g : Sm → Bool) (l : List Sm) (hl : l.length ≤ 4611686018427387904) (hp : ∀ x ∈ l, Pure Tryd.prog c [.agg (smE x)] (.bool (g x))) : Pure Tryd.prog 57 [smsA l, .fn (.func c) []] (.bool (l.all g)) := by
  refine Pure.of fun nx => AC.go mixed is57 (by simp) ?_
  simp -implicitDefEqProofs only [RR, RE, RP, RG, takeV, Nat.reduceEqDiff, ↓reduceIte, reduceCtorEq, Nat.reduceAdd, Nat.reduceLeDiff, Nat.reduceLT, Nat.reduceBEq, A57]
  refine (w78 (fun x => !g x) l _ _ hl fun x hx n hn => w79 g x nx _ n (by simp [hget]) (by omega) (hp x hx)).mono ?_
  rintro y h' n1 ⟨rfl, rfl, hn1⟩
  have e := any_not g l
  simp -implicitDefEqProofs only [RR, RE, RP, RG, takeV, Nat.reduceEqDiff, ↓reduceIte, reduceCtorEq, Nat.reduceAdd, Nat.reduceLeDiff, Nat.reduceLT, Nat.reduceBEq, unA, e, R57]
end Go.Proofs.YtkfldbimfbacmaaDoor
