/- The abstract code of the functions that the statements reach: texts, names, joins. -/
import Derived.Test.YtcnnanicdjdddaaBA1
namespace Go.Proofs.Ytcnnanicdjdddaa
open Go Go.Ab Go.Proofs
set_option maxRecDepth 100000
def A3 : ACode :=
  (.seq (.region [⟨(some 6), none, .op (.move (.const (.bool false)))⟩])
    (.seq (.seq (.region [⟨(some 17), none, .op (.move (.tmp 2))⟩,
      ⟨(some 18), none, .op (.lens (.tmp 17))⟩,
      ⟨(some 19), none, .op (.bin .gtr (.tmp 18) (.const (.int .i64 1000)))⟩])
    (.cond (.tmp 19) (.seq (.region [⟨(some 6), none, .op (.move (.const (.bool true)))⟩])
    .ret) .skip))
    (.seq (.region [⟨(some 21), none, .op (.move (.tmp 0))⟩,
      ⟨(some 22), none, .op (.move (.tmp 1))⟩,
      ⟨(some 23), none, .call (.func 12) [(.tmp 21), (.tmp 22)]⟩,
      ⟨(some 20), none, .op (.move (.tmp 23))⟩,
      ⟨(some 24), none, .op (.ext (.tmp 20) 0)⟩,
      ⟨(some 25), none, .op (.ext (.tmp 20) 1)⟩,
      ⟨(some 7), none, .op (.move (.tmp 24))⟩,
      ⟨(some 8), none, .op (.move (.tmp 25))⟩])
    (.seq (.region [⟨(some 27), none, .op (.move (.tmp 0))⟩,
      ⟨(some 28), none, .op (.move (.tmp 1))⟩,
      ⟨(some 29), none, .call (.func 13) [(.tmp 27), (.tmp 28)]⟩,
      ⟨(some 26), none, .op (.move (.tmp 29))⟩,
      ⟨(some 30), none, .op (.ext (.tmp 26) 0)⟩,
      ⟨(some 31), none, .op (.ext (.tmp 26) 1)⟩,
      ⟨(some 9), none, .op (.move (.tmp 30))⟩,
      ⟨(some 10), none, .op (.move (.tmp 31))⟩])
    (.seq (.region [⟨(some 33), none, .op (.move (.tmp 2))⟩,
      ⟨(some 34), none, .call (.func 14) [(.tmp 33)]⟩,
      ⟨(some 32), none, .op (.move (.tmp 34))⟩,
      ⟨(some 35), none, .op (.ext (.tmp 32) 0)⟩,
      ⟨(some 36), none, .op (.ext (.tmp 32) 1)⟩,
      ⟨(some 37), none, .op (.ext (.tmp 32) 2)⟩,
      ⟨(some 11), none, .op (.move (.tmp 35))⟩,
      ⟨(some 12), none, .op (.move (.tmp 36))⟩,
      ⟨(some 13), none, .op (.move (.tmp 37))⟩])
    (.seq (.region [⟨(some 39), none, .op (.move (.tmp 2))⟩,
      ⟨(some 40), none, .call (.func 15) [(.tmp 39)]⟩,
      ⟨(some 38), none, .op (.move (.tmp 40))⟩,
      ⟨(some 41), none, .op (.ext (.tmp 38) 0)⟩,
      ⟨(some 42), none, .op (.ext (.tmp 38) 1)⟩,
      ⟨(some 43), none, .op (.ext (.tmp 38) 2)⟩,
      ⟨(some 14), none, .op (.move (.tmp 41))⟩,
      ⟨(some 15), none, .op (.move (.tmp 42))⟩,
      ⟨(some 16), none, .op (.move (.tmp 43))⟩])
    (.seq (.region [⟨(some 44), none, .op (.move (.tmp 7))⟩,
      ⟨(some 45), none, .op (.move (.tmp 9))⟩,
      ⟨(some 46), none, .op (.bin .eql (.tmp 44) (.tmp 45))⟩,
      ⟨(some 47), none, .op (.move (.tmp 46))⟩,
      ⟨(some 48), (some (47, true)), .op (.move (.tmp 8))⟩,
      ⟨(some 49), (some (47, true)), .op (.move (.tmp 10))⟩,
      ⟨(some 50), (some (47, true)), .op (.bin .eql (.tmp 48) (.tmp 49))⟩,
      ⟨(some 51), none, .op (.pick (.tmp 47) (.tmp 50) (.const (.bool false)))⟩,
      ⟨(some 52), none, .op (.move (.tmp 51))⟩,
      ⟨(some 53), (some (52, true)), .op (.move (.tmp 11))⟩,
      ⟨(some 54), (some (52, true)), .op (.move (.tmp 14))⟩,
      ⟨(some 55), (some (52, true)), .op (.bin .eql (.tmp 53) (.tmp 54))⟩,
      ⟨(some 56), none, .op (.pick (.tmp 52) (.tmp 55) (.const (.bool false)))⟩,
      ⟨(some 57), none, .op (.move (.tmp 56))⟩,
      ⟨(some 58), (some (57, true)), .op (.move (.tmp 12))⟩,
      ⟨(some 59), (some (57, true)), .op (.move (.tmp 15))⟩,
      ⟨(some 60), (some (57, true)), .op (.bin .eql (.tmp 58) (.tmp 59))⟩,
      ⟨(some 61), none, .op (.pick (.tmp 57) (.tmp 60) (.const (.bool false)))⟩,
      ⟨(some 62), none, .op (.move (.tmp 61))⟩,
      ⟨(some 63), (some (62, true)), .op (.move (.tmp 13))⟩,
      ⟨(some 64), (some (62, true)), .op (.move (.tmp 16))⟩,
      ⟨(some 65), (some (62, true)), .op (.bin .eql (.tmp 63) (.tmp 64))⟩,
      ⟨(some 66), none, .op (.pick (.tmp 62) (.tmp 65) (.const (.bool false)))⟩,
      ⟨(some 67), none, .op (.move (.tmp 66))⟩,
      ⟨(some 68), (some (67, true)), .op (.move (.tmp 2))⟩,
      ⟨(some 69), (some (67, true)), .call (.func 16) [(.tmp 68)]⟩,
      ⟨(some 70), (some (67, true)), .op (.move (.tmp 2))⟩,
      ⟨(some 71), (some (67, true)), .call (.func 17) [(.tmp 70)]⟩,
      ⟨(some 72), (some (67, true)), .op (.eqB false (.tmp 69) (.tmp 71))⟩,
      ⟨(some 73), none, .op (.pick (.tmp 67) (.tmp 72) (.const (.bool false)))⟩,
      ⟨(some 6), none, .op (.move (.tmp 73))⟩])
    .ret)))))))
def R3 : List RV := [.tmp 6]
theorem is3 : Is Try.prog (fun _ _ => false) 3 74 A3 R3 := ⟨Try.f3, Try.func3, rfl, by kernel_rfl, by kernel_rfl, Try.call3⟩
def A10 : ACode :=
  (.seq (.region [⟨(some 10), none, .op (.move (.const (.bool false)))⟩])
    (.seq (.region [⟨(some 36), none, .op (.move (.tmp 0))⟩,
      ⟨(some 37), none, .op (.bin .rem (.tmp 36) (.const (.int .u8 32)))⟩,
      ⟨(some 38), none, .op (.move (.tmp 3))⟩,
      ⟨(some 39), none, .call (.func 36) [(.tmp 37), (.tmp 38)]⟩,
      ⟨(some 35), none, .op (.move (.tmp 39))⟩,
      ⟨(some 40), none, .op (.ext (.tmp 35) 0)⟩,
      ⟨(some 41), none, .op (.ext (.tmp 35) 1)⟩,
      ⟨(some 11), none, .op (.move (.tmp 40))⟩,
      ⟨(some 12), none, .op (.move (.tmp 41))⟩])
    (.seq (.region [⟨(some 43), none, .op (.move (.tmp 1))⟩,
      ⟨(some 44), none, .op (.bin .rem (.tmp 43) (.const (.int .u8 32)))⟩,
      ⟨(some 45), none, .op (.move (.tmp 4))⟩,
      ⟨(some 46), none, .call (.func 36) [(.tmp 44), (.tmp 45)]⟩,
      ⟨(some 42), none, .op (.move (.tmp 46))⟩,
      ⟨(some 47), none, .op (.ext (.tmp 42) 0)⟩,
      ⟨(some 48), none, .op (.ext (.tmp 42) 1)⟩,
      ⟨(some 13), none, .op (.move (.tmp 47))⟩,
      ⟨(some 14), none, .op (.move (.tmp 48))⟩])
    (.seq (.region [⟨(some 50), none, .op (.move (.tmp 11))⟩,
      ⟨(some 51), none, .op (.move (.tmp 12))⟩,
      ⟨(some 52), none, .op (.move (.tmp 13))⟩,
      ⟨(some 53), none, .op (.move (.tmp 14))⟩,
      ⟨(some 54), none, .call (.func 28) [(.tmp 50), (.tmp 51), (.tmp 52), (.tmp 53)]⟩,
      ⟨(some 49), none, .op (.move (.tmp 54))⟩,
      ⟨(some 55), none, .op (.ext (.tmp 49) 0)⟩,
      ⟨(some 56), none, .op (.ext (.tmp 49) 1)⟩,
      ⟨(some 15), none, .op (.move (.tmp 55))⟩,
      ⟨(some 16), none, .op (.move (.tmp 56))⟩])
    (.seq (.region [⟨(some 58), none, .op (.move (.tmp 11))⟩,
      ⟨(some 59), none, .op (.move (.tmp 13))⟩,
      ⟨(some 60), none, .op (.bin .add (.tmp 58) (.tmp 59))⟩,
      ⟨(some 61), none, .op (.move (.tmp 15))⟩,
      ⟨(some 62), none, .op (.move (.tmp 13))⟩,
      ⟨(some 63), none, .op (.move (.tmp 11))⟩,
      ⟨(some 64), none, .call (.func 26) [(.tmp 60), (.tmp 61), (.tmp 62), (.tmp 63)]⟩,
      ⟨(some 57), none, .op (.move (.tmp 64))⟩,
      ⟨(some 65), none, .op (.ext (.tmp 57) 0)⟩,
      ⟨(some 66), none, .op (.ext (.tmp 57) 1)⟩,
      ⟨(some 17), none, .op (.move (.tmp 65))⟩,
      ⟨(some 18), none, .op (.move (.tmp 66))⟩])
    (.seq (.region [⟨(some 68), none, .op (.move (.tmp 11))⟩,
      ⟨(some 69), none, .op (.move (.tmp 13))⟩,
      ⟨(some 70), none, .op (.bin .add (.tmp 68) (.tmp 69))⟩,
      ⟨(some 71), none, .op (.move (.tmp 15))⟩,
      ⟨(some 72), none, .op (.move (.tmp 13))⟩,
      ⟨(some 73), none, .call (.func 26) [(.tmp 70), (.tmp 71), (.const (.int .i64 0)), (.tmp 72)]⟩,
      ⟨(some 67), none, .op (.move (.tmp 73))⟩,
      ⟨(some 74), none, .op (.ext (.tmp 67) 0)⟩,
      ⟨(some 75), none, .op (.ext (.tmp 67) 1)⟩,
      ⟨(some 19), none, .op (.move (.tmp 74))⟩,
      ⟨(some 20), none, .op (.move (.tmp 75))⟩])
    (.seq (.seq (.region [⟨(some 76), none, .call (.func 38) []⟩,
      ⟨(some 77), none, .op (.un .not (.tmp 76))⟩,
      ⟨(some 78), none, .op (.move (.tmp 77))⟩,
      ⟨(some 79), (some (78, false)), .op (.move (.tmp 16))⟩,
      ⟨(some 80), (some (78, false)), .op (.bin .neq (.tmp 79) (.const (.int .i64 0)))⟩,
      ⟨(some 81), none, .op (.pick (.tmp 78) (.const (.bool true)) (.tmp 80))⟩,
      ⟨(some 82), none, .op (.move (.tmp 81))⟩,
      ⟨(some 83), (some (82, false)), .op (.move (.tmp 18))⟩,
      ⟨(some 84), (some (82, false)), .op (.bin .neq (.tmp 83) (.const (.int .i64 0)))⟩,
      ⟨(some 85), none, .op (.pick (.tmp 82) (.const (.bool true)) (.tmp 84))⟩,
      ⟨(some 86), none, .op (.move (.tmp 85))⟩,
      ⟨(some 87), (some (86, false)), .op (.move (.tmp 20))⟩,
      ⟨(some 88), (some (86, false)), .op (.bin .neq (.tmp 87) (.const (.int .i64 0)))⟩,
      ⟨(some 89), none, .op (.pick (.tmp 86) (.const (.bool true)) (.tmp 88))⟩,
      ⟨(some 90), none, .op (.move (.tmp 89))⟩,
      ⟨(some 91), (some (90, false)), .op (.move (.tmp 17))⟩,
      ⟨(some 92), (some (90, false)), .op (.move (.tmp 12))⟩,
      ⟨(some 93), (some (90, false)), .op (.bin .neq (.tmp 91) (.tmp 92))⟩,
      ⟨(some 94), none, .op (.pick (.tmp 90) (.const (.bool true)) (.tmp 93))⟩,
      ⟨(some 95), none, .op (.move (.tmp 94))⟩,
      ⟨(some 96), (some (95, false)), .op (.move (.tmp 19))⟩,
      ⟨(some 97), (some (95, false)), .op (.move (.tmp 14))⟩,
      ⟨(some 98), (some (95, false)), .op (.bin .neq (.tmp 96) (.tmp 97))⟩,
      ⟨(some 99), none, .op (.pick (.tmp 95) (.const (.bool true)) (.tmp 98))⟩])
    (.cond (.tmp 99) (.seq (.region [⟨(some 10), none, .op (.move (.const (.bool false)))⟩])
    .ret) .skip))
    (.seq (.region [⟨(some 100), none, .op (.move (.tmp 11))⟩,
      ⟨(some 101), none, .op (.move (.tmp 2))⟩,
      ⟨(some 102), none, .op (.conv .i64 (.tmp 101))⟩,
      ⟨(some 103), none, .op (.move (.tmp 11))⟩,
      ⟨(some 104), none, .op (.bin .sub (.const (.int .i64 65)) (.tmp 103))⟩,
      ⟨(some 105), none, .op (.bin .rem (.tmp 102) (.tmp 104))⟩,
      ⟨(some 106), none, .op (.bin .add (.tmp 100) (.tmp 105))⟩,
      ⟨(some 21), none, .op (.move (.tmp 106))⟩])
    (.seq (.region [⟨(some 108), none, .op (.move (.tmp 11))⟩,
      ⟨(some 109), none, .op (.move (.tmp 12))⟩,
      ⟨(some 110), none, .op (.move (.tmp 21))⟩,
      ⟨(some 111), none, .call (.func 30) [(.tmp 108), (.tmp 109), (.tmp 110), (.const (.bool false))]⟩,
      ⟨(some 107), none, .op (.move (.tmp 111))⟩,
      ⟨(some 112), none, .op (.ext (.tmp 107) 0)⟩,
      ⟨(some 113), none, .op (.ext (.tmp 107) 1)⟩,
      ⟨(some 22), none, .op (.move (.tmp 112))⟩,
      ⟨(some 23), none, .op (.move (.tmp 113))⟩])
    (.seq (.region [⟨(some 115), none, .op (.move (.tmp 11))⟩,
      ⟨(some 116), none, .op (.move (.tmp 12))⟩,
      ⟨(some 117), none, .op (.move (.tmp 21))⟩,
      ⟨(some 118), none, .call (.func 30) [(.tmp 115), (.tmp 116), (.tmp 117), (.const (.bool true))]⟩,
      ⟨(some 114), none, .op (.move (.tmp 118))⟩,
      ⟨(some 119), none, .op (.ext (.tmp 114) 0)⟩,
      ⟨(some 120), none, .op (.ext (.tmp 114) 1)⟩,
      ⟨(some 24), none, .op (.move (.tmp 119))⟩,
      ⟨(some 25), none, .op (.move (.tmp 120))⟩])
    (.seq (.region [⟨(some 122), none, .op (.move (.tmp 11))⟩,
      ⟨(some 123), none, .op (.move (.tmp 12))⟩,
      ⟨(some 124), none, .call (.func 18) [(.tmp 122), (.tmp 123)]⟩,
      ⟨(some 121), none, .op (.move (.tmp 124))⟩,
      ⟨(some 125), none, .op (.ext (.tmp 121) 0)⟩,
      ⟨(some 126), none, .op (.ext (.tmp 121) 1)⟩,
      ⟨(some 26), none, .op (.move (.tmp 125))⟩,
      ⟨(some 27), none, .op (.move (.tmp 126))⟩])
    (.seq (.region [⟨(some 128), none, .op (.move (.tmp 21))⟩,
      ⟨(some 129), none, .op (.move (.tmp 24))⟩,
      ⟨(some 130), none, .call (.func 18) [(.tmp 128), (.tmp 129)]⟩,
      ⟨(some 127), none, .op (.move (.tmp 130))⟩,
      ⟨(some 131), none, .op (.ext (.tmp 127) 0)⟩,
      ⟨(some 132), none, .op (.ext (.tmp 127) 1)⟩,
      ⟨(some 28), none, .op (.move (.tmp 131))⟩,
      ⟨(some 29), none, .op (.move (.tmp 132))⟩])
    (.seq (.region [⟨(some 134), none, .op (.move (.tmp 11))⟩,
      ⟨(some 135), none, .op (.move (.tmp 13))⟩,
      ⟨(some 136), none, .op (.bin .add (.tmp 134) (.tmp 135))⟩,
      ⟨(some 137), none, .op (.move (.tmp 15))⟩,
      ⟨(some 138), none, .call (.func 12) [(.tmp 136), (.tmp 137)]⟩,
      ⟨(some 133), none, .op (.move (.tmp 138))⟩,
      ⟨(some 139), none, .op (.ext (.tmp 133) 0)⟩,
      ⟨(some 140), none, .op (.ext (.tmp 133) 1)⟩,
      ⟨(some 30), none, .op (.move (.tmp 139))⟩,
      ⟨(some 31), none, .op (.move (.tmp 140))⟩])
    (.seq (.region [⟨(some 142), none, .op (.move (.tmp 30))⟩,
      ⟨(some 143), none, .call (.func 14) [(.tmp 142)]⟩,
      ⟨(some 141), none, .op (.move (.tmp 143))⟩,
      ⟨(some 144), none, .op (.ext (.tmp 141) 0)⟩,
      ⟨(some 145), none, .op (.ext (.tmp 141) 1)⟩,
      ⟨(some 146), none, .op (.ext (.tmp 141) 2)⟩,
      ⟨(some 32), none, .op (.move (.tmp 144))⟩,
      ⟨(some 33), none, .op (.move (.tmp 145))⟩,
      ⟨(some 34), none, .op (.move (.tmp 146))⟩])
    (.seq (.region [⟨(some 147), none, .op (.move (.tmp 23))⟩,
      ⟨(some 148), none, .op (.bin .eql (.tmp 147) (.const (.int .i64 0)))⟩,
      ⟨(some 149), none, .op (.move (.tmp 148))⟩,
      ⟨(some 150), (some (149, true)), .op (.move (.tmp 25))⟩,
      ⟨(some 151), (some (149, true)), .op (.bin .eql (.tmp 150) (.const (.int .i64 0)))⟩,
      ⟨(some 152), none, .op (.pick (.tmp 149) (.tmp 151) (.const (.bool false)))⟩,
      ⟨(some 153), none, .op (.move (.tmp 152))⟩,
      ⟨(some 154), (some (153, true)), .op (.move (.tmp 22))⟩,
      ⟨(some 155), (some (153, true)), .op (.move (.tmp 12))⟩,
      ⟨(some 156), (some (153, true)), .op (.bin .eql (.tmp 154) (.tmp 155))⟩,
      ⟨(some 157), none, .op (.pick (.tmp 153) (.tmp 156) (.const (.bool false)))⟩,
      ⟨(some 158), none, .op (.move (.tmp 157))⟩,
      ⟨(some 159), (some (158, true)), .op (.move (.tmp 27))⟩,
      ⟨(some 160), (some (158, true)), .op (.bin .eql (.tmp 159) (.const (.int .i64 0)))⟩,
      ⟨(some 161), none, .op (.pick (.tmp 158) (.tmp 160) (.const (.bool false)))⟩,
      ⟨(some 162), none, .op (.move (.tmp 161))⟩,
      ⟨(some 163), (some (162, true)), .op (.move (.tmp 29))⟩,
      ⟨(some 164), (some (162, true)), .op (.bin .eql (.tmp 163) (.const (.int .i64 0)))⟩,
      ⟨(some 165), none, .op (.pick (.tmp 162) (.tmp 164) (.const (.bool false)))⟩,
      ⟨(some 166), none, .op (.move (.tmp 165))⟩,
      ⟨(some 167), (some (166, true)), .op (.move (.tmp 26))⟩,
      ⟨(some 168), (some (166, true)), .op (.move (.tmp 28))⟩,
      ⟨(some 169), (some (166, true)), .op (.bin .eql (.tmp 167) (.tmp 168))⟩,
      ⟨(some 170), none, .op (.pick (.tmp 166) (.tmp 169) (.const (.bool false)))⟩,
      ⟨(some 171), none, .op (.move (.tmp 170))⟩,
      ⟨(some 172), (some (171, true)), .op (.move (.tmp 31))⟩,
      ⟨(some 173), (some (171, true)), .op (.bin .eql (.tmp 172) (.const (.int .i64 0)))⟩,
      ⟨(some 174), none, .op (.pick (.tmp 171) (.tmp 173) (.const (.bool false)))⟩,
      ⟨(some 175), none, .op (.move (.tmp 174))⟩,
      ⟨(some 176), (some (175, true)), .op (.move (.tmp 34))⟩,
      ⟨(some 177), (some (175, true)), .op (.bin .eql (.tmp 176) (.const (.int .i64 0)))⟩,
      ⟨(some 178), none, .op (.pick (.tmp 175) (.tmp 177) (.const (.bool false)))⟩,
      ⟨(some 179), none, .op (.move (.tmp 178))⟩,
      ⟨(some 180), (some (179, true)), .op (.move (.tmp 32))⟩,
      ⟨(some 181), (some (179, true)), .op (.move (.tmp 11))⟩,
      ⟨(some 182), (some (179, true)), .op (.move (.tmp 13))⟩,
      ⟨(some 183), (some (179, true)), .op (.bin .add (.tmp 181) (.tmp 182))⟩,
      ⟨(some 184), (some (179, true)), .op (.bin .eql (.tmp 180) (.tmp 183))⟩,
      ⟨(some 185), none, .op (.pick (.tmp 179) (.tmp 184) (.const (.bool false)))⟩,
      ⟨(some 186), none, .op (.move (.tmp 185))⟩,
      ⟨(some 187), (some (186, true)), .op (.move (.tmp 33))⟩,
      ⟨(some 188), (some (186, true)), .op (.move (.tmp 15))⟩,
      ⟨(some 189), (some (186, true)), .op (.bin .eql (.tmp 187) (.tmp 188))⟩,
      ⟨(some 190), none, .op (.pick (.tmp 186) (.tmp 189) (.const (.bool false)))⟩,
      ⟨(some 10), none, .op (.move (.tmp 190))⟩])
    .ret)))))))))))))))
def R10 : List RV := [.tmp 10]
theorem is10 : Is Try.prog (fun _ _ => false) 10 191 A10 R10 := ⟨Try.f10, Try.func10, rfl, by kernel_rfl, by kernel_rfl, Try.call10⟩
def A11l0 : ACode :=
  (.seq (.region [⟨(some 204), none, .op (.bin .lss (.tmp 203) (.tmp 202))⟩])
    (.seq (.cond (.tmp 204) .skip (.exit 0))
    (.seq (.block 1 (.seq (.region [⟨(some 205), none, .op (.idxA 1 (.tmp 201) (.tmp 203))⟩,
      ⟨(some 206), none, .op (.load 1 false (.tmp 205))⟩,
      ⟨(some 39), none, .op (.move (.tmp 206))⟩])
    (.seq (.region [⟨(some 208), none, .op (.move (.tmp 39))⟩,
      ⟨(some 209), none, .call (.func 14) [(.tmp 208)]⟩,
      ⟨(some 207), none, .op (.move (.tmp 209))⟩,
      ⟨(some 210), none, .op (.ext (.tmp 207) 0)⟩,
      ⟨(some 211), none, .op (.ext (.tmp 207) 1)⟩,
      ⟨(some 212), none, .op (.ext (.tmp 207) 2)⟩,
      ⟨(some 40), none, .op (.move (.tmp 210))⟩,
      ⟨(some 41), none, .op (.move (.tmp 211))⟩,
      ⟨(some 42), none, .op (.move (.tmp 212))⟩])
    (.seq (.region [⟨(some 213), none, .op (.move (.tmp 42))⟩,
      ⟨(some 214), none, .op (.bin .neq (.tmp 213) (.const (.int .i64 12)))⟩])
    (.cond (.tmp 214) (.seq (.region [⟨(some 0), none, .op (.move (.const (.bool false)))⟩])
    .ret) .skip)))))
    (.region [⟨(some 215), none, .op (.bin .add (.tmp 203) (.const (.int .i64 1)))⟩,
      ⟨(some 203), none, .op (.move (.tmp 215))⟩]))))
def A11 : ACode :=
  (.seq (.region [⟨(some 0), none, .op (.move (.const (.bool false)))⟩])
    (.seq (.region [⟨(some 48), none, .call (.func 32) [(.const (.int .u8 3)), (.const (.int .i64 0)), (.const (.int .u64 0))]⟩,
      ⟨(some 47), none, .op (.move (.tmp 48))⟩,
      ⟨(some 49), none, .op (.ext (.tmp 47) 0)⟩,
      ⟨(some 50), none, .op (.ext (.tmp 47) 1)⟩,
      ⟨(some 1), none, .op (.move (.tmp 49))⟩,
      ⟨(some 2), none, .op (.move (.tmp 50))⟩])
    (.seq (.region [⟨(some 52), none, .call (.func 32) [(.const (.int .u8 5)), (.const (.int .i64 65)), (.const (.int .u64 0))]⟩,
      ⟨(some 51), none, .op (.move (.tmp 52))⟩,
      ⟨(some 53), none, .op (.ext (.tmp 51) 0)⟩,
      ⟨(some 54), none, .op (.ext (.tmp 51) 1)⟩,
      ⟨(some 3), none, .op (.move (.tmp 53))⟩,
      ⟨(some 4), none, .op (.move (.tmp 54))⟩])
    (.seq (.region [⟨(some 56), none, .call (.func 32) [(.const (.int .u8 5)), (.const (.int .i64 8)), (.const (.int .u64 256))]⟩,
      ⟨(some 55), none, .op (.move (.tmp 56))⟩,
      ⟨(some 57), none, .op (.ext (.tmp 55) 0)⟩,
      ⟨(some 58), none, .op (.ext (.tmp 55) 1)⟩,
      ⟨(some 5), none, .op (.move (.tmp 57))⟩,
      ⟨(some 6), none, .op (.move (.tmp 58))⟩])
    (.seq (.region [⟨(some 60), none, .call (.func 32) [(.const (.int .u8 4)), (.const (.int .i64 8)), (.const (.int .u64 256))]⟩,
      ⟨(some 59), none, .op (.move (.tmp 60))⟩,
      ⟨(some 61), none, .op (.ext (.tmp 59) 0)⟩,
      ⟨(some 62), none, .op (.ext (.tmp 59) 1)⟩,
      ⟨(some 7), none, .op (.move (.tmp 61))⟩,
      ⟨(some 8), none, .op (.move (.tmp 62))⟩])
    (.seq (.region [⟨(some 64), none, .call (.func 34) [(.const (.int .u8 3)), (.const (.int .i64 8)), (.const (.int .u64 256)), (.const (.int .u64 0))]⟩,
      ⟨(some 63), none, .op (.move (.tmp 64))⟩,
      ⟨(some 65), none, .op (.ext (.tmp 63) 0)⟩,
      ⟨(some 66), none, .op (.ext (.tmp 63) 1)⟩,
      ⟨(some 9), none, .op (.move (.tmp 65))⟩,
      ⟨(some 10), none, .op (.move (.tmp 66))⟩])
    (.seq (.region [⟨(some 68), none, .call (.func 34) [(.const (.int .u8 19)), (.const (.int .i64 8)), (.const (.int .u64 0)), (.const (.int .u64 0))]⟩,
      ⟨(some 67), none, .op (.move (.tmp 68))⟩,
      ⟨(some 69), none, .op (.ext (.tmp 67) 0)⟩,
      ⟨(some 70), none, .op (.ext (.tmp 67) 1)⟩,
      ⟨(some 11), none, .op (.move (.tmp 69))⟩,
      ⟨(some 12), none, .op (.move (.tmp 70))⟩])
    (.seq (.region [⟨(some 72), none, .call (.func 34) [(.const (.int .u8 5)), (.const (.int .i64 8)), (.const (.int .u64 0)), (.const (.int .u64 256))]⟩,
      ⟨(some 71), none, .op (.move (.tmp 72))⟩,
      ⟨(some 73), none, .op (.ext (.tmp 71) 0)⟩,
      ⟨(some 74), none, .op (.ext (.tmp 71) 1)⟩,
      ⟨(some 13), none, .op (.move (.tmp 73))⟩,
      ⟨(some 14), none, .op (.move (.tmp 74))⟩])
    (.seq (.region [⟨(some 76), none, .call (.func 20) [(.const (.int .i64 8)), (.const (.int .i64 (-128)))]⟩,
      ⟨(some 75), none, .op (.move (.tmp 76))⟩,
      ⟨(some 77), none, .op (.ext (.tmp 75) 0)⟩,
      ⟨(some 78), none, .op (.ext (.tmp 75) 1)⟩,
      ⟨(some 15), none, .op (.move (.tmp 77))⟩,
      ⟨(some 16), none, .op (.move (.tmp 78))⟩])
    (.seq (.region [⟨(some 80), none, .call (.func 20) [(.const (.int .i64 8)), (.const (.int .i64 128))]⟩,
      ⟨(some 79), none, .op (.move (.tmp 80))⟩,
      ⟨(some 81), none, .op (.ext (.tmp 79) 0)⟩,
      ⟨(some 82), none, .op (.ext (.tmp 79) 1)⟩,
      ⟨(some 17), none, .op (.move (.tmp 81))⟩,
      ⟨(some 18), none, .op (.move (.tmp 82))⟩])
    (.seq (.region [⟨(some 84), none, .call (.func 20) [(.const (.int .i64 64)), (.const (.int .i64 (-9223372036854775808)))]⟩,
      ⟨(some 83), none, .op (.move (.tmp 84))⟩,
      ⟨(some 85), none, .op (.ext (.tmp 83) 0)⟩,
      ⟨(some 86), none, .op (.ext (.tmp 83) 1)⟩,
      ⟨(some 19), none, .op (.move (.tmp 85))⟩,
      ⟨(some 20), none, .op (.move (.tmp 86))⟩])
    (.seq (.region [⟨(some 88), none, .call (.func 26) [(.const (.int .i64 8)), (.const (.int .u64 0)), (.const (.int .i64 0)), (.const (.int .i64 0))]⟩,
      ⟨(some 87), none, .op (.move (.tmp 88))⟩,
      ⟨(some 89), none, .op (.ext (.tmp 87) 0)⟩,
      ⟨(some 90), none, .op (.ext (.tmp 87) 1)⟩,
      ⟨(some 21), none, .op (.move (.tmp 89))⟩,
      ⟨(some 22), none, .op (.move (.tmp 90))⟩])
    (.seq (.region [⟨(some 92), none, .call (.func 26) [(.const (.int .i64 8)), (.const (.int .u64 0)), (.const (.int .i64 1)), (.const (.int .i64 8))]⟩,
      ⟨(some 91), none, .op (.move (.tmp 92))⟩,
      ⟨(some 93), none, .op (.ext (.tmp 91) 0)⟩,
      ⟨(some 94), none, .op (.ext (.tmp 91) 1)⟩,
      ⟨(some 23), none, .op (.move (.tmp 93))⟩,
      ⟨(some 24), none, .op (.move (.tmp 94))⟩])
    (.seq (.region [⟨(some 96), none, .call (.func 26) [(.const (.int .i64 8)), (.const (.int .u64 0)), (.const (.int .i64 4611686018427387904)), (.const (.int .i64 4611686018427387904))]⟩,
      ⟨(some 95), none, .op (.move (.tmp 96))⟩,
      ⟨(some 97), none, .op (.ext (.tmp 95) 0)⟩,
      ⟨(some 98), none, .op (.ext (.tmp 95) 1)⟩,
      ⟨(some 25), none, .op (.move (.tmp 97))⟩,
      ⟨(some 26), none, .op (.move (.tmp 98))⟩])
    (.seq (.region [⟨(some 100), none, .call (.func 28) [(.const (.int .i64 32)), (.const (.int .u64 0)), (.const (.int .i64 33)), (.const (.int .u64 0))]⟩,
      ⟨(some 99), none, .op (.move (.tmp 100))⟩,
      ⟨(some 101), none, .op (.ext (.tmp 99) 0)⟩,
      ⟨(some 102), none, .op (.ext (.tmp 99) 1)⟩,
      ⟨(some 27), none, .op (.move (.tmp 101))⟩,
      ⟨(some 28), none, .op (.move (.tmp 102))⟩])
    (.seq (.region [⟨(some 104), none, .call (.func 28) [(.const (.int .i64 0)), (.const (.int .u64 0)), (.const (.int .i64 8)), (.const (.int .u64 0))]⟩,
      ⟨(some 103), none, .op (.move (.tmp 104))⟩,
      ⟨(some 105), none, .op (.ext (.tmp 103) 0)⟩,
      ⟨(some 106), none, .op (.ext (.tmp 103) 1)⟩,
      ⟨(some 29), none, .op (.move (.tmp 105))⟩,
      ⟨(some 30), none, .op (.move (.tmp 106))⟩])
    (.seq (.region [⟨(some 108), none, .call (.func 28) [(.const (.int .i64 8)), (.const (.int .u64 256)), (.const (.int .i64 8)), (.const (.int .u64 0))]⟩,
      ⟨(some 107), none, .op (.move (.tmp 108))⟩,
      ⟨(some 109), none, .op (.ext (.tmp 107) 0)⟩,
      ⟨(some 110), none, .op (.ext (.tmp 107) 1)⟩,
      ⟨(some 31), none, .op (.move (.tmp 109))⟩,
      ⟨(some 32), none, .op (.move (.tmp 110))⟩])
    (.seq (.region [⟨(some 112), none, .call (.func 30) [(.const (.int .i64 8)), (.const (.int .u64 128)), (.const (.int .i64 64)), (.const (.bool true))]⟩,
      ⟨(some 111), none, .op (.move (.tmp 112))⟩,
      ⟨(some 113), none, .op (.ext (.tmp 111) 0)⟩,
      ⟨(some 114), none, .op (.ext (.tmp 111) 1)⟩,
      ⟨(some 33), none, .op (.move (.tmp 113))⟩,
      ⟨(some 34), none, .op (.move (.tmp 114))⟩])
    (.seq (.region [⟨(some 116), none, .call (.func 30) [(.const (.int .i64 8)), (.const (.int .u64 128)), (.const (.int .i64 7)), (.const (.bool true))]⟩,
      ⟨(some 115), none, .op (.move (.tmp 116))⟩,
      ⟨(some 117), none, .op (.ext (.tmp 115) 0)⟩,
      ⟨(some 118), none, .op (.ext (.tmp 115) 1)⟩,
      ⟨(some 35), none, .op (.move (.tmp 117))⟩,
      ⟨(some 36), none, .op (.move (.tmp 118))⟩])
    (.seq (.region [⟨(some 119), none, .op (.move (.tmp 2))⟩,
      ⟨(some 120), none, .op (.bin .eql (.tmp 119) (.const (.int .i64 14)))⟩,
      ⟨(some 121), none, .op (.move (.tmp 120))⟩,
      ⟨(some 122), (some (121, true)), .op (.move (.tmp 4))⟩,
      ⟨(some 123), (some (121, true)), .op (.bin .eql (.tmp 122) (.const (.int .i64 14)))⟩,
      ⟨(some 124), none, .op (.pick (.tmp 121) (.tmp 123) (.const (.bool false)))⟩,
      ⟨(some 125), none, .op (.move (.tmp 124))⟩,
      ⟨(some 126), (some (125, true)), .op (.move (.tmp 6))⟩,
      ⟨(some 127), (some (125, true)), .op (.bin .eql (.tmp 126) (.const (.int .i64 2)))⟩,
      ⟨(some 128), none, .op (.pick (.tmp 125) (.tmp 127) (.const (.bool false)))⟩,
      ⟨(some 129), none, .op (.move (.tmp 128))⟩,
      ⟨(some 130), (some (129, true)), .op (.move (.tmp 8))⟩,
      ⟨(some 131), (some (129, true)), .op (.bin .eql (.tmp 130) (.const (.int .i64 8)))⟩,
      ⟨(some 132), none, .op (.pick (.tmp 129) (.tmp 131) (.const (.bool false)))⟩,
      ⟨(some 133), none, .op (.move (.tmp 132))⟩,
      ⟨(some 134), (some (133, true)), .op (.move (.tmp 10))⟩,
      ⟨(some 135), (some (133, true)), .op (.bin .eql (.tmp 134) (.const (.int .i64 2)))⟩,
      ⟨(some 136), none, .op (.pick (.tmp 133) (.tmp 135) (.const (.bool false)))⟩,
      ⟨(some 137), none, .op (.move (.tmp 136))⟩,
      ⟨(some 138), (some (137, true)), .op (.move (.tmp 12))⟩,
      ⟨(some 139), (some (137, true)), .op (.bin .eql (.tmp 138) (.const (.int .i64 2)))⟩,
      ⟨(some 140), none, .op (.pick (.tmp 137) (.tmp 139) (.const (.bool false)))⟩,
      ⟨(some 141), none, .op (.move (.tmp 140))⟩,
      ⟨(some 142), (some (141, true)), .op (.move (.tmp 14))⟩,
      ⟨(some 143), (some (141, true)), .op (.bin .eql (.tmp 142) (.const (.int .i64 8)))⟩,
      ⟨(some 144), none, .op (.pick (.tmp 141) (.tmp 143) (.const (.bool false)))⟩,
      ⟨(some 145), none, .op (.move (.tmp 144))⟩,
      ⟨(some 146), (some (145, true)), .op (.move (.tmp 16))⟩,
      ⟨(some 147), (some (145, true)), .op (.bin .eql (.tmp 146) (.const (.int .i64 0)))⟩,
      ⟨(some 148), none, .op (.pick (.tmp 145) (.tmp 147) (.const (.bool false)))⟩,
      ⟨(some 149), none, .op (.move (.tmp 148))⟩,
      ⟨(some 150), (some (149, true)), .op (.move (.tmp 15))⟩,
      ⟨(some 151), (some (149, true)), .op (.bin .eql (.tmp 150) (.const (.int .u64 128)))⟩,
      ⟨(some 152), none, .op (.pick (.tmp 149) (.tmp 151) (.const (.bool false)))⟩,
      ⟨(some 153), none, .op (.move (.tmp 152))⟩,
      ⟨(some 154), (some (153, true)), .op (.move (.tmp 18))⟩,
      ⟨(some 155), (some (153, true)), .op (.bin .eql (.tmp 154) (.const (.int .i64 24)))⟩,
      ⟨(some 156), none, .op (.pick (.tmp 153) (.tmp 155) (.const (.bool false)))⟩,
      ⟨(some 157), none, .op (.move (.tmp 156))⟩,
      ⟨(some 158), (some (157, true)), .op (.move (.tmp 20))⟩,
      ⟨(some 159), (some (157, true)), .op (.bin .eql (.tmp 158) (.const (.int .i64 0)))⟩,
      ⟨(some 160), none, .op (.pick (.tmp 157) (.tmp 159) (.const (.bool false)))⟩,
      ⟨(some 161), none, .op (.move (.tmp 160))⟩,
      ⟨(some 162), (some (161, true)), .op (.move (.tmp 19))⟩,
      ⟨(some 163), (some (161, true)), .op (.bin .eql (.tmp 162) (.const (.int .u64 9223372036854775808)))⟩,
      ⟨(some 164), none, .op (.pick (.tmp 161) (.tmp 163) (.const (.bool false)))⟩,
      ⟨(some 165), none, .op (.move (.tmp 164))⟩,
      ⟨(some 166), (some (165, true)), .op (.move (.tmp 22))⟩,
      ⟨(some 167), (some (165, true)), .op (.bin .eql (.tmp 166) (.const (.int .i64 2)))⟩,
      ⟨(some 168), none, .op (.pick (.tmp 165) (.tmp 167) (.const (.bool false)))⟩,
      ⟨(some 169), none, .op (.move (.tmp 168))⟩,
      ⟨(some 170), (some (169, true)), .op (.move (.tmp 24))⟩,
      ⟨(some 171), (some (169, true)), .op (.bin .eql (.tmp 170) (.const (.int .i64 2)))⟩,
      ⟨(some 172), none, .op (.pick (.tmp 169) (.tmp 171) (.const (.bool false)))⟩,
      ⟨(some 173), none, .op (.move (.tmp 172))⟩,
      ⟨(some 174), (some (173, true)), .op (.move (.tmp 26))⟩,
      ⟨(some 175), (some (173, true)), .op (.bin .eql (.tmp 174) (.const (.int .i64 2)))⟩,
      ⟨(some 176), none, .op (.pick (.tmp 173) (.tmp 175) (.const (.bool false)))⟩,
      ⟨(some 177), none, .op (.move (.tmp 176))⟩,
      ⟨(some 178), (some (177, true)), .op (.move (.tmp 28))⟩,
      ⟨(some 179), (some (177, true)), .op (.bin .eql (.tmp 178) (.const (.int .i64 14)))⟩,
      ⟨(some 180), none, .op (.pick (.tmp 177) (.tmp 179) (.const (.bool false)))⟩,
      ⟨(some 181), none, .op (.move (.tmp 180))⟩,
      ⟨(some 182), (some (181, true)), .op (.move (.tmp 30))⟩,
      ⟨(some 183), (some (181, true)), .op (.bin .eql (.tmp 182) (.const (.int .i64 14)))⟩,
      ⟨(some 184), none, .op (.pick (.tmp 181) (.tmp 183) (.const (.bool false)))⟩,
      ⟨(some 185), none, .op (.move (.tmp 184))⟩,
      ⟨(some 186), (some (185, true)), .op (.move (.tmp 32))⟩,
      ⟨(some 187), (some (185, true)), .op (.bin .eql (.tmp 186) (.const (.int .i64 8)))⟩,
      ⟨(some 188), none, .op (.pick (.tmp 185) (.tmp 187) (.const (.bool false)))⟩,
      ⟨(some 189), none, .op (.move (.tmp 188))⟩,
      ⟨(some 190), (some (189, true)), .op (.move (.tmp 34))⟩,
      ⟨(some 191), (some (189, true)), .op (.bin .eql (.tmp 190) (.const (.int .i64 0)))⟩,
      ⟨(some 192), none, .op (.pick (.tmp 189) (.tmp 191) (.const (.bool false)))⟩,
      ⟨(some 193), none, .op (.move (.tmp 192))⟩,
      ⟨(some 194), (some (193, true)), .op (.move (.tmp 33))⟩,
      ⟨(some 195), (some (193, true)), .op (.bin .eql (.tmp 194) (.const (.int .u64 18446744073709551488)))⟩,
      ⟨(some 196), none, .op (.pick (.tmp 193) (.tmp 195) (.const (.bool false)))⟩,
      ⟨(some 197), none, .op (.move (.tmp 196))⟩,
      ⟨(some 198), (some (197, true)), .op (.move (.tmp 36))⟩,
      ⟨(some 199), (some (197, true)), .op (.bin .eql (.tmp 198) (.const (.int .i64 14)))⟩,
      ⟨(some 200), none, .op (.pick (.tmp 197) (.tmp 199) (.const (.bool false)))⟩,
      ⟨(some 37), none, .op (.move (.tmp 200))⟩])
    (.seq (.seq (.region [⟨(some 201), none, .op (.buildF [(.str [])] 14 [(0, (.const (.string ⟨#[]⟩))), (1, (.const (.string ⟨#[56]⟩))), (2, (.const (.string ⟨#[56, 58]⟩))), (3, (.const (.string ⟨#[56, 58, 102]⟩))), (4, (.const (.string ⟨#[56, 58, 48, 70]⟩))), (5, (.const (.string ⟨#[48, 56, 58, 48, 102]⟩))), (6, (.const (.string ⟨#[56, 58, 48, 48, 102]⟩))), (7, (.const (.string ⟨#[48, 58, 48]⟩))), (8, (.const (.string ⟨#[54, 53, 58, 48, 48, 48, 48, 48, 48, 48, 48, 48, 48, 48, 48, 48, 48, 48, 48, 48]⟩))), (9, (.const (.string ⟨#[54, 52, 58, 102, 102, 102, 102, 102, 102, 102, 102, 102, 102, 102, 102, 102, 102, 102, 102, 48]⟩))), (10, (.const (.string ⟨#[55, 58, 56, 48]⟩))), (11, (.const (.string ⟨#[49, 58, 50]⟩))), (12, (.const (.string ⟨#[56, 59, 48, 102]⟩))), (13, (.const (.string ⟨#[32, 56, 58, 48, 102]⟩)))])⟩,
      ⟨(some 202), none, .op (.len (.tmp 201))⟩,
      ⟨(some 203), none, .op (.move (.const (.int .i64 0)))⟩])
    (.block 0 (.loop A11l0)))
    (.seq (.region [⟨(some 217), none, .call (.func 14) [(.const (.string ⟨#[54, 52, 58, 102, 102, 102, 102, 102, 102, 102, 102, 102, 102, 102, 102, 102, 102, 102, 102]⟩))]⟩,
      ⟨(some 216), none, .op (.move (.tmp 217))⟩,
      ⟨(some 218), none, .op (.ext (.tmp 216) 0)⟩,
      ⟨(some 219), none, .op (.ext (.tmp 216) 1)⟩,
      ⟨(some 220), none, .op (.ext (.tmp 216) 2)⟩,
      ⟨(some 43), none, .op (.move (.tmp 218))⟩,
      ⟨(some 44), none, .op (.move (.tmp 219))⟩,
      ⟨(some 45), none, .op (.move (.tmp 220))⟩])
    (.seq (.region [⟨(some 221), none, .call (.func 16) [(.const (.string ⟨#[97]⟩))]⟩,
      ⟨(some 222), none, .op (.move (.tmp 221))⟩,
      ⟨(some 223), (some (222, true)), .call (.func 16) [(.const (.string ⟨#[90, 57, 95]⟩))]⟩,
      ⟨(some 224), none, .op (.pick (.tmp 222) (.tmp 223) (.const (.bool false)))⟩,
      ⟨(some 225), none, .op (.move (.tmp 224))⟩,
      ⟨(some 226), (some (225, true)), .call (.func 16) [(.const (.string ⟨#[97, 98, 99, 100, 101, 102, 103, 104, 105, 106, 107, 108, 109, 110, 111, 112, 113, 114, 115, 116, 117, 118, 119, 120]⟩))]⟩,
      ⟨(some 227), none, .op (.pick (.tmp 225) (.tmp 226) (.const (.bool false)))⟩,
      ⟨(some 228), none, .op (.move (.tmp 227))⟩,
      ⟨(some 229), (some (228, true)), .call (.func 16) [(.const (.string ⟨#[97, 98, 99, 100, 101, 102, 103, 104, 105, 106, 107, 108, 109, 110, 111, 112, 113, 114, 115, 116, 117, 118, 119, 120, 121]⟩))]⟩,
      ⟨(some 230), (some (228, true)), .op (.un .not (.tmp 229))⟩,
      ⟨(some 231), none, .op (.pick (.tmp 228) (.tmp 230) (.const (.bool false)))⟩,
      ⟨(some 232), none, .op (.move (.tmp 231))⟩,
      ⟨(some 233), (some (232, true)), .call (.func 16) [(.const (.string ⟨#[]⟩))]⟩,
      ⟨(some 234), (some (232, true)), .op (.un .not (.tmp 233))⟩,
      ⟨(some 235), none, .op (.pick (.tmp 232) (.tmp 234) (.const (.bool false)))⟩,
      ⟨(some 236), none, .op (.move (.tmp 235))⟩,
      ⟨(some 237), (some (236, true)), .call (.func 16) [(.const (.string ⟨#[95, 97]⟩))]⟩,
      ⟨(some 238), (some (236, true)), .op (.un .not (.tmp 237))⟩,
      ⟨(some 239), none, .op (.pick (.tmp 236) (.tmp 238) (.const (.bool false)))⟩,
      ⟨(some 240), none, .op (.move (.tmp 239))⟩,
      ⟨(some 241), (some (240, true)), .call (.func 16) [(.const (.string ⟨#[57]⟩))]⟩,
      ⟨(some 242), (some (240, true)), .op (.un .not (.tmp 241))⟩,
      ⟨(some 243), none, .op (.pick (.tmp 240) (.tmp 242) (.const (.bool false)))⟩,
      ⟨(some 244), none, .op (.move (.tmp 243))⟩,
      ⟨(some 245), (some (244, true)), .call (.func 16) [(.const (.string ⟨#[97, 45, 98]⟩))]⟩,
      ⟨(some 246), (some (244, true)), .op (.un .not (.tmp 245))⟩,
      ⟨(some 247), none, .op (.pick (.tmp 244) (.tmp 246) (.const (.bool false)))⟩,
      ⟨(some 46), none, .op (.move (.tmp 247))⟩])
    (.seq (.region [⟨(some 248), none, .op (.move (.const (.bool true)))⟩,
      ⟨(some 249), (some (248, true)), .call (.func 38) []⟩,
      ⟨(some 250), none, .op (.pick (.tmp 248) (.tmp 249) (.const (.bool false)))⟩,
      ⟨(some 251), none, .op (.move (.tmp 250))⟩,
      ⟨(some 252), (some (251, true)), .op (.move (.tmp 37))⟩,
      ⟨(some 253), none, .op (.pick (.tmp 251) (.tmp 252) (.const (.bool false)))⟩,
      ⟨(some 254), none, .op (.move (.tmp 253))⟩,
      ⟨(some 255), (some (254, true)), .op (.move (.tmp 46))⟩,
      ⟨(some 256), none, .op (.pick (.tmp 254) (.tmp 255) (.const (.bool false)))⟩,
      ⟨(some 257), none, .op (.move (.tmp 256))⟩,
      ⟨(some 258), (some (257, true)), .op (.move (.tmp 45))⟩,
      ⟨(some 259), (some (257, true)), .op (.bin .eql (.tmp 258) (.const (.int .i64 0)))⟩,
      ⟨(some 260), none, .op (.pick (.tmp 257) (.tmp 259) (.const (.bool false)))⟩,
      ⟨(some 261), none, .op (.move (.tmp 260))⟩,
      ⟨(some 262), (some (261, true)), .op (.move (.tmp 43))⟩,
      ⟨(some 263), (some (261, true)), .op (.bin .eql (.tmp 262) (.const (.int .i64 64)))⟩,
      ⟨(some 264), none, .op (.pick (.tmp 261) (.tmp 263) (.const (.bool false)))⟩,
      ⟨(some 265), none, .op (.move (.tmp 264))⟩,
      ⟨(some 266), (some (265, true)), .op (.move (.tmp 44))⟩,
      ⟨(some 267), (some (265, true)), .op (.bin .eql (.tmp 266) (.const (.int .u64 18446744073709551615)))⟩,
      ⟨(some 268), none, .op (.pick (.tmp 265) (.tmp 267) (.const (.bool false)))⟩,
      ⟨(some 269), none, .op (.move (.tmp 268))⟩,
      ⟨(some 270), (some (269, true)), .call (.func 24) [(.const (.int .i64 0))]⟩,
      ⟨(some 271), (some (269, true)), .op (.bin .eql (.tmp 270) (.const (.int .u64 0)))⟩,
      ⟨(some 272), none, .op (.pick (.tmp 269) (.tmp 271) (.const (.bool false)))⟩,
      ⟨(some 273), none, .op (.move (.tmp 272))⟩,
      ⟨(some 274), (some (273, true)), .call (.func 24) [(.const (.int .i64 65))]⟩,
      ⟨(some 275), (some (273, true)), .op (.bin .eql (.tmp 274) (.const (.int .u64 0)))⟩,
      ⟨(some 276), none, .op (.pick (.tmp 273) (.tmp 275) (.const (.bool false)))⟩,
      ⟨(some 277), none, .op (.move (.tmp 276))⟩,
      ⟨(some 278), (some (277, true)), .call (.func 24) [(.const (.int .i64 64))]⟩,
      ⟨(some 279), (some (277, true)), .op (.bin .eql (.tmp 278) (.const (.int .u64 18446744073709551615)))⟩,
      ⟨(some 280), none, .op (.pick (.tmp 277) (.tmp 279) (.const (.bool false)))⟩,
      ⟨(some 281), none, .op (.move (.tmp 280))⟩,
      ⟨(some 282), (some (281, true)), .call (.func 22) [(.const (.int .i64 64)), (.const (.int .u64 18446744073709551615))]⟩,
      ⟨(some 283), none, .op (.pick (.tmp 281) (.tmp 282) (.const (.bool false)))⟩,
      ⟨(some 284), none, .op (.move (.tmp 283))⟩,
      ⟨(some 285), (some (284, true)), .call (.func 22) [(.const (.int .i64 1)), (.const (.int .u64 2))]⟩,
      ⟨(some 286), (some (284, true)), .op (.un .not (.tmp 285))⟩,
      ⟨(some 287), none, .op (.pick (.tmp 284) (.tmp 286) (.const (.bool false)))⟩,
      ⟨(some 288), none, .op (.move (.tmp 287))⟩,
      ⟨(some 289), (some (288, true)), .call (.func 22) [(.const (.int .i64 0)), (.const (.int .u64 0))]⟩,
      ⟨(some 290), (some (288, true)), .op (.un .not (.tmp 289))⟩,
      ⟨(some 291), none, .op (.pick (.tmp 288) (.tmp 290) (.const (.bool false)))⟩,
      ⟨(some 0), none, .op (.move (.tmp 291))⟩])
    .ret))))))))))))))))))))))))
def R11 : List RV := [.tmp 0]
theorem is11 : Is Try.prog (fun _ _ => false) 11 292 A11 R11 := ⟨Try.f11, Try.func11, rfl, by kernel_rfl, by kernel_rfl, Try.call11⟩
def A13l0 : ACode :=
  (.seq (.seq (.region [⟨(some 18), none, .op (.move (.tmp 8))⟩,
      ⟨(some 19), none, .op (.move (.tmp 0))⟩,
      ⟨(some 20), none, .op (.bin .add (.tmp 19) (.const (.int .i64 3)))⟩,
      ⟨(some 21), none, .op (.bin .quo (.tmp 20) (.const (.int .i64 4)))⟩,
      ⟨(some 22), none, .op (.bin .lss (.tmp 18) (.tmp 21))⟩])
    (.cond (.tmp 22) .skip (.exit 0)))
    (.seq (.block 1 (.seq (.region [⟨(some 25), none, .op (.move (.tmp 1))⟩,
      ⟨(some 26), none, .op (.bin .rem (.tmp 25) (.const (.int .u64 16)))⟩,
      ⟨(some 27), none, .op (.conv .i64 (.tmp 26))⟩,
      ⟨(some 9), none, .op (.move (.tmp 27))⟩])
    (.seq (.region [⟨(some 28), none, .op (.move (.tmp 1))⟩,
      ⟨(some 29), none, .op (.bin .quo (.tmp 28) (.const (.int .u64 16)))⟩,
      ⟨(some 1), none, .op (.move (.tmp 29))⟩])
    (.region [⟨(some 30), none, .op (.move (.tmp 6))⟩,
      ⟨(some 31), none, .op (.move (.tmp 9))⟩,
      ⟨(some 32), none, .op (.move (.tmp 9))⟩,
      ⟨(some 33), none, .op (.bin .add (.tmp 32) (.const (.int .i64 1)))⟩,
      ⟨(some 34), none, .op (.slcs (.tmp 30) (some (.tmp 31)) (some (.tmp 33)))⟩,
      ⟨(some 35), none, .op (.move (.tmp 7))⟩,
      ⟨(some 36), none, .op (.bin .add (.tmp 34) (.tmp 35))⟩,
      ⟨(some 7), none, .op (.move (.tmp 36))⟩]))))
    (.region [⟨(some 23), none, .op (.move (.tmp 8))⟩,
      ⟨(some 24), none, .op (.bin .add (.tmp 23) (.const (.int .i64 1)))⟩,
      ⟨(some 8), none, .op (.move (.tmp 24))⟩])))
def A13 : ACode :=
  (.seq (.region [⟨(some 4), none, .op (.move (.const (.string ⟨#[]⟩)))⟩,
      ⟨(some 5), none, .op (.move (.const (.int .i64 0)))⟩])
    (.seq (.seq (.region [⟨(some 11), none, .op (.move (.tmp 0))⟩,
      ⟨(some 12), none, .call (.func 45) [(.tmp 11)]⟩,
      ⟨(some 13), none, .op (.un .not (.tmp 12))⟩])
    (.cond (.tmp 13) (.seq (.region [⟨(some 4), none, .op (.move (.const (.string ⟨#[]⟩)))⟩,
      ⟨(some 5), none, .op (.move (.const (.int .i64 14)))⟩])
    .ret) .skip))
    (.seq (.seq (.region [⟨(some 14), none, .op (.move (.tmp 0))⟩,
      ⟨(some 15), none, .op (.move (.tmp 1))⟩,
      ⟨(some 16), none, .call (.func 23) [(.tmp 14), (.tmp 15)]⟩,
      ⟨(some 17), none, .op (.un .not (.tmp 16))⟩])
    (.cond (.tmp 17) (.seq (.region [⟨(some 4), none, .op (.move (.const (.string ⟨#[]⟩)))⟩,
      ⟨(some 5), none, .op (.move (.const (.int .i64 8)))⟩])
    .ret) .skip))
    (.seq (.region [⟨(some 6), none, .op (.move (.const (.string ⟨#[48, 49, 50, 51, 52, 53, 54, 55, 56, 57, 97, 98, 99, 100, 101, 102]⟩)))⟩])
    (.seq (.region [⟨(some 7), none, .op (.move (.const (.string ⟨#[]⟩)))⟩])
    (.seq (.seq (.region [⟨(some 8), none, .op (.move (.const (.int .i64 0)))⟩])
    (.block 0 (.loop A13l0)))
    (.seq (.region [⟨(some 37), none, .op (.move (.tmp 6))⟩,
      ⟨(some 38), none, .op (.move (.tmp 0))⟩,
      ⟨(some 39), none, .op (.bin .rem (.tmp 38) (.const (.int .i64 10)))⟩,
      ⟨(some 40), none, .op (.move (.tmp 0))⟩,
      ⟨(some 41), none, .op (.bin .rem (.tmp 40) (.const (.int .i64 10)))⟩,
      ⟨(some 42), none, .op (.bin .add (.tmp 41) (.const (.int .i64 1)))⟩,
      ⟨(some 43), none, .op (.slcs (.tmp 37) (some (.tmp 39)) (some (.tmp 42)))⟩,
      ⟨(some 10), none, .op (.move (.tmp 43))⟩])
    (.seq (.seq (.region [⟨(some 44), none, .op (.move (.tmp 0))⟩,
      ⟨(some 45), none, .op (.bin .geq (.tmp 44) (.const (.int .i64 10)))⟩])
    (.cond (.tmp 45) (.region [⟨(some 46), none, .op (.move (.tmp 6))⟩,
      ⟨(some 47), none, .op (.move (.tmp 0))⟩,
      ⟨(some 48), none, .op (.bin .quo (.tmp 47) (.const (.int .i64 10)))⟩,
      ⟨(some 49), none, .op (.move (.tmp 0))⟩,
      ⟨(some 50), none, .op (.bin .quo (.tmp 49) (.const (.int .i64 10)))⟩,
      ⟨(some 51), none, .op (.bin .add (.tmp 50) (.const (.int .i64 1)))⟩,
      ⟨(some 52), none, .op (.slcs (.tmp 46) (some (.tmp 48)) (some (.tmp 51)))⟩,
      ⟨(some 53), none, .op (.move (.tmp 10))⟩,
      ⟨(some 54), none, .op (.bin .add (.tmp 52) (.tmp 53))⟩,
      ⟨(some 10), none, .op (.move (.tmp 54))⟩]) .skip))
    (.seq (.region [⟨(some 55), none, .op (.move (.tmp 10))⟩,
      ⟨(some 56), none, .op (.bin .add (.tmp 55) (.const (.string ⟨#[58]⟩)))⟩,
      ⟨(some 57), none, .op (.move (.tmp 7))⟩,
      ⟨(some 58), none, .op (.bin .add (.tmp 56) (.tmp 57))⟩,
      ⟨(some 4), none, .op (.move (.tmp 58))⟩,
      ⟨(some 5), none, .op (.move (.const (.int .i64 0)))⟩])
    .ret)))))))))
def R13 : List RV := [.tmp 4, .tmp 5]
theorem is13 : Is Try.prog (fun _ _ => false) 13 59 A13 R13 := ⟨Try.f13, Try.func13, rfl, by kernel_rfl, by kernel_rfl, Try.call13⟩
def A14l0 : ACode :=
  (.seq (.seq (.region [⟨(some 11), none, .op (.move (.tmp 5))⟩,
      ⟨(some 12), none, .op (.move (.tmp 0))⟩,
      ⟨(some 13), none, .op (.lens (.tmp 12))⟩,
      ⟨(some 14), none, .op (.bin .lss (.tmp 11) (.tmp 13))⟩,
      ⟨(some 15), none, .op (.move (.tmp 14))⟩,
      ⟨(some 16), (some (15, true)), .op (.move (.tmp 5))⟩,
      ⟨(some 17), (some (15, true)), .op (.bin .lss (.tmp 16) (.const (.int .i64 2)))⟩,
      ⟨(some 18), none, .op (.pick (.tmp 15) (.tmp 17) (.const (.bool false)))⟩,
      ⟨(some 19), none, .op (.move (.tmp 18))⟩,
      ⟨(some 20), (some (19, true)), .op (.move (.tmp 0))⟩,
      ⟨(some 21), (some (19, true)), .op (.move (.tmp 5))⟩,
      ⟨(some 22), (some (19, true)), .op (.idxs (.tmp 20) (.tmp 21))⟩,
      ⟨(some 23), (some (19, true)), .op (.bin .geq (.tmp 22) (.const (.int .u8 48)))⟩,
      ⟨(some 24), none, .op (.pick (.tmp 19) (.tmp 23) (.const (.bool false)))⟩,
      ⟨(some 25), none, .op (.move (.tmp 24))⟩,
      ⟨(some 26), (some (25, true)), .op (.move (.tmp 0))⟩,
      ⟨(some 27), (some (25, true)), .op (.move (.tmp 5))⟩,
      ⟨(some 28), (some (25, true)), .op (.idxs (.tmp 26) (.tmp 27))⟩,
      ⟨(some 29), (some (25, true)), .op (.bin .leq (.tmp 28) (.const (.int .u8 57)))⟩,
      ⟨(some 30), none, .op (.pick (.tmp 25) (.tmp 29) (.const (.bool false)))⟩])
    (.cond (.tmp 30) .skip (.exit 0)))
    (.block 1 (.seq (.region [⟨(some 31), none, .op (.move (.tmp 2))⟩,
      ⟨(some 32), none, .op (.bin .mul (.const (.int .i64 10)) (.tmp 31))⟩,
      ⟨(some 33), none, .op (.move (.tmp 0))⟩,
      ⟨(some 34), none, .op (.move (.tmp 5))⟩,
      ⟨(some 35), none, .op (.idxs (.tmp 33) (.tmp 34))⟩,
      ⟨(some 36), none, .op (.bin .sub (.tmp 35) (.const (.int .u8 48)))⟩,
      ⟨(some 37), none, .op (.conv .i64 (.tmp 36))⟩,
      ⟨(some 38), none, .op (.bin .add (.tmp 32) (.tmp 37))⟩,
      ⟨(some 2), none, .op (.move (.tmp 38))⟩])
    (.region [⟨(some 39), none, .op (.move (.tmp 5))⟩,
      ⟨(some 40), none, .op (.bin .add (.tmp 39) (.const (.int .i64 1)))⟩,
      ⟨(some 5), none, .op (.move (.tmp 40))⟩]))))
def A14l1 : ACode :=
  (.seq (.seq (.region [⟨(some 43), none, .op (.move (.tmp 6))⟩,
      ⟨(some 44), none, .op (.move (.tmp 0))⟩,
      ⟨(some 45), none, .op (.lens (.tmp 44))⟩,
      ⟨(some 46), none, .op (.bin .lss (.tmp 43) (.tmp 45))⟩,
      ⟨(some 47), none, .op (.move (.tmp 46))⟩,
      ⟨(some 48), (some (47, true)), .op (.move (.tmp 6))⟩,
      ⟨(some 49), (some (47, true)), .op (.move (.tmp 5))⟩,
      ⟨(some 50), (some (47, true)), .op (.bin .add (.tmp 49) (.const (.int .i64 18)))⟩,
      ⟨(some 51), (some (47, true)), .op (.bin .lss (.tmp 48) (.tmp 50))⟩,
      ⟨(some 52), none, .op (.pick (.tmp 47) (.tmp 51) (.const (.bool false)))⟩])
    (.cond (.tmp 52) .skip (.exit 2)))
    (.seq (.block 3 (.seq (.region [⟨(some 7), none, .op (.move (.const (.int .u64 0)))⟩])
    (.seq (.seq (.region [⟨(some 55), none, .op (.move (.tmp 0))⟩,
      ⟨(some 56), none, .op (.move (.tmp 6))⟩,
      ⟨(some 57), none, .op (.idxs (.tmp 55) (.tmp 56))⟩,
      ⟨(some 8), none, .op (.move (.tmp 57))⟩])
    (.block 4 (.seq (.region [⟨(some 59), none, .op (.move (.tmp 8))⟩,
      ⟨(some 60), none, .op (.bin .geq (.tmp 59) (.const (.int .u8 48)))⟩,
      ⟨(some 61), none, .op (.move (.tmp 60))⟩,
      ⟨(some 62), (some (61, true)), .op (.move (.tmp 8))⟩,
      ⟨(some 63), (some (61, true)), .op (.bin .leq (.tmp 62) (.const (.int .u8 57)))⟩,
      ⟨(some 64), none, .op (.pick (.tmp 61) (.tmp 63) (.const (.bool false)))⟩,
      ⟨(some 58), none, .op (.move (.tmp 64))⟩])
    (.cond (.tmp 58) (.region [⟨(some 65), none, .op (.move (.tmp 8))⟩,
      ⟨(some 66), none, .op (.bin .sub (.tmp 65) (.const (.int .u8 48)))⟩,
      ⟨(some 67), none, .op (.conv .u64 (.tmp 66))⟩,
      ⟨(some 7), none, .op (.move (.tmp 67))⟩]) (.seq (.region [⟨(some 69), none, .op (.move (.tmp 8))⟩,
      ⟨(some 70), none, .op (.bin .geq (.tmp 69) (.const (.int .u8 97)))⟩,
      ⟨(some 71), none, .op (.move (.tmp 70))⟩,
      ⟨(some 72), (some (71, true)), .op (.move (.tmp 8))⟩,
      ⟨(some 73), (some (71, true)), .op (.bin .leq (.tmp 72) (.const (.int .u8 102)))⟩,
      ⟨(some 74), none, .op (.pick (.tmp 71) (.tmp 73) (.const (.bool false)))⟩,
      ⟨(some 68), none, .op (.move (.tmp 74))⟩])
    (.cond (.tmp 68) (.region [⟨(some 75), none, .op (.move (.tmp 8))⟩,
      ⟨(some 76), none, .op (.bin .sub (.tmp 75) (.const (.int .u8 97)))⟩,
      ⟨(some 77), none, .op (.conv .u64 (.tmp 76))⟩,
      ⟨(some 78), none, .op (.bin .add (.tmp 77) (.const (.int .u64 10)))⟩,
      ⟨(some 7), none, .op (.move (.tmp 78))⟩]) .skip))))))
    (.region [⟨(some 79), none, .op (.move (.tmp 3))⟩,
      ⟨(some 80), none, .op (.bin .shl (.tmp 79) (.const (.int .u64 4)))⟩,
      ⟨(some 81), none, .op (.move (.tmp 7))⟩,
      ⟨(some 82), none, .op (.bin .or (.tmp 80) (.tmp 81))⟩,
      ⟨(some 3), none, .op (.move (.tmp 82))⟩]))))
    (.region [⟨(some 53), none, .op (.move (.tmp 6))⟩,
      ⟨(some 54), none, .op (.bin .add (.tmp 53) (.const (.int .i64 1)))⟩,
      ⟨(some 6), none, .op (.move (.tmp 54))⟩])))
def A14 : ACode :=
  (.seq (.region [⟨(some 2), none, .op (.move (.const (.int .i64 0)))⟩,
      ⟨(some 3), none, .op (.move (.const (.int .u64 0)))⟩,
      ⟨(some 4), none, .op (.move (.const (.int .i64 0)))⟩])
    (.seq (.region [⟨(some 5), none, .op (.move (.const (.int .i64 0)))⟩])
    (.seq (.block 0 (.loop A14l0))
    (.seq (.seq (.region [⟨(some 41), none, .op (.move (.tmp 5))⟩,
      ⟨(some 42), none, .op (.bin .add (.tmp 41) (.const (.int .i64 1)))⟩,
      ⟨(some 6), none, .op (.move (.tmp 42))⟩])
    (.block 2 (.loop A14l1)))
    (.seq (.seq (.region [⟨(some 84), none, .op (.move (.tmp 2))⟩,
      ⟨(some 85), none, .op (.move (.tmp 3))⟩,
      ⟨(some 86), none, .call (.func 12) [(.tmp 84), (.tmp 85)]⟩,
      ⟨(some 83), none, .op (.move (.tmp 86))⟩,
      ⟨(some 87), none, .op (.ext (.tmp 83) 0)⟩,
      ⟨(some 88), none, .op (.ext (.tmp 83) 1)⟩,
      ⟨(some 9), none, .op (.move (.tmp 87))⟩,
      ⟨(some 10), none, .op (.move (.tmp 88))⟩])
    (.seq (.region [⟨(some 89), none, .op (.move (.tmp 10))⟩,
      ⟨(some 90), none, .op (.bin .neq (.tmp 89) (.const (.int .i64 0)))⟩,
      ⟨(some 91), none, .op (.move (.tmp 90))⟩,
      ⟨(some 92), (some (91, false)), .op (.move (.tmp 9))⟩,
      ⟨(some 93), (some (91, false)), .op (.move (.tmp 0))⟩,
      ⟨(some 94), (some (91, false)), .op (.bin .neq (.tmp 92) (.tmp 93))⟩,
      ⟨(some 95), none, .op (.pick (.tmp 91) (.const (.bool true)) (.tmp 94))⟩])
    (.cond (.tmp 95) (.seq (.region [⟨(some 2), none, .op (.move (.const (.int .i64 0)))⟩,
      ⟨(some 3), none, .op (.move (.const (.int .u64 0)))⟩,
      ⟨(some 4), none, .op (.move (.const (.int .i64 12)))⟩])
    .ret) .skip)))
    (.seq (.region [⟨(some 96), none, .op (.move (.tmp 2))⟩,
      ⟨(some 97), none, .op (.move (.tmp 3))⟩,
      ⟨(some 2), none, .op (.move (.tmp 96))⟩,
      ⟨(some 3), none, .op (.move (.tmp 97))⟩,
      ⟨(some 4), none, .op (.move (.const (.int .i64 0)))⟩])
    .ret))))))
def R14 : List RV := [.tmp 2, .tmp 3, .tmp 4]
theorem is14 : Is Try.prog (fun _ _ => false) 14 98 A14 R14 := ⟨Try.f14, Try.func14, rfl, by kernel_rfl, by kernel_rfl, Try.call14⟩
def A15l0 : ACode :=
  (.seq (.seq (.region [⟨(some 38), none, .op (.move (.tmp 10))⟩,
      ⟨(some 39), none, .op (.move (.tmp 0))⟩,
      ⟨(some 40), none, .op (.lens (.tmp 39))⟩,
      ⟨(some 41), none, .op (.bin .lss (.tmp 38) (.tmp 40))⟩])
    (.cond (.tmp 41) .skip (.exit 2)))
    (.seq (.block 3 (.seq (.region [⟨(some 11), none, .op (.move (.const (.int .u64 0)))⟩])
    (.seq (.seq (.region [⟨(some 44), none, .op (.move (.tmp 0))⟩,
      ⟨(some 45), none, .op (.move (.tmp 10))⟩,
      ⟨(some 46), none, .op (.idxs (.tmp 44) (.tmp 45))⟩,
      ⟨(some 47), none, .op (.bin .geq (.tmp 46) (.const (.int .u8 48)))⟩,
      ⟨(some 48), none, .op (.move (.tmp 47))⟩,
      ⟨(some 49), (some (48, true)), .op (.move (.tmp 0))⟩,
      ⟨(some 50), (some (48, true)), .op (.move (.tmp 10))⟩,
      ⟨(some 51), (some (48, true)), .op (.idxs (.tmp 49) (.tmp 50))⟩,
      ⟨(some 52), (some (48, true)), .op (.bin .leq (.tmp 51) (.const (.int .u8 57)))⟩,
      ⟨(some 53), none, .op (.pick (.tmp 48) (.tmp 52) (.const (.bool false)))⟩])
    (.cond (.tmp 53) (.region [⟨(some 54), none, .op (.move (.tmp 0))⟩,
      ⟨(some 55), none, .op (.move (.tmp 10))⟩,
      ⟨(some 56), none, .op (.idxs (.tmp 54) (.tmp 55))⟩,
      ⟨(some 57), none, .op (.bin .sub (.tmp 56) (.const (.int .u8 48)))⟩,
      ⟨(some 58), none, .op (.conv .u64 (.tmp 57))⟩,
      ⟨(some 11), none, .op (.move (.tmp 58))⟩]) .skip))
    (.seq (.seq (.region [⟨(some 59), none, .op (.move (.tmp 0))⟩,
      ⟨(some 60), none, .op (.move (.tmp 10))⟩,
      ⟨(some 61), none, .op (.idxs (.tmp 59) (.tmp 60))⟩,
      ⟨(some 62), none, .op (.bin .geq (.tmp 61) (.const (.int .u8 97)))⟩,
      ⟨(some 63), none, .op (.move (.tmp 62))⟩,
      ⟨(some 64), (some (63, true)), .op (.move (.tmp 0))⟩,
      ⟨(some 65), (some (63, true)), .op (.move (.tmp 10))⟩,
      ⟨(some 66), (some (63, true)), .op (.idxs (.tmp 64) (.tmp 65))⟩,
      ⟨(some 67), (some (63, true)), .op (.bin .leq (.tmp 66) (.const (.int .u8 102)))⟩,
      ⟨(some 68), none, .op (.pick (.tmp 63) (.tmp 67) (.const (.bool false)))⟩])
    (.cond (.tmp 68) (.region [⟨(some 69), none, .op (.move (.tmp 0))⟩,
      ⟨(some 70), none, .op (.move (.tmp 10))⟩,
      ⟨(some 71), none, .op (.idxs (.tmp 69) (.tmp 70))⟩,
      ⟨(some 72), none, .op (.bin .sub (.tmp 71) (.const (.int .u8 97)))⟩,
      ⟨(some 73), none, .op (.conv .u64 (.tmp 72))⟩,
      ⟨(some 74), none, .op (.bin .add (.tmp 73) (.const (.int .u64 10)))⟩,
      ⟨(some 11), none, .op (.move (.tmp 74))⟩]) .skip))
    (.region [⟨(some 75), none, .op (.move (.tmp 9))⟩,
      ⟨(some 76), none, .op (.bin .mul (.tmp 75) (.const (.int .u64 16)))⟩,
      ⟨(some 77), none, .op (.move (.tmp 11))⟩,
      ⟨(some 78), none, .op (.bin .add (.tmp 76) (.tmp 77))⟩,
      ⟨(some 9), none, .op (.move (.tmp 78))⟩])))))
    (.region [⟨(some 42), none, .op (.move (.tmp 10))⟩,
      ⟨(some 43), none, .op (.bin .add (.tmp 42) (.const (.int .i64 1)))⟩,
      ⟨(some 10), none, .op (.move (.tmp 43))⟩])))
def A15l1 : ACode :=
  (.seq (.seq (.region [⟨(some 17), none, .op (.move (.tmp 5))⟩,
      ⟨(some 18), none, .op (.bin .leq (.tmp 17) (.const (.int .i64 64)))⟩])
    (.cond (.tmp 18) .skip (.exit 0)))
    (.seq (.block 1 (.seq (.region [⟨(some 22), none, .op (.move (.tmp 5))⟩,
      ⟨(some 23), none, .call (.func 13) [(.tmp 22), (.const (.int .u64 0))]⟩,
      ⟨(some 21), none, .op (.move (.tmp 23))⟩,
      ⟨(some 24), none, .op (.ext (.tmp 21) 0)⟩,
      ⟨(some 25), none, .op (.ext (.tmp 21) 1)⟩,
      ⟨(some 6), none, .op (.move (.tmp 24))⟩,
      ⟨(some 7), none, .op (.move (.tmp 25))⟩])
    (.seq (.seq (.region [⟨(some 26), none, .op (.move (.tmp 6))⟩,
      ⟨(some 27), none, .op (.lens (.tmp 26))⟩,
      ⟨(some 28), none, .op (.move (.tmp 0))⟩,
      ⟨(some 29), none, .op (.lens (.tmp 28))⟩,
      ⟨(some 30), none, .op (.bin .neq (.tmp 27) (.tmp 29))⟩])
    (.cond (.tmp 30) (.exit 1) .skip))
    (.seq (.region [⟨(some 31), none, .op (.move (.tmp 5))⟩,
      ⟨(some 32), none, .op (.bin .add (.tmp 31) (.const (.int .i64 3)))⟩,
      ⟨(some 33), none, .op (.bin .quo (.tmp 32) (.const (.int .i64 4)))⟩,
      ⟨(some 8), none, .op (.move (.tmp 33))⟩])
    (.seq (.region [⟨(some 9), none, .op (.move (.const (.int .u64 0)))⟩])
    (.seq (.seq (.region [⟨(some 34), none, .op (.move (.tmp 0))⟩,
      ⟨(some 35), none, .op (.lens (.tmp 34))⟩,
      ⟨(some 36), none, .op (.move (.tmp 8))⟩,
      ⟨(some 37), none, .op (.bin .sub (.tmp 35) (.tmp 36))⟩,
      ⟨(some 10), none, .op (.move (.tmp 37))⟩])
    (.block 2 (.loop A15l0)))
    (.seq (.region [⟨(some 80), none, .op (.move (.tmp 5))⟩,
      ⟨(some 81), none, .op (.move (.tmp 9))⟩,
      ⟨(some 82), none, .call (.func 13) [(.tmp 80), (.tmp 81)]⟩,
      ⟨(some 79), none, .op (.move (.tmp 82))⟩,
      ⟨(some 83), none, .op (.ext (.tmp 79) 0)⟩,
      ⟨(some 84), none, .op (.ext (.tmp 79) 1)⟩,
      ⟨(some 12), none, .op (.move (.tmp 83))⟩,
      ⟨(some 13), none, .op (.move (.tmp 84))⟩])
    (.seq (.region [⟨(some 85), none, .op (.move (.tmp 13))⟩,
      ⟨(some 86), none, .op (.bin .eql (.tmp 85) (.const (.int .i64 0)))⟩,
      ⟨(some 87), none, .op (.move (.tmp 86))⟩,
      ⟨(some 88), (some (87, true)), .op (.move (.tmp 12))⟩,
      ⟨(some 89), (some (87, true)), .op (.move (.tmp 0))⟩,
      ⟨(some 90), (some (87, true)), .op (.bin .eql (.tmp 88) (.tmp 89))⟩,
      ⟨(some 91), none, .op (.pick (.tmp 87) (.tmp 90) (.const (.bool false)))⟩])
    (.cond (.tmp 91) (.seq (.region [⟨(some 92), none, .op (.move (.tmp 5))⟩,
      ⟨(some 93), none, .op (.move (.tmp 9))⟩,
      ⟨(some 2), none, .op (.move (.tmp 92))⟩,
      ⟨(some 3), none, .op (.move (.tmp 93))⟩,
      ⟨(some 4), none, .op (.move (.const (.int .i64 0)))⟩])
    .ret) .skip)))))))))
    (.region [⟨(some 19), none, .op (.move (.tmp 5))⟩,
      ⟨(some 20), none, .op (.bin .add (.tmp 19) (.const (.int .i64 1)))⟩,
      ⟨(some 5), none, .op (.move (.tmp 20))⟩])))
def A15 : ACode :=
  (.seq (.region [⟨(some 2), none, .op (.move (.const (.int .i64 0)))⟩,
      ⟨(some 3), none, .op (.move (.const (.int .u64 0)))⟩,
      ⟨(some 4), none, .op (.move (.const (.int .i64 0)))⟩])
    (.seq (.seq (.region [⟨(some 14), none, .op (.move (.tmp 0))⟩,
      ⟨(some 15), none, .op (.lens (.tmp 14))⟩,
      ⟨(some 16), none, .op (.bin .gtr (.tmp 15) (.const (.int .i64 20)))⟩])
    (.cond (.tmp 16) (.seq (.region [⟨(some 2), none, .op (.move (.const (.int .i64 0)))⟩,
      ⟨(some 3), none, .op (.move (.const (.int .u64 0)))⟩,
      ⟨(some 4), none, .op (.move (.const (.int .i64 12)))⟩])
    .ret) .skip))
    (.seq (.seq (.region [⟨(some 5), none, .op (.move (.const (.int .i64 1)))⟩])
    (.block 0 (.loop A15l1)))
    (.seq (.region [⟨(some 2), none, .op (.move (.const (.int .i64 0)))⟩,
      ⟨(some 3), none, .op (.move (.const (.int .u64 0)))⟩,
      ⟨(some 4), none, .op (.move (.const (.int .i64 12)))⟩])
    .ret))))
def R15 : List RV := [.tmp 2, .tmp 3, .tmp 4]
theorem is15 : Is Try.prog (fun _ _ => false) 15 94 A15 R15 := ⟨Try.f15, Try.func15, rfl, by kernel_rfl, by kernel_rfl, Try.call15⟩
def A16l0 : ACode :=
  (.seq (.region [⟨(some 17), none, .op (.bin .lss (.tmp 16) (.tmp 15))⟩])
    (.seq (.cond (.tmp 17) .skip (.exit 0))
    (.seq (.block 1 (.seq (.region [⟨(some 18), none, .op (.move (.tmp 16))⟩,
      ⟨(some 3), none, .op (.move (.tmp 18))⟩])
    (.seq (.region [⟨(some 19), none, .op (.move (.tmp 0))⟩,
      ⟨(some 20), none, .op (.move (.tmp 3))⟩,
      ⟨(some 21), none, .op (.idxs (.tmp 19) (.tmp 20))⟩,
      ⟨(some 4), none, .op (.move (.tmp 21))⟩])
    (.seq (.region [⟨(some 22), none, .op (.move (.tmp 4))⟩,
      ⟨(some 23), none, .op (.bin .geq (.tmp 22) (.const (.int .u8 97)))⟩,
      ⟨(some 24), none, .op (.move (.tmp 23))⟩,
      ⟨(some 25), (some (24, true)), .op (.move (.tmp 4))⟩,
      ⟨(some 26), (some (24, true)), .op (.bin .leq (.tmp 25) (.const (.int .u8 122)))⟩,
      ⟨(some 27), none, .op (.pick (.tmp 24) (.tmp 26) (.const (.bool false)))⟩,
      ⟨(some 28), none, .op (.move (.tmp 27))⟩,
      ⟨(some 29), (some (28, false)), .op (.move (.tmp 4))⟩,
      ⟨(some 30), (some (28, false)), .op (.bin .geq (.tmp 29) (.const (.int .u8 65)))⟩,
      ⟨(some 31), (some (28, false)), .op (.move (.tmp 30))⟩,
      ⟨(some 32), (some (31, true)), .op (.move (.tmp 4))⟩,
      ⟨(some 33), (some (31, true)), .op (.bin .leq (.tmp 32) (.const (.int .u8 90)))⟩,
      ⟨(some 34), (some (28, false)), .op (.pick (.tmp 31) (.tmp 33) (.const (.bool false)))⟩,
      ⟨(some 35), none, .op (.pick (.tmp 28) (.const (.bool true)) (.tmp 34))⟩,
      ⟨(some 5), none, .op (.move (.tmp 35))⟩])
    (.seq (.region [⟨(some 36), none, .op (.move (.tmp 5))⟩,
      ⟨(some 37), none, .op (.un .not (.tmp 36))⟩,
      ⟨(some 38), none, .op (.move (.tmp 37))⟩,
      ⟨(some 39), (some (38, true)), .op (.move (.tmp 3))⟩,
      ⟨(some 40), (some (38, true)), .op (.bin .eql (.tmp 39) (.const (.int .i64 0)))⟩,
      ⟨(some 41), (some (38, true)), .op (.move (.tmp 40))⟩,
      ⟨(some 42), (some (41, false)), .op (.move (.tmp 4))⟩,
      ⟨(some 43), (some (41, false)), .op (.bin .neq (.tmp 42) (.const (.int .u8 95)))⟩,
      ⟨(some 44), (some (41, false)), .op (.move (.tmp 43))⟩,
      ⟨(some 45), (some (44, true)), .op (.move (.tmp 4))⟩,
      ⟨(some 46), (some (44, true)), .op (.bin .lss (.tmp 45) (.const (.int .u8 48)))⟩,
      ⟨(some 47), (some (44, true)), .op (.move (.tmp 46))⟩,
      ⟨(some 48), (some (47, false)), .op (.move (.tmp 4))⟩,
      ⟨(some 49), (some (47, false)), .op (.bin .gtr (.tmp 48) (.const (.int .u8 57)))⟩,
      ⟨(some 50), (some (44, true)), .op (.pick (.tmp 47) (.const (.bool true)) (.tmp 49))⟩,
      ⟨(some 51), (some (41, false)), .op (.pick (.tmp 44) (.tmp 50) (.const (.bool false)))⟩,
      ⟨(some 52), (some (38, true)), .op (.pick (.tmp 41) (.const (.bool true)) (.tmp 51))⟩,
      ⟨(some 53), none, .op (.pick (.tmp 38) (.tmp 52) (.const (.bool false)))⟩])
    (.cond (.tmp 53) (.seq (.region [⟨(some 2), none, .op (.move (.const (.bool false)))⟩])
    .ret) .skip))))))
    (.region [⟨(some 54), none, .op (.bin .add (.tmp 16) (.const (.int .i64 1)))⟩,
      ⟨(some 16), none, .op (.move (.tmp 54))⟩]))))
def A16 : ACode :=
  (.seq (.region [⟨(some 2), none, .op (.move (.const (.bool false)))⟩])
    (.seq (.seq (.region [⟨(some 6), none, .op (.move (.tmp 0))⟩,
      ⟨(some 7), none, .op (.lens (.tmp 6))⟩,
      ⟨(some 8), none, .op (.bin .lss (.tmp 7) (.const (.int .i64 1)))⟩,
      ⟨(some 9), none, .op (.move (.tmp 8))⟩,
      ⟨(some 10), (some (9, false)), .op (.move (.tmp 0))⟩,
      ⟨(some 11), (some (9, false)), .op (.lens (.tmp 10))⟩,
      ⟨(some 12), (some (9, false)), .op (.bin .gtr (.tmp 11) (.const (.int .i64 24)))⟩,
      ⟨(some 13), none, .op (.pick (.tmp 9) (.const (.bool true)) (.tmp 12))⟩])
    (.cond (.tmp 13) (.seq (.region [⟨(some 2), none, .op (.move (.const (.bool false)))⟩])
    .ret) .skip))
    (.seq (.seq (.region [⟨(some 14), none, .op (.move (.tmp 0))⟩,
      ⟨(some 15), none, .op (.lens (.tmp 14))⟩,
      ⟨(some 16), none, .op (.move (.const (.int .i64 0)))⟩])
    (.block 0 (.loop A16l0)))
    (.seq (.region [⟨(some 2), none, .op (.move (.const (.bool true)))⟩])
    .ret))))
def R16 : List RV := [.tmp 2]
theorem is16 : Is Try.prog (fun _ _ => false) 16 55 A16 R16 := ⟨Try.f16, Try.func16, rfl, by kernel_rfl, by kernel_rfl, Try.call16⟩
def A17l0 : ACode :=
  (.seq (.seq (.region [⟨(some 15), none, .op (.move (.tmp 3))⟩,
      ⟨(some 16), none, .op (.move (.tmp 0))⟩,
      ⟨(some 17), none, .op (.lens (.tmp 16))⟩,
      ⟨(some 18), none, .op (.bin .lss (.tmp 15) (.tmp 17))⟩])
    (.cond (.tmp 18) .skip (.exit 0)))
    (.seq (.block 1 (.seq (.region [⟨(some 21), none, .op (.move (.tmp 0))⟩,
      ⟨(some 22), none, .op (.move (.tmp 3))⟩,
      ⟨(some 23), none, .op (.idxs (.tmp 21) (.tmp 22))⟩,
      ⟨(some 4), none, .op (.move (.tmp 23))⟩])
    (.seq (.region [⟨(some 24), none, .op (.move (.tmp 4))⟩,
      ⟨(some 25), none, .op (.bin .geq (.tmp 24) (.const (.int .u8 97)))⟩,
      ⟨(some 26), none, .op (.move (.tmp 25))⟩,
      ⟨(some 27), (some (26, true)), .op (.move (.tmp 4))⟩,
      ⟨(some 28), (some (26, true)), .op (.bin .leq (.tmp 27) (.const (.int .u8 122)))⟩,
      ⟨(some 29), none, .op (.pick (.tmp 26) (.tmp 28) (.const (.bool false)))⟩,
      ⟨(some 30), none, .op (.move (.tmp 29))⟩,
      ⟨(some 31), (some (30, false)), .op (.move (.tmp 4))⟩,
      ⟨(some 32), (some (30, false)), .op (.bin .geq (.tmp 31) (.const (.int .u8 65)))⟩,
      ⟨(some 33), (some (30, false)), .op (.move (.tmp 32))⟩,
      ⟨(some 34), (some (33, true)), .op (.move (.tmp 4))⟩,
      ⟨(some 35), (some (33, true)), .op (.bin .leq (.tmp 34) (.const (.int .u8 90)))⟩,
      ⟨(some 36), (some (30, false)), .op (.pick (.tmp 33) (.tmp 35) (.const (.bool false)))⟩,
      ⟨(some 37), none, .op (.pick (.tmp 30) (.const (.bool true)) (.tmp 36))⟩,
      ⟨(some 5), none, .op (.move (.tmp 37))⟩])
    (.seq (.region [⟨(some 38), none, .op (.move (.tmp 4))⟩,
      ⟨(some 39), none, .op (.bin .geq (.tmp 38) (.const (.int .u8 48)))⟩,
      ⟨(some 40), none, .op (.move (.tmp 39))⟩,
      ⟨(some 41), (some (40, true)), .op (.move (.tmp 4))⟩,
      ⟨(some 42), (some (40, true)), .op (.bin .leq (.tmp 41) (.const (.int .u8 57)))⟩,
      ⟨(some 43), none, .op (.pick (.tmp 40) (.tmp 42) (.const (.bool false)))⟩,
      ⟨(some 44), none, .op (.move (.tmp 43))⟩,
      ⟨(some 45), (some (44, false)), .op (.move (.tmp 4))⟩,
      ⟨(some 46), (some (44, false)), .op (.bin .eql (.tmp 45) (.const (.int .u8 95)))⟩,
      ⟨(some 47), none, .op (.pick (.tmp 44) (.const (.bool true)) (.tmp 46))⟩,
      ⟨(some 6), none, .op (.move (.tmp 47))⟩])
    (.seq (.region [⟨(some 48), none, .op (.move (.tmp 5))⟩,
      ⟨(some 49), none, .op (.un .not (.tmp 48))⟩,
      ⟨(some 50), none, .op (.move (.tmp 49))⟩,
      ⟨(some 51), (some (50, true)), .op (.move (.tmp 3))⟩,
      ⟨(some 52), (some (50, true)), .op (.bin .eql (.tmp 51) (.const (.int .i64 0)))⟩,
      ⟨(some 53), (some (50, true)), .op (.move (.tmp 52))⟩,
      ⟨(some 54), (some (53, false)), .op (.move (.tmp 6))⟩,
      ⟨(some 55), (some (53, false)), .op (.un .not (.tmp 54))⟩,
      ⟨(some 56), (some (50, true)), .op (.pick (.tmp 53) (.const (.bool true)) (.tmp 55))⟩,
      ⟨(some 57), none, .op (.pick (.tmp 50) (.tmp 56) (.const (.bool false)))⟩])
    (.cond (.tmp 57) (.seq (.region [⟨(some 2), none, .op (.move (.const (.bool false)))⟩])
    .ret) .skip))))))
    (.region [⟨(some 19), none, .op (.move (.tmp 3))⟩,
      ⟨(some 20), none, .op (.bin .add (.tmp 19) (.const (.int .i64 1)))⟩,
      ⟨(some 3), none, .op (.move (.tmp 20))⟩])))
def A17 : ACode :=
  (.seq (.region [⟨(some 2), none, .op (.move (.const (.bool false)))⟩])
    (.seq (.seq (.region [⟨(some 7), none, .op (.move (.tmp 0))⟩,
      ⟨(some 8), none, .op (.lens (.tmp 7))⟩,
      ⟨(some 9), none, .op (.bin .eql (.tmp 8) (.const (.int .i64 0)))⟩,
      ⟨(some 10), none, .op (.move (.tmp 9))⟩,
      ⟨(some 11), (some (10, false)), .op (.move (.tmp 0))⟩,
      ⟨(some 12), (some (10, false)), .op (.lens (.tmp 11))⟩,
      ⟨(some 13), (some (10, false)), .op (.bin .gtr (.tmp 12) (.const (.int .i64 24)))⟩,
      ⟨(some 14), none, .op (.pick (.tmp 10) (.const (.bool true)) (.tmp 13))⟩])
    (.cond (.tmp 14) (.seq (.region [⟨(some 2), none, .op (.move (.const (.bool false)))⟩])
    .ret) .skip))
    (.seq (.seq (.region [⟨(some 3), none, .op (.move (.const (.int .i64 0)))⟩])
    (.block 0 (.loop A17l0)))
    (.seq (.region [⟨(some 2), none, .op (.move (.const (.bool true)))⟩])
    .ret))))
def R17 : List RV := [.tmp 2]
theorem is17 : Is Try.prog (fun _ _ => false) 17 58 A17 R17 := ⟨Try.f17, Try.func17, rfl, by kernel_rfl, by kernel_rfl, Try.call17⟩
end Go.Proofs.Ytcnnanicdjdddaa
