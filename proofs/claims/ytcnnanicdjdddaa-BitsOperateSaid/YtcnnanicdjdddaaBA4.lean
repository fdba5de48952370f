/- The abstract code of the functions that the statements reach: the reference's lists of bits. -/
import Derived.Test.YtcnnanicdjdddaaBA1
namespace Go.Proofs.Ytcnnanicdjdddaa
open Go Go.Ab Go.Proofs
set_option maxRecDepth 100000
def A5 : ACode :=
  (.seq (.region [⟨(some 8), none, .op (.move (.const (.bool false)))⟩])
    (.seq (.region [⟨(some 18), none, .op (.move (.tmp 0))⟩,
      ⟨(some 19), none, .op (.move (.tmp 1))⟩,
      ⟨(some 20), none, .op (.move (.tmp 2))⟩,
      ⟨(some 21), none, .call (.func 32) [(.tmp 18), (.tmp 19), (.tmp 20)]⟩,
      ⟨(some 17), none, .op (.move (.tmp 21))⟩,
      ⟨(some 22), none, .op (.ext (.tmp 17) 0)⟩,
      ⟨(some 23), none, .op (.ext (.tmp 17) 1)⟩,
      ⟨(some 9), none, .op (.move (.tmp 22))⟩,
      ⟨(some 10), none, .op (.move (.tmp 23))⟩])
    (.seq (.region [⟨(some 25), none, .op (.move (.tmp 0))⟩,
      ⟨(some 26), none, .op (.move (.tmp 1))⟩,
      ⟨(some 27), none, .op (.move (.tmp 2))⟩,
      ⟨(some 28), none, .call (.func 33) [(.tmp 25), (.tmp 26), (.tmp 27)]⟩,
      ⟨(some 24), none, .op (.move (.tmp 28))⟩,
      ⟨(some 29), none, .op (.ext (.tmp 24) 0)⟩,
      ⟨(some 30), none, .op (.ext (.tmp 24) 1)⟩,
      ⟨(some 11), none, .op (.move (.tmp 29))⟩,
      ⟨(some 12), none, .op (.move (.tmp 30))⟩])
    (.seq (.region [⟨(some 32), none, .op (.move (.tmp 0))⟩,
      ⟨(some 33), none, .op (.move (.tmp 1))⟩,
      ⟨(some 34), none, .op (.move (.tmp 2))⟩,
      ⟨(some 35), none, .op (.move (.tmp 3))⟩,
      ⟨(some 36), none, .call (.func 34) [(.tmp 32), (.tmp 33), (.tmp 34), (.tmp 35)]⟩,
      ⟨(some 31), none, .op (.move (.tmp 36))⟩,
      ⟨(some 37), none, .op (.ext (.tmp 31) 0)⟩,
      ⟨(some 38), none, .op (.ext (.tmp 31) 1)⟩,
      ⟨(some 13), none, .op (.move (.tmp 37))⟩,
      ⟨(some 14), none, .op (.move (.tmp 38))⟩])
    (.seq (.region [⟨(some 40), none, .op (.move (.tmp 0))⟩,
      ⟨(some 41), none, .op (.move (.tmp 1))⟩,
      ⟨(some 42), none, .op (.move (.tmp 2))⟩,
      ⟨(some 43), none, .op (.move (.tmp 3))⟩,
      ⟨(some 44), none, .call (.func 35) [(.tmp 40), (.tmp 41), (.tmp 42), (.tmp 43)]⟩,
      ⟨(some 39), none, .op (.move (.tmp 44))⟩,
      ⟨(some 45), none, .op (.ext (.tmp 39) 0)⟩,
      ⟨(some 46), none, .op (.ext (.tmp 39) 1)⟩,
      ⟨(some 15), none, .op (.move (.tmp 45))⟩,
      ⟨(some 16), none, .op (.move (.tmp 46))⟩])
    (.seq (.region [⟨(some 47), none, .op (.move (.tmp 9))⟩,
      ⟨(some 48), none, .op (.move (.tmp 11))⟩,
      ⟨(some 49), none, .op (.bin .eql (.tmp 47) (.tmp 48))⟩,
      ⟨(some 50), none, .op (.move (.tmp 49))⟩,
      ⟨(some 51), (some (50, true)), .op (.move (.tmp 10))⟩,
      ⟨(some 52), (some (50, true)), .op (.move (.tmp 12))⟩,
      ⟨(some 53), (some (50, true)), .op (.bin .eql (.tmp 51) (.tmp 52))⟩,
      ⟨(some 54), none, .op (.pick (.tmp 50) (.tmp 53) (.const (.bool false)))⟩,
      ⟨(some 55), none, .op (.move (.tmp 54))⟩,
      ⟨(some 56), (some (55, true)), .op (.move (.tmp 13))⟩,
      ⟨(some 57), (some (55, true)), .op (.move (.tmp 15))⟩,
      ⟨(some 58), (some (55, true)), .op (.bin .eql (.tmp 56) (.tmp 57))⟩,
      ⟨(some 59), none, .op (.pick (.tmp 55) (.tmp 58) (.const (.bool false)))⟩,
      ⟨(some 60), none, .op (.move (.tmp 59))⟩,
      ⟨(some 61), (some (60, true)), .op (.move (.tmp 14))⟩,
      ⟨(some 62), (some (60, true)), .op (.move (.tmp 16))⟩,
      ⟨(some 63), (some (60, true)), .op (.bin .eql (.tmp 61) (.tmp 62))⟩,
      ⟨(some 64), none, .op (.pick (.tmp 60) (.tmp 63) (.const (.bool false)))⟩,
      ⟨(some 8), none, .op (.move (.tmp 64))⟩])
    .ret))))))
def R5 : List RV := [.tmp 8]
theorem is5 : Is Try.prog (fun _ _ => false) 5 65 A5 R5 := ⟨Try.f5, Try.func5, rfl, by kernel_rfl, by kernel_rfl, Try.call5⟩
def A33 : ACode :=
  (.seq (.region [⟨(some 6), none, .op (.move (.const (.int .u64 0)))⟩,
      ⟨(some 7), none, .op (.move (.const (.int .i64 0)))⟩])
    (.seq (.seq (.region [⟨(some 9), none, .op (.move (.tmp 1))⟩,
      ⟨(some 10), none, .call (.func 45) [(.tmp 9)]⟩,
      ⟨(some 11), none, .op (.un .not (.tmp 10))⟩])
    (.cond (.tmp 11) (.seq (.region [⟨(some 6), none, .op (.move (.const (.int .u64 0)))⟩,
      ⟨(some 7), none, .op (.move (.const (.int .i64 14)))⟩])
    .ret) .skip))
    (.seq (.seq (.region [⟨(some 12), none, .op (.move (.tmp 0))⟩,
      ⟨(some 13), none, .op (.bin .neq (.tmp 12) (.const (.int .u8 3)))⟩,
      ⟨(some 14), none, .op (.move (.tmp 13))⟩,
      ⟨(some 15), (some (14, true)), .op (.move (.tmp 0))⟩,
      ⟨(some 16), (some (14, true)), .op (.bin .neq (.tmp 15) (.const (.int .u8 4)))⟩,
      ⟨(some 17), none, .op (.pick (.tmp 14) (.tmp 16) (.const (.bool false)))⟩])
    (.cond (.tmp 17) (.seq (.region [⟨(some 6), none, .op (.move (.const (.int .u64 0)))⟩,
      ⟨(some 7), none, .op (.move (.const (.int .i64 2)))⟩])
    .ret) .skip))
    (.seq (.seq (.region [⟨(some 18), none, .op (.move (.tmp 1))⟩,
      ⟨(some 19), none, .op (.move (.tmp 2))⟩,
      ⟨(some 20), none, .call (.func 23) [(.tmp 18), (.tmp 19)]⟩,
      ⟨(some 21), none, .op (.un .not (.tmp 20))⟩])
    (.cond (.tmp 21) (.seq (.region [⟨(some 6), none, .op (.move (.const (.int .u64 0)))⟩,
      ⟨(some 7), none, .op (.move (.const (.int .i64 8)))⟩])
    .ret) .skip))
    (.seq (.region [⟨(some 22), none, .op (.move (.tmp 1))⟩,
      ⟨(some 23), none, .op (.move (.tmp 2))⟩,
      ⟨(some 24), none, .call (.func 51) [(.tmp 22), (.tmp 23)]⟩,
      ⟨(some 25), none, .call (.func 52) [(.tmp 24)]⟩,
      ⟨(some 8), none, .op (.move (.tmp 25))⟩])
    (.seq (.seq (.region [⟨(some 26), none, .op (.move (.tmp 0))⟩,
      ⟨(some 27), none, .op (.bin .eql (.tmp 26) (.const (.int .u8 4)))⟩])
    (.cond (.tmp 27) (.region [⟨(some 28), none, .op (.move (.tmp 8))⟩,
      ⟨(some 29), none, .op (.move (.tmp 1))⟩,
      ⟨(some 30), none, .call (.func 54) [(.tmp 29)]⟩,
      ⟨(some 31), none, .call (.func 53) [(.tmp 28), (.tmp 30), (.const (.int .i64 1))]⟩,
      ⟨(some 8), none, .op (.move (.tmp 31))⟩]) .skip))
    (.seq (.region [⟨(some 32), none, .op (.move (.tmp 8))⟩,
      ⟨(some 33), none, .call (.func 50) [(.tmp 32)]⟩,
      ⟨(some 6), none, .op (.move (.tmp 33))⟩,
      ⟨(some 7), none, .op (.move (.const (.int .i64 0)))⟩])
    .ret)))))))
def R33 : List RV := [.tmp 6, .tmp 7]
theorem is33 : Is Try.prog (fun _ _ => false) 33 34 A33 R33 := ⟨Try.f33, Try.func33, rfl, by kernel_rfl, by kernel_rfl, Try.call33⟩
def A35l0 : ACode :=
  (.seq (.seq (.region [⟨(some 68), none, .op (.move (.tmp 14))⟩,
      ⟨(some 69), none, .op (.move (.tmp 1))⟩,
      ⟨(some 70), none, .op (.bin .lss (.tmp 68) (.tmp 69))⟩])
    (.cond (.tmp 70) .skip (.exit 1)))
    (.seq (.block 2 (.seq (.dregion [⟨0, ⟨(some 73), none, .op (.move (.tmp 10))⟩, []⟩,
      ⟨1, ⟨(some 74), none, .op (.move (.tmp 14))⟩, []⟩,
      ⟨2, ⟨(some 75), none, .op (.idxA 1 (.tmp 73) (.tmp 74))⟩, []⟩,
      ⟨3, ⟨(some 76), none, .op (.load 1 false (.tmp 75))⟩, []⟩,
      ⟨4, ⟨(some 77), none, .op (.move (.tmp 11))⟩, []⟩,
      ⟨5, ⟨(some 78), none, .op (.move (.tmp 14))⟩, []⟩,
      ⟨6, ⟨(some 79), none, .op (.idxA 1 (.tmp 77) (.tmp 78))⟩, []⟩,
      ⟨7, ⟨(some 80), none, .op (.load 1 false (.tmp 79))⟩, []⟩,
      ⟨8, ⟨(some 81), none, .op (.bin .add (.tmp 76) (.tmp 80))⟩, []⟩,
      ⟨9, ⟨(some 15), none, .op (.move (.tmp 81))⟩, []⟩])
    (.seq (.region [⟨(some 16), none, .op (.move (.const (.int .i64 0)))⟩])
    (.seq (.seq (.region [⟨(some 82), none, .op (.move (.tmp 0))⟩,
      ⟨(some 83), none, .op (.bin .eql (.tmp 82) (.const (.int .u8 8)))⟩,
      ⟨(some 84), none, .op (.move (.tmp 83))⟩,
      ⟨(some 85), (some (84, true)), .op (.move (.tmp 15))⟩,
      ⟨(some 86), (some (84, true)), .op (.bin .eql (.tmp 85) (.const (.int .i64 2)))⟩,
      ⟨(some 87), none, .op (.pick (.tmp 84) (.tmp 86) (.const (.bool false)))⟩,
      ⟨(some 88), none, .op (.move (.tmp 87))⟩,
      ⟨(some 89), (some (88, false)), .op (.move (.tmp 0))⟩,
      ⟨(some 90), (some (88, false)), .op (.bin .eql (.tmp 89) (.const (.int .u8 9)))⟩,
      ⟨(some 91), (some (88, false)), .op (.move (.tmp 90))⟩,
      ⟨(some 92), (some (91, true)), .op (.move (.tmp 15))⟩,
      ⟨(some 93), (some (91, true)), .op (.bin .gtr (.tmp 92) (.const (.int .i64 0)))⟩,
      ⟨(some 94), (some (88, false)), .op (.pick (.tmp 91) (.tmp 93) (.const (.bool false)))⟩,
      ⟨(some 95), none, .op (.pick (.tmp 88) (.const (.bool true)) (.tmp 94))⟩,
      ⟨(some 96), none, .op (.move (.tmp 95))⟩,
      ⟨(some 97), (some (96, false)), .op (.move (.tmp 0))⟩,
      ⟨(some 98), (some (96, false)), .op (.bin .eql (.tmp 97) (.const (.int .u8 10)))⟩,
      ⟨(some 99), (some (96, false)), .op (.move (.tmp 98))⟩,
      ⟨(some 100), (some (99, true)), .op (.move (.tmp 15))⟩,
      ⟨(some 101), (some (99, true)), .op (.bin .eql (.tmp 100) (.const (.int .i64 1)))⟩,
      ⟨(some 102), (some (96, false)), .op (.pick (.tmp 99) (.tmp 101) (.const (.bool false)))⟩,
      ⟨(some 103), none, .op (.pick (.tmp 96) (.const (.bool true)) (.tmp 102))⟩])
    (.cond (.tmp 103) (.region [⟨(some 16), none, .op (.move (.const (.int .i64 1)))⟩]) .skip))
    (.region [⟨(some 104), none, .op (.move (.tmp 13))⟩,
      ⟨(some 105), none, .op (.move (.tmp 16))⟩,
      ⟨(some 106), none, .op (.buildF [(.int .i64 0)] 1 [(0, (.tmp 105))])⟩,
      ⟨(some 107), none, .op (.app 3 1 8 (.tmp 104) (.tmp 106))⟩,
      ⟨(some 13), none, .op (.move (.tmp 107))⟩])))))
    (.region [⟨(some 71), none, .op (.move (.tmp 14))⟩,
      ⟨(some 72), none, .op (.bin .add (.tmp 71) (.const (.int .i64 1)))⟩,
      ⟨(some 14), none, .op (.move (.tmp 72))⟩])))
def A35 : ACode :=
  (.seq (.region [⟨(some 8), none, .op (.move (.const (.int .u64 0)))⟩,
      ⟨(some 9), none, .op (.move (.const (.int .i64 0)))⟩])
    (.seq (.seq (.region [⟨(some 17), none, .op (.move (.tmp 1))⟩,
      ⟨(some 18), none, .call (.func 45) [(.tmp 17)]⟩,
      ⟨(some 19), none, .op (.un .not (.tmp 18))⟩])
    (.cond (.tmp 19) (.seq (.region [⟨(some 8), none, .op (.move (.const (.int .u64 0)))⟩,
      ⟨(some 9), none, .op (.move (.const (.int .i64 14)))⟩])
    .ret) .skip))
    (.seq (.seq (.region [⟨(some 20), none, .op (.move (.tmp 0))⟩,
      ⟨(some 21), none, .op (.bin .lss (.tmp 20) (.const (.int .u8 5)))⟩,
      ⟨(some 22), none, .op (.move (.tmp 21))⟩,
      ⟨(some 23), (some (22, false)), .op (.move (.tmp 0))⟩,
      ⟨(some 24), (some (22, false)), .op (.bin .gtr (.tmp 23) (.const (.int .u8 18)))⟩,
      ⟨(some 25), none, .op (.pick (.tmp 22) (.const (.bool true)) (.tmp 24))⟩])
    (.cond (.tmp 25) (.seq (.region [⟨(some 8), none, .op (.move (.const (.int .u64 0)))⟩,
      ⟨(some 9), none, .op (.move (.const (.int .i64 2)))⟩])
    .ret) .skip))
    (.seq (.seq (.region [⟨(some 26), none, .op (.move (.tmp 1))⟩,
      ⟨(some 27), none, .op (.move (.tmp 2))⟩,
      ⟨(some 28), none, .call (.func 23) [(.tmp 26), (.tmp 27)]⟩,
      ⟨(some 29), none, .op (.un .not (.tmp 28))⟩,
      ⟨(some 30), none, .op (.move (.tmp 29))⟩,
      ⟨(some 31), (some (30, false)), .op (.move (.tmp 1))⟩,
      ⟨(some 32), (some (30, false)), .op (.move (.tmp 3))⟩,
      ⟨(some 33), (some (30, false)), .call (.func 23) [(.tmp 31), (.tmp 32)]⟩,
      ⟨(some 34), (some (30, false)), .op (.un .not (.tmp 33))⟩,
      ⟨(some 35), none, .op (.pick (.tmp 30) (.const (.bool true)) (.tmp 34))⟩])
    (.cond (.tmp 35) (.seq (.region [⟨(some 8), none, .op (.move (.const (.int .u64 0)))⟩,
      ⟨(some 9), none, .op (.move (.const (.int .i64 8)))⟩])
    .ret) .skip))
    (.seq (.region [⟨(some 36), none, .op (.move (.tmp 1))⟩,
      ⟨(some 37), none, .op (.move (.tmp 2))⟩,
      ⟨(some 38), none, .call (.func 51) [(.tmp 36), (.tmp 37)]⟩,
      ⟨(some 39), none, .op (.move (.tmp 1))⟩,
      ⟨(some 40), none, .op (.move (.tmp 3))⟩,
      ⟨(some 41), none, .call (.func 51) [(.tmp 39), (.tmp 40)]⟩,
      ⟨(some 10), none, .op (.move (.tmp 38))⟩,
      ⟨(some 11), none, .op (.move (.tmp 41))⟩])
    (.seq (.region [⟨(some 42), none, .op (.move (.tmp 10))⟩,
      ⟨(some 43), none, .op (.move (.tmp 1))⟩,
      ⟨(some 44), none, .op (.bin .sub (.tmp 43) (.const (.int .i64 1)))⟩,
      ⟨(some 45), none, .op (.idxA 1 (.tmp 42) (.tmp 44))⟩,
      ⟨(some 46), none, .op (.load 1 false (.tmp 45))⟩,
      ⟨(some 12), none, .op (.move (.tmp 46))⟩])
    (.seq (.region [⟨(some 13), none, .op (.move (.const (.slice none 0 0)))⟩])
    (.seq (.seq (.region [⟨(some 47), none, .op (.move (.tmp 0))⟩])
    (.block 0 (.seq (.region [⟨(some 49), none, .op (.bin .eql (.tmp 47) (.const (.int .u8 5)))⟩,
      ⟨(some 48), none, .op (.move (.tmp 49))⟩])
    (.cond (.tmp 48) (.region [⟨(some 50), none, .op (.move (.tmp 10))⟩,
      ⟨(some 51), none, .op (.move (.tmp 11))⟩,
      ⟨(some 52), none, .call (.func 53) [(.tmp 50), (.tmp 51), (.const (.int .i64 0))]⟩,
      ⟨(some 13), none, .op (.move (.tmp 52))⟩]) (.seq (.region [⟨(some 54), none, .op (.bin .eql (.tmp 47) (.const (.int .u8 6)))⟩,
      ⟨(some 53), none, .op (.move (.tmp 54))⟩])
    (.cond (.tmp 53) (.region [⟨(some 55), none, .op (.move (.tmp 10))⟩,
      ⟨(some 56), none, .op (.move (.tmp 11))⟩,
      ⟨(some 57), none, .call (.func 52) [(.tmp 56)]⟩,
      ⟨(some 58), none, .call (.func 53) [(.tmp 55), (.tmp 57), (.const (.int .i64 1))]⟩,
      ⟨(some 13), none, .op (.move (.tmp 58))⟩]) (.seq (.region [⟨(some 60), none, .op (.bin .eql (.tmp 47) (.const (.int .u8 7)))⟩,
      ⟨(some 59), none, .op (.move (.tmp 60))⟩])
    (.cond (.tmp 59) (.region [⟨(some 61), none, .op (.move (.tmp 10))⟩,
      ⟨(some 62), none, .op (.move (.tmp 11))⟩,
      ⟨(some 63), none, .call (.func 56) [(.tmp 61), (.tmp 62)]⟩,
      ⟨(some 13), none, .op (.move (.tmp 63))⟩]) (.seq (.seq (.region [⟨(some 65), none, .op (.bin .eql (.tmp 47) (.const (.int .u8 8)))⟩,
      ⟨(some 64), none, .op (.move (.tmp 65))⟩])
    (.cond (.tmp 64) .skip (.seq (.region [⟨(some 66), none, .op (.bin .eql (.tmp 47) (.const (.int .u8 9)))⟩,
      ⟨(some 64), none, .op (.move (.tmp 66))⟩])
    (.cond (.tmp 64) .skip (.region [⟨(some 67), none, .op (.bin .eql (.tmp 47) (.const (.int .u8 10)))⟩,
      ⟨(some 64), none, .op (.move (.tmp 67))⟩])))))
    (.cond (.tmp 64) (.seq (.region [⟨(some 14), none, .op (.move (.const (.int .i64 0)))⟩])
    (.block 1 (.loop A35l0))) (.seq (.region [⟨(some 109), none, .op (.bin .eql (.tmp 47) (.const (.int .u8 11)))⟩,
      ⟨(some 108), none, .op (.move (.tmp 109))⟩])
    (.cond (.tmp 108) (.region [⟨(some 110), none, .op (.move (.tmp 10))⟩,
      ⟨(some 111), none, .op (.move (.tmp 3))⟩,
      ⟨(some 112), none, .call (.func 58) [(.tmp 111)]⟩,
      ⟨(some 113), none, .op (.un .neg (.tmp 112))⟩,
      ⟨(some 114), none, .call (.func 57) [(.tmp 110), (.tmp 113), (.const (.int .i64 0))]⟩,
      ⟨(some 13), none, .op (.move (.tmp 114))⟩]) (.seq (.region [⟨(some 116), none, .op (.bin .eql (.tmp 47) (.const (.int .u8 12)))⟩,
      ⟨(some 115), none, .op (.move (.tmp 116))⟩])
    (.cond (.tmp 115) (.region [⟨(some 117), none, .op (.move (.tmp 10))⟩,
      ⟨(some 118), none, .op (.move (.tmp 3))⟩,
      ⟨(some 119), none, .call (.func 58) [(.tmp 118)]⟩,
      ⟨(some 120), none, .call (.func 57) [(.tmp 117), (.tmp 119), (.const (.int .i64 0))]⟩,
      ⟨(some 13), none, .op (.move (.tmp 120))⟩]) (.seq (.region [⟨(some 122), none, .op (.bin .eql (.tmp 47) (.const (.int .u8 13)))⟩,
      ⟨(some 121), none, .op (.move (.tmp 122))⟩])
    (.cond (.tmp 121) (.region [⟨(some 123), none, .op (.move (.tmp 10))⟩,
      ⟨(some 124), none, .op (.move (.tmp 3))⟩,
      ⟨(some 125), none, .call (.func 58) [(.tmp 124)]⟩,
      ⟨(some 126), none, .op (.move (.tmp 12))⟩,
      ⟨(some 127), none, .call (.func 57) [(.tmp 123), (.tmp 125), (.tmp 126)]⟩,
      ⟨(some 13), none, .op (.move (.tmp 127))⟩]) (.seq (.region [⟨(some 129), none, .op (.bin .eql (.tmp 47) (.const (.int .u8 14)))⟩,
      ⟨(some 128), none, .op (.move (.tmp 129))⟩])
    (.cond (.tmp 128) (.region [⟨(some 131), none, .op (.move (.tmp 10))⟩,
      ⟨(some 132), none, .op (.move (.tmp 11))⟩,
      ⟨(some 133), none, .call (.func 59) [(.tmp 131), (.tmp 132)]⟩,
      ⟨(some 130), none, .op (.move (.tmp 133))⟩,
      ⟨(some 134), none, .op (.ext (.tmp 130) 0)⟩,
      ⟨(some 135), none, .op (.ext (.tmp 130) 1)⟩,
      ⟨(some 13), none, .op (.move (.tmp 134))⟩]) (.seq (.region [⟨(some 137), none, .op (.bin .eql (.tmp 47) (.const (.int .u8 15)))⟩,
      ⟨(some 136), none, .op (.move (.tmp 137))⟩])
    (.cond (.tmp 136) (.region [⟨(some 139), none, .op (.move (.tmp 10))⟩,
      ⟨(some 140), none, .op (.move (.tmp 11))⟩,
      ⟨(some 141), none, .call (.func 59) [(.tmp 139), (.tmp 140)]⟩,
      ⟨(some 138), none, .op (.move (.tmp 141))⟩,
      ⟨(some 142), none, .op (.ext (.tmp 138) 0)⟩,
      ⟨(some 143), none, .op (.ext (.tmp 138) 1)⟩,
      ⟨(some 13), none, .op (.move (.tmp 143))⟩]) (.seq (.region [⟨(some 145), none, .op (.bin .eql (.tmp 47) (.const (.int .u8 16)))⟩,
      ⟨(some 144), none, .op (.move (.tmp 145))⟩])
    (.cond (.tmp 144) (.seq (.region [⟨(some 146), none, .op (.move (.tmp 2))⟩,
      ⟨(some 147), none, .op (.move (.tmp 3))⟩,
      ⟨(some 148), none, .op (.bin .eql (.tmp 146) (.tmp 147))⟩,
      ⟨(some 149), none, .call (.func 60) [(.tmp 148)]⟩,
      ⟨(some 8), none, .op (.move (.tmp 149))⟩,
      ⟨(some 9), none, .op (.move (.const (.int .i64 0)))⟩])
    .ret) (.seq (.region [⟨(some 151), none, .op (.bin .eql (.tmp 47) (.const (.int .u8 17)))⟩,
      ⟨(some 150), none, .op (.move (.tmp 151))⟩])
    (.cond (.tmp 150) (.seq (.region [⟨(some 152), none, .op (.move (.tmp 10))⟩,
      ⟨(some 153), none, .op (.move (.tmp 11))⟩,
      ⟨(some 154), none, .call (.func 61) [(.tmp 152), (.tmp 153)]⟩,
      ⟨(some 155), none, .call (.func 60) [(.tmp 154)]⟩,
      ⟨(some 8), none, .op (.move (.tmp 155))⟩,
      ⟨(some 9), none, .op (.move (.const (.int .i64 0)))⟩])
    .ret) (.seq (.region [⟨(some 157), none, .op (.bin .eql (.tmp 47) (.const (.int .u8 18)))⟩,
      ⟨(some 156), none, .op (.move (.tmp 157))⟩])
    (.cond (.tmp 156) (.seq (.seq (.region [⟨(some 158), none, .op (.move (.tmp 12))⟩,
      ⟨(some 159), none, .op (.move (.tmp 11))⟩,
      ⟨(some 160), none, .op (.move (.tmp 1))⟩,
      ⟨(some 161), none, .op (.bin .sub (.tmp 160) (.const (.int .i64 1)))⟩,
      ⟨(some 162), none, .op (.idxA 1 (.tmp 159) (.tmp 161))⟩,
      ⟨(some 163), none, .op (.load 1 false (.tmp 162))⟩,
      ⟨(some 164), none, .op (.bin .neq (.tmp 158) (.tmp 163))⟩])
    (.cond (.tmp 164) (.seq (.region [⟨(some 165), none, .op (.move (.tmp 12))⟩,
      ⟨(some 166), none, .op (.bin .eql (.tmp 165) (.const (.int .i64 1)))⟩,
      ⟨(some 167), none, .call (.func 60) [(.tmp 166)]⟩,
      ⟨(some 8), none, .op (.move (.tmp 167))⟩,
      ⟨(some 9), none, .op (.move (.const (.int .i64 0)))⟩])
    .ret) .skip))
    (.seq (.region [⟨(some 168), none, .op (.move (.tmp 10))⟩,
      ⟨(some 169), none, .op (.move (.tmp 11))⟩,
      ⟨(some 170), none, .call (.func 61) [(.tmp 168), (.tmp 169)]⟩,
      ⟨(some 171), none, .call (.func 60) [(.tmp 170)]⟩,
      ⟨(some 8), none, .op (.move (.tmp 171))⟩,
      ⟨(some 9), none, .op (.move (.const (.int .i64 0)))⟩])
    .ret)) .skip))))))))))))))))))))))))))
    (.seq (.region [⟨(some 172), none, .op (.move (.tmp 13))⟩,
      ⟨(some 173), none, .call (.func 50) [(.tmp 172)]⟩,
      ⟨(some 8), none, .op (.move (.tmp 173))⟩,
      ⟨(some 9), none, .op (.move (.const (.int .i64 0)))⟩])
    .ret)))))))))
def R35 : List RV := [.tmp 8, .tmp 9]
theorem is35 : Is Try.prog (fun _ _ => false) 35 174 A35 R35 := ⟨Try.f35, Try.func35, rfl, by kernel_rfl, by kernel_rfl, Try.call35⟩
def A52l0 : ACode :=
  (.seq (.seq (.region [⟨(some 5), none, .op (.move (.tmp 4))⟩,
      ⟨(some 6), none, .op (.move (.tmp 0))⟩,
      ⟨(some 7), none, .op (.len (.tmp 6))⟩,
      ⟨(some 8), none, .op (.bin .lss (.tmp 5) (.tmp 7))⟩])
    (.cond (.tmp 8) .skip (.exit 0)))
    (.seq (.block 1 (.region [⟨(some 11), none, .op (.move (.tmp 3))⟩,
      ⟨(some 12), none, .op (.move (.tmp 0))⟩,
      ⟨(some 13), none, .op (.move (.tmp 4))⟩,
      ⟨(some 14), none, .op (.idxA 1 (.tmp 12) (.tmp 13))⟩,
      ⟨(some 15), none, .op (.load 1 false (.tmp 14))⟩,
      ⟨(some 16), none, .op (.bin .sub (.const (.int .i64 1)) (.tmp 15))⟩,
      ⟨(some 17), none, .op (.buildF [(.int .i64 0)] 1 [(0, (.tmp 16))])⟩,
      ⟨(some 18), none, .op (.app 3 1 8 (.tmp 11) (.tmp 17))⟩,
      ⟨(some 3), none, .op (.move (.tmp 18))⟩]))
    (.region [⟨(some 9), none, .op (.move (.tmp 4))⟩,
      ⟨(some 10), none, .op (.bin .add (.tmp 9) (.const (.int .i64 1)))⟩,
      ⟨(some 4), none, .op (.move (.tmp 10))⟩])))
def A52 : ACode :=
  (.seq (.region [⟨(some 2), none, .op (.move (.const (.slice none 0 0)))⟩])
    (.seq (.region [⟨(some 3), none, .op (.move (.const (.slice none 0 0)))⟩])
    (.seq (.seq (.region [⟨(some 4), none, .op (.move (.const (.int .i64 0)))⟩])
    (.block 0 (.loop A52l0)))
    (.seq (.region [⟨(some 19), none, .op (.move (.tmp 3))⟩,
      ⟨(some 2), none, .op (.move (.tmp 19))⟩])
    .ret))))
def R52 : List RV := [.tmp 2]
theorem is52 : Is Try.prog (fun _ _ => false) 52 20 A52 R52 := ⟨Try.f52, Try.func52, rfl, by kernel_rfl, by kernel_rfl, Try.call52⟩
def A53l0 : ACode :=
  (.seq (.seq (.region [⟨(some 10), none, .op (.move (.tmp 8))⟩,
      ⟨(some 11), none, .op (.move (.tmp 0))⟩,
      ⟨(some 12), none, .op (.len (.tmp 11))⟩,
      ⟨(some 13), none, .op (.bin .lss (.tmp 10) (.tmp 12))⟩])
    (.cond (.tmp 13) .skip (.exit 0)))
    (.seq (.block 1 (.seq (.dregion [⟨0, ⟨(some 16), none, .op (.move (.tmp 0))⟩, []⟩,
      ⟨1, ⟨(some 17), none, .op (.move (.tmp 8))⟩, []⟩,
      ⟨2, ⟨(some 18), none, .op (.idxA 1 (.tmp 16) (.tmp 17))⟩, []⟩,
      ⟨3, ⟨(some 19), none, .op (.load 1 false (.tmp 18))⟩, []⟩,
      ⟨4, ⟨(some 20), none, .op (.move (.tmp 1))⟩, []⟩,
      ⟨5, ⟨(some 21), none, .op (.move (.tmp 8))⟩, []⟩,
      ⟨6, ⟨(some 22), none, .op (.idxA 1 (.tmp 20) (.tmp 21))⟩, []⟩,
      ⟨7, ⟨(some 23), none, .op (.load 1 false (.tmp 22))⟩, []⟩,
      ⟨8, ⟨(some 24), none, .op (.bin .add (.tmp 19) (.tmp 23))⟩, []⟩,
      ⟨9, ⟨(some 25), none, .op (.move (.tmp 2))⟩, []⟩,
      ⟨10, ⟨(some 26), none, .op (.bin .add (.tmp 24) (.tmp 25))⟩, []⟩,
      ⟨11, ⟨(some 9), none, .op (.move (.tmp 26))⟩, []⟩])
    (.seq (.region [⟨(some 27), none, .op (.move (.tmp 7))⟩,
      ⟨(some 28), none, .op (.move (.tmp 9))⟩,
      ⟨(some 29), none, .op (.bin .rem (.tmp 28) (.const (.int .i64 2)))⟩,
      ⟨(some 30), none, .op (.buildF [(.int .i64 0)] 1 [(0, (.tmp 29))])⟩,
      ⟨(some 31), none, .op (.app 3 1 8 (.tmp 27) (.tmp 30))⟩,
      ⟨(some 7), none, .op (.move (.tmp 31))⟩])
    (.region [⟨(some 32), none, .op (.move (.tmp 9))⟩,
      ⟨(some 33), none, .op (.bin .quo (.tmp 32) (.const (.int .i64 2)))⟩,
      ⟨(some 2), none, .op (.move (.tmp 33))⟩]))))
    (.region [⟨(some 14), none, .op (.move (.tmp 8))⟩,
      ⟨(some 15), none, .op (.bin .add (.tmp 14) (.const (.int .i64 1)))⟩,
      ⟨(some 8), none, .op (.move (.tmp 15))⟩])))
def A53 : ACode :=
  (.seq (.region [⟨(some 6), none, .op (.move (.const (.slice none 0 0)))⟩])
    (.seq (.region [⟨(some 7), none, .op (.move (.const (.slice none 0 0)))⟩])
    (.seq (.seq (.region [⟨(some 8), none, .op (.move (.const (.int .i64 0)))⟩])
    (.block 0 (.loop A53l0)))
    (.seq (.region [⟨(some 34), none, .op (.move (.tmp 7))⟩,
      ⟨(some 6), none, .op (.move (.tmp 34))⟩])
    .ret))))
def R53 : List RV := [.tmp 6]
theorem is53 : Is Try.prog (fun _ _ => false) 53 35 A53 R53 := ⟨Try.f53, Try.func53, rfl, by kernel_rfl, by kernel_rfl, Try.call53⟩
def A54 : ACode :=
  (.seq (.region [⟨(some 2), none, .op (.move (.const (.slice none 0 0)))⟩])
    (.seq (.region [⟨(some 3), none, .op (.move (.tmp 0))⟩,
      ⟨(some 4), none, .op (.mksl 3 [(.int .i64 0)] 8 (.tmp 3) (.tmp 3))⟩,
      ⟨(some 2), none, .op (.move (.tmp 4))⟩])
    .ret))
def R54 : List RV := [.tmp 2]
theorem is54 : Is Try.prog (fun _ _ => false) 54 5 A54 R54 := ⟨Try.f54, Try.func54, rfl, by kernel_rfl, by kernel_rfl, Try.call54⟩
def A56l0 : ACode :=
  (.seq (.seq (.region [⟨(some 10), none, .op (.move (.tmp 6))⟩,
      ⟨(some 11), none, .op (.move (.tmp 1))⟩,
      ⟨(some 12), none, .op (.len (.tmp 11))⟩,
      ⟨(some 13), none, .op (.bin .lss (.tmp 10) (.tmp 12))⟩])
    (.cond (.tmp 13) .skip (.exit 0)))
    (.seq (.block 1 (.seq (.seq (.region [⟨(some 16), none, .op (.move (.tmp 1))⟩,
      ⟨(some 17), none, .op (.move (.tmp 6))⟩,
      ⟨(some 18), none, .op (.idxA 1 (.tmp 16) (.tmp 17))⟩,
      ⟨(some 19), none, .op (.load 1 false (.tmp 18))⟩,
      ⟨(some 20), none, .op (.bin .eql (.tmp 19) (.const (.int .i64 1)))⟩])
    (.cond (.tmp 20) (.region [⟨(some 21), none, .op (.move (.tmp 5))⟩,
      ⟨(some 22), none, .op (.move (.tmp 0))⟩,
      ⟨(some 23), none, .call (.func 53) [(.tmp 21), (.tmp 22), (.const (.int .i64 0))]⟩,
      ⟨(some 5), none, .op (.move (.tmp 23))⟩]) .skip))
    (.region [⟨(some 24), none, .op (.move (.tmp 0))⟩,
      ⟨(some 25), none, .call (.func 78) [(.tmp 24)]⟩,
      ⟨(some 0), none, .op (.move (.tmp 25))⟩])))
    (.region [⟨(some 14), none, .op (.move (.tmp 6))⟩,
      ⟨(some 15), none, .op (.bin .add (.tmp 14) (.const (.int .i64 1)))⟩,
      ⟨(some 6), none, .op (.move (.tmp 15))⟩])))
def A56 : ACode :=
  (.seq (.region [⟨(some 4), none, .op (.move (.const (.slice none 0 0)))⟩])
    (.seq (.region [⟨(some 7), none, .op (.move (.tmp 0))⟩,
      ⟨(some 8), none, .op (.len (.tmp 7))⟩,
      ⟨(some 9), none, .call (.func 54) [(.tmp 8)]⟩,
      ⟨(some 5), none, .op (.move (.tmp 9))⟩])
    (.seq (.seq (.region [⟨(some 6), none, .op (.move (.const (.int .i64 0)))⟩])
    (.block 0 (.loop A56l0)))
    (.seq (.region [⟨(some 26), none, .op (.move (.tmp 5))⟩,
      ⟨(some 4), none, .op (.move (.tmp 26))⟩])
    .ret))))
def R56 : List RV := [.tmp 4]
theorem is56 : Is Try.prog (fun _ _ => false) 56 27 A56 R56 := ⟨Try.f56, Try.func56, rfl, by kernel_rfl, by kernel_rfl, Try.call56⟩
def A57l0 : ACode :=
  (.seq (.seq (.region [⟨(some 9), none, .op (.move (.tmp 8))⟩,
      ⟨(some 10), none, .op (.move (.tmp 0))⟩,
      ⟨(some 11), none, .op (.len (.tmp 10))⟩,
      ⟨(some 12), none, .op (.bin .lss (.tmp 9) (.tmp 11))⟩])
    (.cond (.tmp 12) .skip (.exit 0)))
    (.seq (.block 1 (.block 2 (.seq (.region [⟨(some 25), none, .op (.move (.tmp 8))⟩,
      ⟨(some 26), none, .op (.move (.tmp 1))⟩,
      ⟨(some 27), none, .op (.bin .add (.tmp 25) (.tmp 26))⟩,
      ⟨(some 28), none, .op (.bin .lss (.tmp 27) (.const (.int .i64 0)))⟩,
      ⟨(some 24), none, .op (.move (.tmp 28))⟩])
    (.cond (.tmp 24) (.region [⟨(some 29), none, .op (.move (.tmp 7))⟩,
      ⟨(some 30), none, .op (.buildF [(.int .i64 0)] 1 [(0, (.const (.int .i64 0)))])⟩,
      ⟨(some 31), none, .op (.app 3 1 8 (.tmp 29) (.tmp 30))⟩,
      ⟨(some 7), none, .op (.move (.tmp 31))⟩]) (.seq (.region [⟨(some 33), none, .op (.move (.tmp 8))⟩,
      ⟨(some 34), none, .op (.move (.tmp 1))⟩,
      ⟨(some 35), none, .op (.bin .add (.tmp 33) (.tmp 34))⟩,
      ⟨(some 36), none, .op (.move (.tmp 0))⟩,
      ⟨(some 37), none, .op (.len (.tmp 36))⟩,
      ⟨(some 38), none, .op (.bin .geq (.tmp 35) (.tmp 37))⟩,
      ⟨(some 32), none, .op (.move (.tmp 38))⟩])
    (.cond (.tmp 32) (.region [⟨(some 39), none, .op (.move (.tmp 7))⟩,
      ⟨(some 40), none, .op (.move (.tmp 2))⟩,
      ⟨(some 41), none, .op (.buildF [(.int .i64 0)] 1 [(0, (.tmp 40))])⟩,
      ⟨(some 42), none, .op (.app 3 1 8 (.tmp 39) (.tmp 41))⟩,
      ⟨(some 7), none, .op (.move (.tmp 42))⟩]) (.region [⟨(some 15), none, .op (.move (.tmp 7))⟩,
      ⟨(some 16), none, .op (.move (.tmp 0))⟩,
      ⟨(some 17), none, .op (.move (.tmp 8))⟩,
      ⟨(some 18), none, .op (.move (.tmp 1))⟩,
      ⟨(some 19), none, .op (.bin .add (.tmp 17) (.tmp 18))⟩,
      ⟨(some 20), none, .op (.idxA 1 (.tmp 16) (.tmp 19))⟩,
      ⟨(some 21), none, .op (.load 1 false (.tmp 20))⟩,
      ⟨(some 22), none, .op (.buildF [(.int .i64 0)] 1 [(0, (.tmp 21))])⟩,
      ⟨(some 23), none, .op (.app 3 1 8 (.tmp 15) (.tmp 22))⟩,
      ⟨(some 7), none, .op (.move (.tmp 23))⟩])))))))
    (.region [⟨(some 13), none, .op (.move (.tmp 8))⟩,
      ⟨(some 14), none, .op (.bin .add (.tmp 13) (.const (.int .i64 1)))⟩,
      ⟨(some 8), none, .op (.move (.tmp 14))⟩])))
def A57 : ACode :=
  (.seq (.region [⟨(some 6), none, .op (.move (.const (.slice none 0 0)))⟩])
    (.seq (.region [⟨(some 7), none, .op (.move (.const (.slice none 0 0)))⟩])
    (.seq (.seq (.region [⟨(some 8), none, .op (.move (.const (.int .i64 0)))⟩])
    (.block 0 (.loop A57l0)))
    (.seq (.region [⟨(some 43), none, .op (.move (.tmp 7))⟩,
      ⟨(some 6), none, .op (.move (.tmp 43))⟩])
    .ret))))
def R57 : List RV := [.tmp 6]
theorem is57 : Is Try.prog (fun _ _ => false) 57 44 A57 R57 := ⟨Try.f57, Try.func57, rfl, by kernel_rfl, by kernel_rfl, Try.call57⟩
def A58l0 : ACode :=
  (.seq (.seq (.region [⟨(some 4), none, .op (.move (.tmp 3))⟩,
      ⟨(some 5), none, .op (.bin .lss (.tmp 4) (.const (.int .i64 64)))⟩,
      ⟨(some 6), none, .op (.move (.tmp 5))⟩,
      ⟨(some 7), (some (6, true)), .op (.move (.tmp 3))⟩,
      ⟨(some 8), (some (6, true)), .op (.conv .u64 (.tmp 7))⟩,
      ⟨(some 9), (some (6, true)), .op (.move (.tmp 0))⟩,
      ⟨(some 10), (some (6, true)), .op (.bin .lss (.tmp 8) (.tmp 9))⟩,
      ⟨(some 11), none, .op (.pick (.tmp 6) (.tmp 10) (.const (.bool false)))⟩])
    (.cond (.tmp 11) .skip (.exit 0)))
    (.block 1 (.region [⟨(some 12), none, .op (.move (.tmp 3))⟩,
      ⟨(some 13), none, .op (.bin .add (.tmp 12) (.const (.int .i64 1)))⟩,
      ⟨(some 3), none, .op (.move (.tmp 13))⟩])))
def A58 : ACode :=
  (.seq (.region [⟨(some 2), none, .op (.move (.const (.int .i64 0)))⟩])
    (.seq (.region [⟨(some 3), none, .op (.move (.const (.int .i64 0)))⟩])
    (.seq (.block 0 (.loop A58l0))
    (.seq (.region [⟨(some 14), none, .op (.move (.tmp 3))⟩,
      ⟨(some 2), none, .op (.move (.tmp 14))⟩])
    .ret))))
def R58 : List RV := [.tmp 2]
theorem is58 : Is Try.prog (fun _ _ => false) 58 15 A58 R58 := ⟨Try.f58, Try.func58, rfl, by kernel_rfl, by kernel_rfl, Try.call58⟩
def A59l0 : ACode :=
  (.seq (.seq (.region [⟨(some 33), none, .op (.move (.tmp 9))⟩,
      ⟨(some 34), none, .op (.bin .geq (.tmp 33) (.const (.int .i64 0)))⟩])
    (.cond (.tmp 34) .skip (.exit 0)))
    (.seq (.block 1 (.seq (.region [⟨(some 37), none, .op (.move (.tmp 7))⟩,
      ⟨(some 38), none, .call (.func 78) [(.tmp 37)]⟩,
      ⟨(some 7), none, .op (.move (.tmp 38))⟩])
    (.seq (.region [⟨(some 39), none, .op (.move (.tmp 7))⟩,
      ⟨(some 40), none, .op (.move (.tmp 0))⟩,
      ⟨(some 41), none, .op (.move (.tmp 9))⟩,
      ⟨(some 42), none, .op (.idxA 1 (.tmp 40) (.tmp 41))⟩,
      ⟨(some 43), none, .op (.load 1 false (.tmp 42))⟩,
      ⟨(some 44), none, .op (.idxA 1 (.tmp 39) (.const (.int .i64 0)))⟩,
      ⟨none, none, .op (.store 1 (.tmp 44) (.tmp 43))⟩])
    (.seq (.region [⟨(some 45), none, .op (.move (.tmp 7))⟩,
      ⟨(some 46), none, .op (.move (.tmp 8))⟩,
      ⟨(some 47), none, .call (.func 61) [(.tmp 45), (.tmp 46)]⟩,
      ⟨(some 48), none, .op (.un .not (.tmp 47))⟩])
    (.cond (.tmp 48) (.seq (.region [⟨(some 49), none, .op (.move (.tmp 7))⟩,
      ⟨(some 50), none, .op (.move (.tmp 8))⟩,
      ⟨(some 51), none, .call (.func 52) [(.tmp 50)]⟩,
      ⟨(some 52), none, .call (.func 53) [(.tmp 49), (.tmp 51), (.const (.int .i64 1))]⟩,
      ⟨(some 7), none, .op (.move (.tmp 52))⟩])
    (.region [⟨(some 53), none, .op (.move (.tmp 6))⟩,
      ⟨(some 54), none, .op (.move (.tmp 9))⟩,
      ⟨(some 55), none, .op (.idxA 1 (.tmp 53) (.tmp 54))⟩,
      ⟨none, none, .op (.store 1 (.tmp 55) (.const (.int .i64 1)))⟩])) .skip)))))
    (.region [⟨(some 35), none, .op (.move (.tmp 9))⟩,
      ⟨(some 36), none, .op (.bin .sub (.tmp 35) (.const (.int .i64 1)))⟩,
      ⟨(some 9), none, .op (.move (.tmp 36))⟩])))
def A59 : ACode :=
  (.seq (.region [⟨(some 4), none, .op (.move (.const (.slice none 0 0)))⟩,
      ⟨(some 5), none, .op (.move (.const (.slice none 0 0)))⟩])
    (.seq (.seq (.region [⟨(some 10), none, .op (.move (.tmp 1))⟩,
      ⟨(some 11), none, .call (.func 50) [(.tmp 10)]⟩,
      ⟨(some 12), none, .op (.bin .eql (.tmp 11) (.const (.int .u64 0)))⟩])
    (.cond (.tmp 12) (.seq (.region [⟨(some 13), none, .op (.move (.tmp 0))⟩,
      ⟨(some 14), none, .op (.len (.tmp 13))⟩,
      ⟨(some 15), none, .call (.func 54) [(.tmp 14)]⟩,
      ⟨(some 16), none, .call (.func 52) [(.tmp 15)]⟩,
      ⟨(some 17), none, .op (.move (.tmp 0))⟩,
      ⟨(some 4), none, .op (.move (.tmp 16))⟩,
      ⟨(some 5), none, .op (.move (.tmp 17))⟩])
    .ret) .skip))
    (.seq (.region [⟨(some 18), none, .op (.move (.tmp 0))⟩,
      ⟨(some 19), none, .op (.len (.tmp 18))⟩,
      ⟨(some 20), none, .call (.func 54) [(.tmp 19)]⟩,
      ⟨(some 21), none, .op (.move (.tmp 0))⟩,
      ⟨(some 22), none, .op (.len (.tmp 21))⟩,
      ⟨(some 23), none, .op (.bin .add (.tmp 22) (.const (.int .i64 1)))⟩,
      ⟨(some 24), none, .call (.func 54) [(.tmp 23)]⟩,
      ⟨(some 6), none, .op (.move (.tmp 20))⟩,
      ⟨(some 7), none, .op (.move (.tmp 24))⟩])
    (.seq (.region [⟨(some 25), none, .op (.buildO 3 [(.int .i64 0)] 0 [])⟩,
      ⟨(some 26), none, .op (.move (.tmp 1))⟩,
      ⟨(some 27), none, .op (.app 3 1 8 (.tmp 25) (.tmp 26))⟩,
      ⟨(some 28), none, .op (.buildF [(.int .i64 0)] 1 [(0, (.const (.int .i64 0)))])⟩,
      ⟨(some 29), none, .op (.app 3 1 8 (.tmp 27) (.tmp 28))⟩,
      ⟨(some 8), none, .op (.move (.tmp 29))⟩])
    (.seq (.seq (.region [⟨(some 30), none, .op (.move (.tmp 0))⟩,
      ⟨(some 31), none, .op (.len (.tmp 30))⟩,
      ⟨(some 32), none, .op (.bin .sub (.tmp 31) (.const (.int .i64 1)))⟩,
      ⟨(some 9), none, .op (.move (.tmp 32))⟩])
    (.block 0 (.loop A59l0)))
    (.seq (.dregion [⟨0, ⟨(some 56), none, .op (.move (.tmp 6))⟩, []⟩,
      ⟨1, ⟨(some 57), none, .op (.move (.tmp 7))⟩, []⟩,
      ⟨2, ⟨(some 58), none, .op (.move (.tmp 0))⟩, []⟩,
      ⟨3, ⟨(some 59), none, .op (.len (.tmp 58))⟩, []⟩,
      ⟨4, ⟨(some 60), none, .op (.slc 1 (.tmp 57) none (some (.tmp 59)) none)⟩, []⟩,
      ⟨5, ⟨(some 4), none, .op (.move (.tmp 56))⟩, []⟩,
      ⟨6, ⟨(some 5), none, .op (.move (.tmp 60))⟩, []⟩])
    .ret))))))
def R59 : List RV := [.tmp 4, .tmp 5]
theorem is59 : Is Try.prog (fun r i => [(4, 0)].contains (r, i)) 59 61 A59 R59 := ⟨Try.f59, Try.func59, rfl, by kernel_rfl, by kernel_rfl, Try.call59⟩
def A60 : ACode :=
  (.seq (.region [⟨(some 2), none, .op (.move (.const (.int .u64 0)))⟩])
    (.seq (.seq (.region [⟨(some 3), none, .op (.move (.tmp 0))⟩])
    (.cond (.tmp 3) (.seq (.region [⟨(some 2), none, .op (.move (.const (.int .u64 1)))⟩])
    .ret) .skip))
    (.seq (.region [⟨(some 2), none, .op (.move (.const (.int .u64 0)))⟩])
    .ret)))
def R60 : List RV := [.tmp 2]
theorem is60 : Is Try.prog (fun _ _ => false) 60 4 A60 R60 := ⟨Try.f60, Try.func60, rfl, by kernel_rfl, by kernel_rfl, Try.call60⟩
def A61l0 : ACode :=
  (.seq (.seq (.region [⟨(some 9), none, .op (.move (.tmp 5))⟩,
      ⟨(some 10), none, .op (.bin .geq (.tmp 9) (.const (.int .i64 0)))⟩])
    (.cond (.tmp 10) .skip (.exit 0)))
    (.seq (.block 1 (.seq (.dregion [⟨0, ⟨(some 13), none, .op (.move (.tmp 0))⟩, []⟩,
      ⟨1, ⟨(some 14), none, .op (.move (.tmp 5))⟩, []⟩,
      ⟨2, ⟨(some 15), none, .op (.idxA 1 (.tmp 13) (.tmp 14))⟩, []⟩,
      ⟨3, ⟨(some 16), none, .op (.load 1 false (.tmp 15))⟩, []⟩,
      ⟨4, ⟨(some 17), none, .op (.move (.tmp 1))⟩, []⟩,
      ⟨5, ⟨(some 18), none, .op (.move (.tmp 5))⟩, []⟩,
      ⟨6, ⟨(some 19), none, .op (.idxA 1 (.tmp 17) (.tmp 18))⟩, []⟩,
      ⟨7, ⟨(some 20), none, .op (.load 1 false (.tmp 19))⟩, []⟩,
      ⟨8, ⟨(some 21), none, .op (.bin .neq (.tmp 16) (.tmp 20))⟩, []⟩])
    (.cond (.tmp 21) (.seq (.dregion [⟨0, ⟨(some 22), none, .op (.move (.tmp 0))⟩, []⟩,
      ⟨1, ⟨(some 23), none, .op (.move (.tmp 5))⟩, []⟩,
      ⟨2, ⟨(some 24), none, .op (.idxA 1 (.tmp 22) (.tmp 23))⟩, []⟩,
      ⟨3, ⟨(some 25), none, .op (.load 1 false (.tmp 24))⟩, []⟩,
      ⟨4, ⟨(some 26), none, .op (.move (.tmp 1))⟩, []⟩,
      ⟨5, ⟨(some 27), none, .op (.move (.tmp 5))⟩, []⟩,
      ⟨6, ⟨(some 28), none, .op (.idxA 1 (.tmp 26) (.tmp 27))⟩, []⟩,
      ⟨7, ⟨(some 29), none, .op (.load 1 false (.tmp 28))⟩, []⟩,
      ⟨8, ⟨(some 30), none, .op (.bin .lss (.tmp 25) (.tmp 29))⟩, []⟩,
      ⟨9, ⟨(some 4), none, .op (.move (.tmp 30))⟩, []⟩])
    .ret) .skip)))
    (.region [⟨(some 11), none, .op (.move (.tmp 5))⟩,
      ⟨(some 12), none, .op (.bin .sub (.tmp 11) (.const (.int .i64 1)))⟩,
      ⟨(some 5), none, .op (.move (.tmp 12))⟩])))
def A61 : ACode :=
  (.seq (.region [⟨(some 4), none, .op (.move (.const (.bool false)))⟩])
    (.seq (.seq (.region [⟨(some 6), none, .op (.move (.tmp 0))⟩,
      ⟨(some 7), none, .op (.len (.tmp 6))⟩,
      ⟨(some 8), none, .op (.bin .sub (.tmp 7) (.const (.int .i64 1)))⟩,
      ⟨(some 5), none, .op (.move (.tmp 8))⟩])
    (.block 0 (.loop A61l0)))
    (.seq (.region [⟨(some 4), none, .op (.move (.const (.bool false)))⟩])
    .ret)))
def R61 : List RV := [.tmp 4]
theorem is61 : Is Try.prog (fun _ _ => false) 61 31 A61 R61 := ⟨Try.f61, Try.func61, rfl, by kernel_rfl, by kernel_rfl, Try.call61⟩
def A78 : ACode :=
  (.seq (.region [⟨(some 2), none, .op (.move (.const (.slice none 0 0)))⟩])
    (.seq (.region [⟨(some 3), none, .op (.buildO 3 [(.int .i64 0)] 1 [(0, (.const (.int .i64 0)))])⟩,
      ⟨(some 4), none, .op (.move (.tmp 0))⟩,
      ⟨(some 5), none, .op (.move (.tmp 0))⟩,
      ⟨(some 6), none, .op (.len (.tmp 5))⟩,
      ⟨(some 7), none, .op (.bin .sub (.tmp 6) (.const (.int .i64 1)))⟩,
      ⟨(some 8), none, .op (.slc 1 (.tmp 4) none (some (.tmp 7)) none)⟩,
      ⟨(some 9), none, .op (.app 3 1 8 (.tmp 3) (.tmp 8))⟩,
      ⟨(some 2), none, .op (.move (.tmp 9))⟩])
    .ret))
def R78 : List RV := [.tmp 2]
theorem is78 : Is Try.prog (fun r i => [(1, 0)].contains (r, i)) 78 10 A78 R78 := ⟨Try.f78, Try.func78, rfl, by kernel_rfl, by kernel_rfl, Try.call78⟩
end Go.Proofs.Ytcnnanicdjdddaa
