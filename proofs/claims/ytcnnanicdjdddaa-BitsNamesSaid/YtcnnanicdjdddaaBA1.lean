/- The abstract code of the functions that the statements reach. -/
import Derived.Test.YtcnnanicdjdddaaCore21
import Derived.Test.YtcnnanicdjdddaaRows
import Derived.KernelRfl
namespace Go.Proofs.Ytcnnanicdjdddaa
open Go Go.Ab Go.Proofs
set_option maxRecDepth 100000
theorem mixed : Try.prog.follows .mixedOrders = true := by kernel_rfl
def A4 : ACode :=
  (.seq (.region [⟨(some 12), none, .op (.move (.const (.bool false)))⟩])
    (.seq (.region [⟨(some 22), none, .op (.move (.tmp 0))⟩,
      ⟨(some 23), none, .op (.move (.tmp 2))⟩,
      ⟨(some 24), none, .call (.func 18) [(.tmp 22), (.tmp 23)]⟩,
      ⟨(some 21), none, .op (.move (.tmp 24))⟩,
      ⟨(some 25), none, .op (.ext (.tmp 21) 0)⟩,
      ⟨(some 26), none, .op (.ext (.tmp 21) 1)⟩,
      ⟨(some 13), none, .op (.move (.tmp 25))⟩,
      ⟨(some 14), none, .op (.move (.tmp 26))⟩])
    (.seq (.region [⟨(some 28), none, .op (.move (.tmp 0))⟩,
      ⟨(some 29), none, .op (.move (.tmp 2))⟩,
      ⟨(some 30), none, .call (.func 19) [(.tmp 28), (.tmp 29)]⟩,
      ⟨(some 27), none, .op (.move (.tmp 30))⟩,
      ⟨(some 31), none, .op (.ext (.tmp 27) 0)⟩,
      ⟨(some 32), none, .op (.ext (.tmp 27) 1)⟩,
      ⟨(some 15), none, .op (.move (.tmp 31))⟩,
      ⟨(some 16), none, .op (.move (.tmp 32))⟩])
    (.seq (.region [⟨(some 34), none, .op (.move (.tmp 0))⟩,
      ⟨(some 35), none, .op (.move (.tmp 4))⟩,
      ⟨(some 36), none, .call (.func 20) [(.tmp 34), (.tmp 35)]⟩,
      ⟨(some 33), none, .op (.move (.tmp 36))⟩,
      ⟨(some 37), none, .op (.ext (.tmp 33) 0)⟩,
      ⟨(some 38), none, .op (.ext (.tmp 33) 1)⟩,
      ⟨(some 17), none, .op (.move (.tmp 37))⟩,
      ⟨(some 18), none, .op (.move (.tmp 38))⟩])
    (.seq (.region [⟨(some 40), none, .op (.move (.tmp 0))⟩,
      ⟨(some 41), none, .op (.move (.tmp 4))⟩,
      ⟨(some 42), none, .call (.func 21) [(.tmp 40), (.tmp 41)]⟩,
      ⟨(some 39), none, .op (.move (.tmp 42))⟩,
      ⟨(some 43), none, .op (.ext (.tmp 39) 0)⟩,
      ⟨(some 44), none, .op (.ext (.tmp 39) 1)⟩,
      ⟨(some 19), none, .op (.move (.tmp 43))⟩,
      ⟨(some 20), none, .op (.move (.tmp 44))⟩])
    (.seq (.seq (.region [⟨(some 45), none, .op (.move (.tmp 13))⟩,
      ⟨(some 46), none, .op (.move (.tmp 15))⟩,
      ⟨(some 47), none, .op (.bin .neq (.tmp 45) (.tmp 46))⟩,
      ⟨(some 48), none, .op (.move (.tmp 47))⟩,
      ⟨(some 49), (some (48, false)), .op (.move (.tmp 14))⟩,
      ⟨(some 50), (some (48, false)), .op (.move (.tmp 16))⟩,
      ⟨(some 51), (some (48, false)), .op (.bin .neq (.tmp 49) (.tmp 50))⟩,
      ⟨(some 52), none, .op (.pick (.tmp 48) (.const (.bool true)) (.tmp 51))⟩,
      ⟨(some 53), none, .op (.move (.tmp 52))⟩,
      ⟨(some 54), (some (53, false)), .op (.move (.tmp 17))⟩,
      ⟨(some 55), (some (53, false)), .op (.move (.tmp 19))⟩,
      ⟨(some 56), (some (53, false)), .op (.bin .neq (.tmp 54) (.tmp 55))⟩,
      ⟨(some 57), none, .op (.pick (.tmp 53) (.const (.bool true)) (.tmp 56))⟩,
      ⟨(some 58), none, .op (.move (.tmp 57))⟩,
      ⟨(some 59), (some (58, false)), .op (.move (.tmp 18))⟩,
      ⟨(some 60), (some (58, false)), .op (.move (.tmp 20))⟩,
      ⟨(some 61), (some (58, false)), .op (.bin .neq (.tmp 59) (.tmp 60))⟩,
      ⟨(some 62), none, .op (.pick (.tmp 58) (.const (.bool true)) (.tmp 61))⟩,
      ⟨(some 63), none, .op (.move (.tmp 62))⟩,
      ⟨(some 64), (some (63, false)), .op (.move (.tmp 0))⟩,
      ⟨(some 65), (some (63, false)), .op (.move (.tmp 2))⟩,
      ⟨(some 66), (some (63, false)), .call (.func 22) [(.tmp 64), (.tmp 65)]⟩,
      ⟨(some 67), (some (63, false)), .op (.move (.tmp 0))⟩,
      ⟨(some 68), (some (63, false)), .op (.move (.tmp 2))⟩,
      ⟨(some 69), (some (63, false)), .call (.func 23) [(.tmp 67), (.tmp 68)]⟩,
      ⟨(some 70), (some (63, false)), .op (.eqB true (.tmp 66) (.tmp 69))⟩,
      ⟨(some 71), none, .op (.pick (.tmp 63) (.const (.bool true)) (.tmp 70))⟩,
      ⟨(some 72), none, .op (.move (.tmp 71))⟩,
      ⟨(some 73), (some (72, false)), .op (.move (.tmp 0))⟩,
      ⟨(some 74), (some (72, false)), .call (.func 24) [(.tmp 73)]⟩,
      ⟨(some 75), (some (72, false)), .op (.move (.tmp 0))⟩,
      ⟨(some 76), (some (72, false)), .call (.func 25) [(.tmp 75)]⟩,
      ⟨(some 77), (some (72, false)), .op (.bin .neq (.tmp 74) (.tmp 76))⟩,
      ⟨(some 78), none, .op (.pick (.tmp 72) (.const (.bool true)) (.tmp 77))⟩])
    (.cond (.tmp 78) (.seq (.region [⟨(some 12), none, .op (.move (.const (.bool false)))⟩])
    .ret) .skip))
    (.seq (.region [⟨(some 80), none, .op (.move (.tmp 0))⟩,
      ⟨(some 81), none, .op (.move (.tmp 2))⟩,
      ⟨(some 82), none, .op (.move (.tmp 1))⟩,
      ⟨(some 83), none, .op (.move (.tmp 4))⟩,
      ⟨(some 84), none, .call (.func 26) [(.tmp 80), (.tmp 81), (.tmp 82), (.tmp 83)]⟩,
      ⟨(some 79), none, .op (.move (.tmp 84))⟩,
      ⟨(some 85), none, .op (.ext (.tmp 79) 0)⟩,
      ⟨(some 86), none, .op (.ext (.tmp 79) 1)⟩,
      ⟨(some 17), none, .op (.move (.tmp 85))⟩,
      ⟨(some 18), none, .op (.move (.tmp 86))⟩])
    (.seq (.region [⟨(some 88), none, .op (.move (.tmp 0))⟩,
      ⟨(some 89), none, .op (.move (.tmp 2))⟩,
      ⟨(some 90), none, .op (.move (.tmp 1))⟩,
      ⟨(some 91), none, .op (.move (.tmp 4))⟩,
      ⟨(some 92), none, .call (.func 27) [(.tmp 88), (.tmp 89), (.tmp 90), (.tmp 91)]⟩,
      ⟨(some 87), none, .op (.move (.tmp 92))⟩,
      ⟨(some 93), none, .op (.ext (.tmp 87) 0)⟩,
      ⟨(some 94), none, .op (.ext (.tmp 87) 1)⟩,
      ⟨(some 19), none, .op (.move (.tmp 93))⟩,
      ⟨(some 20), none, .op (.move (.tmp 94))⟩])
    (.seq (.seq (.region [⟨(some 95), none, .op (.move (.tmp 17))⟩,
      ⟨(some 96), none, .op (.move (.tmp 19))⟩,
      ⟨(some 97), none, .op (.bin .neq (.tmp 95) (.tmp 96))⟩,
      ⟨(some 98), none, .op (.move (.tmp 97))⟩,
      ⟨(some 99), (some (98, false)), .op (.move (.tmp 18))⟩,
      ⟨(some 100), (some (98, false)), .op (.move (.tmp 20))⟩,
      ⟨(some 101), (some (98, false)), .op (.bin .neq (.tmp 99) (.tmp 100))⟩,
      ⟨(some 102), none, .op (.pick (.tmp 98) (.const (.bool true)) (.tmp 101))⟩])
    (.cond (.tmp 102) (.seq (.region [⟨(some 12), none, .op (.move (.const (.bool false)))⟩])
    .ret) .skip))
    (.seq (.region [⟨(some 104), none, .op (.move (.tmp 0))⟩,
      ⟨(some 105), none, .op (.move (.tmp 2))⟩,
      ⟨(some 106), none, .op (.move (.tmp 1))⟩,
      ⟨(some 107), none, .op (.move (.tmp 3))⟩,
      ⟨(some 108), none, .call (.func 28) [(.tmp 104), (.tmp 105), (.tmp 106), (.tmp 107)]⟩,
      ⟨(some 103), none, .op (.move (.tmp 108))⟩,
      ⟨(some 109), none, .op (.ext (.tmp 103) 0)⟩,
      ⟨(some 110), none, .op (.ext (.tmp 103) 1)⟩,
      ⟨(some 17), none, .op (.move (.tmp 109))⟩,
      ⟨(some 18), none, .op (.move (.tmp 110))⟩])
    (.seq (.region [⟨(some 112), none, .op (.move (.tmp 0))⟩,
      ⟨(some 113), none, .op (.move (.tmp 2))⟩,
      ⟨(some 114), none, .op (.move (.tmp 1))⟩,
      ⟨(some 115), none, .op (.move (.tmp 3))⟩,
      ⟨(some 116), none, .call (.func 29) [(.tmp 112), (.tmp 113), (.tmp 114), (.tmp 115)]⟩,
      ⟨(some 111), none, .op (.move (.tmp 116))⟩,
      ⟨(some 117), none, .op (.ext (.tmp 111) 0)⟩,
      ⟨(some 118), none, .op (.ext (.tmp 111) 1)⟩,
      ⟨(some 19), none, .op (.move (.tmp 117))⟩,
      ⟨(some 20), none, .op (.move (.tmp 118))⟩])
    (.seq (.seq (.region [⟨(some 119), none, .op (.move (.tmp 17))⟩,
      ⟨(some 120), none, .op (.move (.tmp 19))⟩,
      ⟨(some 121), none, .op (.bin .neq (.tmp 119) (.tmp 120))⟩,
      ⟨(some 122), none, .op (.move (.tmp 121))⟩,
      ⟨(some 123), (some (122, false)), .op (.move (.tmp 18))⟩,
      ⟨(some 124), (some (122, false)), .op (.move (.tmp 20))⟩,
      ⟨(some 125), (some (122, false)), .op (.bin .neq (.tmp 123) (.tmp 124))⟩,
      ⟨(some 126), none, .op (.pick (.tmp 122) (.const (.bool true)) (.tmp 125))⟩])
    (.cond (.tmp 126) (.seq (.region [⟨(some 12), none, .op (.move (.const (.bool false)))⟩])
    .ret) .skip))
    (.seq (.region [⟨(some 128), none, .op (.move (.tmp 0))⟩,
      ⟨(some 129), none, .op (.move (.tmp 2))⟩,
      ⟨(some 130), none, .op (.move (.tmp 1))⟩,
      ⟨(some 131), none, .op (.move (.tmp 5))⟩,
      ⟨(some 132), none, .call (.func 30) [(.tmp 128), (.tmp 129), (.tmp 130), (.tmp 131)]⟩,
      ⟨(some 127), none, .op (.move (.tmp 132))⟩,
      ⟨(some 133), none, .op (.ext (.tmp 127) 0)⟩,
      ⟨(some 134), none, .op (.ext (.tmp 127) 1)⟩,
      ⟨(some 17), none, .op (.move (.tmp 133))⟩,
      ⟨(some 18), none, .op (.move (.tmp 134))⟩])
    (.seq (.region [⟨(some 136), none, .op (.move (.tmp 0))⟩,
      ⟨(some 137), none, .op (.move (.tmp 2))⟩,
      ⟨(some 138), none, .op (.move (.tmp 1))⟩,
      ⟨(some 139), none, .op (.move (.tmp 5))⟩,
      ⟨(some 140), none, .call (.func 31) [(.tmp 136), (.tmp 137), (.tmp 138), (.tmp 139)]⟩,
      ⟨(some 135), none, .op (.move (.tmp 140))⟩,
      ⟨(some 141), none, .op (.ext (.tmp 135) 0)⟩,
      ⟨(some 142), none, .op (.ext (.tmp 135) 1)⟩,
      ⟨(some 19), none, .op (.move (.tmp 141))⟩,
      ⟨(some 20), none, .op (.move (.tmp 142))⟩])
    (.seq (.region [⟨(some 143), none, .op (.move (.tmp 17))⟩,
      ⟨(some 144), none, .op (.move (.tmp 19))⟩,
      ⟨(some 145), none, .op (.bin .eql (.tmp 143) (.tmp 144))⟩,
      ⟨(some 146), none, .op (.move (.tmp 145))⟩,
      ⟨(some 147), (some (146, true)), .op (.move (.tmp 18))⟩,
      ⟨(some 148), (some (146, true)), .op (.move (.tmp 20))⟩,
      ⟨(some 149), (some (146, true)), .op (.bin .eql (.tmp 147) (.tmp 148))⟩,
      ⟨(some 150), none, .op (.pick (.tmp 146) (.tmp 149) (.const (.bool false)))⟩,
      ⟨(some 12), none, .op (.move (.tmp 150))⟩])
    .ret)))))))))))))))
def R4 : List RV := [.tmp 12]
theorem is4 : Is Try.prog (fun _ _ => false) 4 151 A4 R4 := ⟨Try.f4, Try.func4, rfl, by kernel_rfl, by kernel_rfl, Try.call4⟩
def A18 : ACode :=
  (.seq (.region [⟨(some 4), none, .op (.move (.const (.int .i64 0)))⟩,
      ⟨(some 5), none, .op (.move (.const (.int .i64 0)))⟩])
    (.seq (.seq (.region [⟨(some 7), none, .op (.move (.tmp 0))⟩,
      ⟨(some 8), none, .op (.move (.tmp 1))⟩,
      ⟨(some 9), none, .op (.buildF [(.int .u64 0)] 1 [(0, (.tmp 8))])⟩,
      ⟨(some 10), none, .call (.func 44) [(.tmp 7), (.tmp 9)]⟩,
      ⟨(some 6), none, .op (.move (.tmp 10))⟩])
    (.seq (.region [⟨(some 11), none, .op (.move (.tmp 6))⟩,
      ⟨(some 12), none, .op (.bin .neq (.tmp 11) (.const (.int .i64 0)))⟩])
    (.cond (.tmp 12) (.seq (.region [⟨(some 13), none, .op (.move (.tmp 6))⟩,
      ⟨(some 4), none, .op (.move (.const (.int .i64 0)))⟩,
      ⟨(some 5), none, .op (.move (.tmp 13))⟩])
    .ret) .skip)))
    (.seq (.region [⟨(some 14), none, .op (.move (.tmp 0))⟩,
      ⟨(some 15), none, .op (.move (.tmp 1))⟩,
      ⟨(some 16), none, .call (.func 46) [(.tmp 14), (.tmp 15)]⟩,
      ⟨(some 4), none, .op (.move (.tmp 16))⟩,
      ⟨(some 5), none, .op (.move (.const (.int .i64 0)))⟩])
    .ret)))
def R18 : List RV := [.tmp 4, .tmp 5]
theorem is18 : Is Try.prog (fun _ _ => false) 18 17 A18 R18 := ⟨Try.f18, Try.func18, rfl, by kernel_rfl, by kernel_rfl, Try.call18⟩
def A19 : ACode :=
  (.seq (.region [⟨(some 4), none, .op (.move (.const (.int .i64 0)))⟩,
      ⟨(some 5), none, .op (.move (.const (.int .i64 0)))⟩])
    (.seq (.seq (.region [⟨(some 6), none, .op (.move (.tmp 0))⟩,
      ⟨(some 7), none, .call (.func 45) [(.tmp 6)]⟩,
      ⟨(some 8), none, .op (.un .not (.tmp 7))⟩])
    (.cond (.tmp 8) (.seq (.region [⟨(some 4), none, .op (.move (.const (.int .i64 0)))⟩,
      ⟨(some 5), none, .op (.move (.const (.int .i64 14)))⟩])
    .ret) .skip))
    (.seq (.seq (.region [⟨(some 9), none, .op (.move (.tmp 0))⟩,
      ⟨(some 10), none, .op (.move (.tmp 1))⟩,
      ⟨(some 11), none, .call (.func 23) [(.tmp 9), (.tmp 10)]⟩,
      ⟨(some 12), none, .op (.un .not (.tmp 11))⟩])
    (.cond (.tmp 12) (.seq (.region [⟨(some 4), none, .op (.move (.const (.int .i64 0)))⟩,
      ⟨(some 5), none, .op (.move (.const (.int .i64 8)))⟩])
    .ret) .skip))
    (.seq (.seq (.region [⟨(some 13), none, .op (.move (.tmp 1))⟩,
      ⟨(some 14), none, .op (.move (.tmp 0))⟩,
      ⟨(some 15), none, .op (.bin .sub (.tmp 14) (.const (.int .i64 1)))⟩,
      ⟨(some 16), none, .call (.func 47) [(.tmp 13), (.tmp 15)]⟩,
      ⟨(some 17), none, .op (.bin .eql (.tmp 16) (.const (.int .i64 0)))⟩])
    (.cond (.tmp 17) (.seq (.region [⟨(some 18), none, .op (.move (.tmp 1))⟩,
      ⟨(some 19), none, .op (.conv .i64 (.tmp 18))⟩,
      ⟨(some 4), none, .op (.move (.tmp 19))⟩,
      ⟨(some 5), none, .op (.move (.const (.int .i64 0)))⟩])
    .ret) .skip))
    (.seq (.region [⟨(some 20), none, .op (.move (.tmp 0))⟩,
      ⟨(some 21), none, .call (.func 25) [(.tmp 20)]⟩,
      ⟨(some 22), none, .op (.move (.tmp 1))⟩,
      ⟨(some 23), none, .op (.bin .sub (.tmp 21) (.tmp 22))⟩,
      ⟨(some 24), none, .op (.conv .i64 (.tmp 23))⟩,
      ⟨(some 25), none, .op (.un .neg (.tmp 24))⟩,
      ⟨(some 26), none, .op (.bin .sub (.tmp 25) (.const (.int .i64 1)))⟩,
      ⟨(some 4), none, .op (.move (.tmp 26))⟩,
      ⟨(some 5), none, .op (.move (.const (.int .i64 0)))⟩])
    .ret)))))
def R19 : List RV := [.tmp 4, .tmp 5]
theorem is19 : Is Try.prog (fun _ _ => false) 19 27 A19 R19 := ⟨Try.f19, Try.func19, rfl, by kernel_rfl, by kernel_rfl, Try.call19⟩
def A20 : ACode :=
  (.seq (.region [⟨(some 4), none, .op (.move (.const (.int .u64 0)))⟩,
      ⟨(some 5), none, .op (.move (.const (.int .i64 0)))⟩])
    (.seq (.seq (.region [⟨(some 7), none, .op (.move (.tmp 0))⟩,
      ⟨(some 8), none, .call (.func 48) [(.tmp 7)]⟩,
      ⟨(some 9), none, .op (.un .not (.tmp 8))⟩])
    (.cond (.tmp 9) (.seq (.region [⟨(some 4), none, .op (.move (.const (.int .u64 0)))⟩,
      ⟨(some 5), none, .op (.move (.const (.int .i64 14)))⟩])
    .ret) .skip))
    (.seq (.region [⟨(some 10), none, .op (.move (.tmp 1))⟩,
      ⟨(some 11), none, .op (.conv .u64 (.tmp 10))⟩,
      ⟨(some 12), none, .op (.move (.tmp 0))⟩,
      ⟨(some 13), none, .call (.func 24) [(.tmp 12)]⟩,
      ⟨(some 14), none, .op (.bin .and (.tmp 11) (.tmp 13))⟩,
      ⟨(some 6), none, .op (.move (.tmp 14))⟩])
    (.seq (.seq (.region [⟨(some 15), none, .op (.move (.tmp 0))⟩,
      ⟨(some 16), none, .op (.move (.tmp 6))⟩,
      ⟨(some 17), none, .call (.func 46) [(.tmp 15), (.tmp 16)]⟩,
      ⟨(some 18), none, .op (.move (.tmp 1))⟩,
      ⟨(some 19), none, .op (.bin .neq (.tmp 17) (.tmp 18))⟩])
    (.cond (.tmp 19) (.seq (.region [⟨(some 4), none, .op (.move (.const (.int .u64 0)))⟩,
      ⟨(some 5), none, .op (.move (.const (.int .i64 24)))⟩])
    .ret) .skip))
    (.seq (.region [⟨(some 20), none, .op (.move (.tmp 6))⟩,
      ⟨(some 4), none, .op (.move (.tmp 20))⟩,
      ⟨(some 5), none, .op (.move (.const (.int .i64 0)))⟩])
    .ret)))))
def R20 : List RV := [.tmp 4, .tmp 5]
theorem is20 : Is Try.prog (fun _ _ => false) 20 21 A20 R20 := ⟨Try.f20, Try.func20, rfl, by kernel_rfl, by kernel_rfl, Try.call20⟩
def A21 : ACode :=
  (.seq (.region [⟨(some 4), none, .op (.move (.const (.int .u64 0)))⟩,
      ⟨(some 5), none, .op (.move (.const (.int .i64 0)))⟩])
    (.seq (.seq (.region [⟨(some 8), none, .op (.move (.tmp 0))⟩,
      ⟨(some 9), none, .call (.func 45) [(.tmp 8)]⟩,
      ⟨(some 10), none, .op (.un .not (.tmp 9))⟩])
    (.cond (.tmp 10) (.seq (.region [⟨(some 4), none, .op (.move (.const (.int .u64 0)))⟩,
      ⟨(some 5), none, .op (.move (.const (.int .i64 14)))⟩])
    .ret) .skip))
    (.seq (.region [⟨(some 11), none, .op (.move (.tmp 0))⟩,
      ⟨(some 12), none, .op (.bin .sub (.tmp 11) (.const (.int .i64 1)))⟩,
      ⟨(some 13), none, .call (.func 49) [(.tmp 12)]⟩,
      ⟨(some 6), none, .op (.move (.tmp 13))⟩])
    (.seq (.seq (.region [⟨(some 14), none, .op (.move (.tmp 1))⟩,
      ⟨(some 15), none, .op (.bin .geq (.tmp 14) (.const (.int .i64 0)))⟩])
    (.cond (.tmp 15) (.seq (.seq (.region [⟨(some 16), none, .op (.move (.tmp 1))⟩,
      ⟨(some 17), none, .op (.conv .u64 (.tmp 16))⟩,
      ⟨(some 18), none, .op (.move (.tmp 6))⟩,
      ⟨(some 19), none, .op (.bin .geq (.tmp 17) (.tmp 18))⟩])
    (.cond (.tmp 19) (.seq (.region [⟨(some 4), none, .op (.move (.const (.int .u64 0)))⟩,
      ⟨(some 5), none, .op (.move (.const (.int .i64 24)))⟩])
    .ret) .skip))
    (.seq (.region [⟨(some 20), none, .op (.move (.tmp 1))⟩,
      ⟨(some 21), none, .op (.conv .u64 (.tmp 20))⟩,
      ⟨(some 4), none, .op (.move (.tmp 21))⟩,
      ⟨(some 5), none, .op (.move (.const (.int .i64 0)))⟩])
    .ret)) .skip))
    (.seq (.region [⟨(some 22), none, .op (.move (.tmp 1))⟩,
      ⟨(some 23), none, .op (.bin .add (.tmp 22) (.const (.int .i64 1)))⟩,
      ⟨(some 24), none, .op (.un .neg (.tmp 23))⟩,
      ⟨(some 25), none, .op (.conv .u64 (.tmp 24))⟩,
      ⟨(some 7), none, .op (.move (.tmp 25))⟩])
    (.seq (.seq (.region [⟨(some 26), none, .op (.move (.tmp 7))⟩,
      ⟨(some 27), none, .op (.move (.tmp 6))⟩,
      ⟨(some 28), none, .op (.bin .geq (.tmp 26) (.tmp 27))⟩])
    (.cond (.tmp 28) (.seq (.region [⟨(some 4), none, .op (.move (.const (.int .u64 0)))⟩,
      ⟨(some 5), none, .op (.move (.const (.int .i64 24)))⟩])
    .ret) .skip))
    (.seq (.region [⟨(some 29), none, .op (.move (.tmp 0))⟩,
      ⟨(some 30), none, .call (.func 25) [(.tmp 29)]⟩,
      ⟨(some 31), none, .op (.move (.tmp 7))⟩,
      ⟨(some 32), none, .op (.bin .sub (.tmp 30) (.tmp 31))⟩,
      ⟨(some 4), none, .op (.move (.tmp 32))⟩,
      ⟨(some 5), none, .op (.move (.const (.int .i64 0)))⟩])
    .ret)))))))
def R21 : List RV := [.tmp 4, .tmp 5]
theorem is21 : Is Try.prog (fun _ _ => false) 21 33 A21 R21 := ⟨Try.f21, Try.func21, rfl, by kernel_rfl, by kernel_rfl, Try.call21⟩
def A22 : ACode :=
  (.seq (.region [⟨(some 4), none, .op (.move (.const (.bool false)))⟩])
    (.seq (.region [⟨(some 5), none, .op (.move (.tmp 0))⟩,
      ⟨(some 6), none, .call (.func 48) [(.tmp 5)]⟩,
      ⟨(some 7), none, .op (.move (.tmp 6))⟩,
      ⟨(some 8), (some (7, true)), .op (.move (.tmp 1))⟩,
      ⟨(some 9), (some (7, true)), .op (.move (.tmp 0))⟩,
      ⟨(some 10), (some (7, true)), .call (.func 24) [(.tmp 9)]⟩,
      ⟨(some 11), (some (7, true)), .op (.bin .leq (.tmp 8) (.tmp 10))⟩,
      ⟨(some 12), none, .op (.pick (.tmp 7) (.tmp 11) (.const (.bool false)))⟩,
      ⟨(some 4), none, .op (.move (.tmp 12))⟩])
    .ret))
def R22 : List RV := [.tmp 4]
theorem is22 : Is Try.prog (fun _ _ => false) 22 13 A22 R22 := ⟨Try.f22, Try.func22, rfl, by kernel_rfl, by kernel_rfl, Try.call22⟩
def A23 : ACode :=
  (.seq (.region [⟨(some 4), none, .op (.move (.const (.bool false)))⟩])
    (.seq (.region [⟨(some 5), none, .op (.move (.tmp 0))⟩,
      ⟨(some 6), none, .call (.func 45) [(.tmp 5)]⟩,
      ⟨(some 7), none, .op (.move (.tmp 6))⟩,
      ⟨(some 8), (some (7, true)), .op (.move (.tmp 0))⟩,
      ⟨(some 9), (some (7, true)), .op (.bin .eql (.tmp 8) (.const (.int .i64 64)))⟩,
      ⟨(some 10), (some (7, true)), .op (.move (.tmp 9))⟩,
      ⟨(some 11), (some (10, false)), .op (.move (.tmp 1))⟩,
      ⟨(some 12), (some (10, false)), .op (.move (.tmp 0))⟩,
      ⟨(some 13), (some (10, false)), .call (.func 49) [(.tmp 12)]⟩,
      ⟨(some 14), (some (10, false)), .op (.bin .lss (.tmp 11) (.tmp 13))⟩,
      ⟨(some 15), (some (7, true)), .op (.pick (.tmp 10) (.const (.bool true)) (.tmp 14))⟩,
      ⟨(some 16), none, .op (.pick (.tmp 7) (.tmp 15) (.const (.bool false)))⟩,
      ⟨(some 4), none, .op (.move (.tmp 16))⟩])
    .ret))
def R23 : List RV := [.tmp 4]
theorem is23 : Is Try.prog (fun _ _ => false) 23 17 A23 R23 := ⟨Try.f23, Try.func23, rfl, by kernel_rfl, by kernel_rfl, Try.call23⟩
def A24 : ACode :=
  (.seq (.region [⟨(some 2), none, .op (.move (.const (.int .u64 0)))⟩])
    (.seq (.seq (.region [⟨(some 3), none, .op (.move (.tmp 0))⟩,
      ⟨(some 4), none, .call (.func 48) [(.tmp 3)]⟩,
      ⟨(some 5), none, .op (.un .not (.tmp 4))⟩])
    (.cond (.tmp 5) (.seq (.region [⟨(some 2), none, .op (.move (.const (.int .u64 0)))⟩])
    .ret) .skip))
    (.seq (.region [⟨(some 6), none, .op (.move (.tmp 0))⟩,
      ⟨(some 7), none, .op (.bin .sub (.const (.int .i64 64)) (.tmp 6))⟩,
      ⟨(some 8), none, .op (.bin .shr (.const (.int .u64 18446744073709551615)) (.tmp 7))⟩,
      ⟨(some 2), none, .op (.move (.tmp 8))⟩])
    .ret)))
def R24 : List RV := [.tmp 2]
theorem is24 : Is Try.prog (fun _ _ => false) 24 9 A24 R24 := ⟨Try.f24, Try.func24, rfl, by kernel_rfl, by kernel_rfl, Try.call24⟩
def A25 : ACode :=
  (.seq (.region [⟨(some 2), none, .op (.move (.const (.int .u64 0)))⟩])
    (.seq (.seq (.region [⟨(some 3), none, .op (.move (.tmp 0))⟩,
      ⟨(some 4), none, .call (.func 45) [(.tmp 3)]⟩,
      ⟨(some 5), none, .op (.un .not (.tmp 4))⟩])
    (.cond (.tmp 5) (.seq (.region [⟨(some 2), none, .op (.move (.const (.int .u64 0)))⟩])
    .ret) .skip))
    (.seq (.region [⟨(some 6), none, .op (.move (.tmp 0))⟩,
      ⟨(some 7), none, .op (.bin .sub (.tmp 6) (.const (.int .i64 1)))⟩,
      ⟨(some 8), none, .call (.func 49) [(.tmp 7)]⟩,
      ⟨(some 9), none, .op (.bin .sub (.tmp 8) (.const (.int .u64 1)))⟩,
      ⟨(some 10), none, .op (.move (.tmp 0))⟩,
      ⟨(some 11), none, .op (.bin .sub (.tmp 10) (.const (.int .i64 1)))⟩,
      ⟨(some 12), none, .call (.func 49) [(.tmp 11)]⟩,
      ⟨(some 13), none, .op (.bin .add (.tmp 9) (.tmp 12))⟩,
      ⟨(some 2), none, .op (.move (.tmp 13))⟩])
    .ret)))
def R25 : List RV := [.tmp 2]
theorem is25 : Is Try.prog (fun _ _ => false) 25 14 A25 R25 := ⟨Try.f25, Try.func25, rfl, by kernel_rfl, by kernel_rfl, Try.call25⟩
def A26 : ACode :=
  (.seq (.region [⟨(some 8), none, .op (.move (.const (.int .u64 0)))⟩,
      ⟨(some 9), none, .op (.move (.const (.int .i64 0)))⟩])
    (.seq (.seq (.region [⟨(some 11), none, .op (.move (.tmp 0))⟩,
      ⟨(some 12), none, .op (.move (.tmp 1))⟩,
      ⟨(some 13), none, .op (.buildF [(.int .u64 0)] 1 [(0, (.tmp 12))])⟩,
      ⟨(some 14), none, .call (.func 44) [(.tmp 11), (.tmp 13)]⟩,
      ⟨(some 10), none, .op (.move (.tmp 14))⟩])
    (.seq (.region [⟨(some 15), none, .op (.move (.tmp 10))⟩,
      ⟨(some 16), none, .op (.bin .neq (.tmp 15) (.const (.int .i64 0)))⟩])
    (.cond (.tmp 16) (.seq (.region [⟨(some 17), none, .op (.move (.tmp 10))⟩,
      ⟨(some 8), none, .op (.move (.const (.int .u64 0)))⟩,
      ⟨(some 9), none, .op (.move (.tmp 17))⟩])
    .ret) .skip)))
    (.seq (.seq (.region [⟨(some 18), none, .op (.move (.tmp 2))⟩,
      ⟨(some 19), none, .op (.bin .lss (.tmp 18) (.const (.int .i64 0)))⟩,
      ⟨(some 20), none, .op (.move (.tmp 19))⟩,
      ⟨(some 21), (some (20, false)), .op (.move (.tmp 3))⟩,
      ⟨(some 22), (some (20, false)), .op (.bin .lss (.tmp 21) (.const (.int .i64 1)))⟩,
      ⟨(some 23), none, .op (.pick (.tmp 20) (.const (.bool true)) (.tmp 22))⟩,
      ⟨(some 24), none, .op (.move (.tmp 23))⟩,
      ⟨(some 25), (some (24, false)), .op (.move (.tmp 3))⟩,
      ⟨(some 26), (some (24, false)), .op (.move (.tmp 0))⟩,
      ⟨(some 27), (some (24, false)), .op (.bin .gtr (.tmp 25) (.tmp 26))⟩,
      ⟨(some 28), none, .op (.pick (.tmp 24) (.const (.bool true)) (.tmp 27))⟩,
      ⟨(some 29), none, .op (.move (.tmp 28))⟩,
      ⟨(some 30), (some (29, false)), .op (.move (.tmp 2))⟩,
      ⟨(some 31), (some (29, false)), .op (.move (.tmp 0))⟩,
      ⟨(some 32), (some (29, false)), .op (.move (.tmp 3))⟩,
      ⟨(some 33), (some (29, false)), .op (.bin .sub (.tmp 31) (.tmp 32))⟩,
      ⟨(some 34), (some (29, false)), .op (.bin .gtr (.tmp 30) (.tmp 33))⟩,
      ⟨(some 35), none, .op (.pick (.tmp 29) (.const (.bool true)) (.tmp 34))⟩])
    (.cond (.tmp 35) (.seq (.region [⟨(some 8), none, .op (.move (.const (.int .u64 0)))⟩,
      ⟨(some 9), none, .op (.move (.const (.int .i64 2)))⟩])
    .ret) .skip))
    (.seq (.dregion [⟨0, ⟨(some 36), none, .op (.move (.tmp 1))⟩, []⟩,
      ⟨1, ⟨(some 37), none, .op (.move (.tmp 2))⟩, []⟩,
      ⟨2, ⟨(some 38), none, .op (.bin .shr (.tmp 36) (.tmp 37))⟩, []⟩,
      ⟨3, ⟨(some 39), none, .op (.move (.tmp 3))⟩, []⟩,
      ⟨4, ⟨(some 40), none, .call (.func 24) [(.tmp 39)]⟩, [0, 1, 2]⟩,
      ⟨5, ⟨(some 41), none, .op (.bin .and (.tmp 38) (.tmp 40))⟩, []⟩,
      ⟨6, ⟨(some 8), none, .op (.move (.tmp 41))⟩, []⟩,
      ⟨7, ⟨(some 9), none, .op (.move (.const (.int .i64 0)))⟩, []⟩])
    .ret))))
def R26 : List RV := [.tmp 8, .tmp 9]
theorem is26 : Is Try.prog (fun _ _ => false) 26 42 A26 R26 := ⟨Try.f26, Try.func26, rfl, by kernel_rfl, by kernel_rfl, Try.call26⟩
def A27 : ACode :=
  (.seq (.region [⟨(some 8), none, .op (.move (.const (.int .u64 0)))⟩,
      ⟨(some 9), none, .op (.move (.const (.int .i64 0)))⟩])
    (.seq (.seq (.region [⟨(some 10), none, .op (.move (.tmp 0))⟩,
      ⟨(some 11), none, .call (.func 45) [(.tmp 10)]⟩,
      ⟨(some 12), none, .op (.un .not (.tmp 11))⟩])
    (.cond (.tmp 12) (.seq (.region [⟨(some 8), none, .op (.move (.const (.int .u64 0)))⟩,
      ⟨(some 9), none, .op (.move (.const (.int .i64 14)))⟩])
    .ret) .skip))
    (.seq (.seq (.region [⟨(some 13), none, .op (.move (.tmp 0))⟩,
      ⟨(some 14), none, .op (.move (.tmp 1))⟩,
      ⟨(some 15), none, .call (.func 23) [(.tmp 13), (.tmp 14)]⟩,
      ⟨(some 16), none, .op (.un .not (.tmp 15))⟩])
    (.cond (.tmp 16) (.seq (.region [⟨(some 8), none, .op (.move (.const (.int .u64 0)))⟩,
      ⟨(some 9), none, .op (.move (.const (.int .i64 8)))⟩])
    .ret) .skip))
    (.seq (.seq (.region [⟨(some 17), none, .op (.move (.tmp 2))⟩,
      ⟨(some 18), none, .op (.bin .lss (.tmp 17) (.const (.int .i64 0)))⟩,
      ⟨(some 19), none, .op (.move (.tmp 18))⟩,
      ⟨(some 20), (some (19, false)), .op (.move (.tmp 3))⟩,
      ⟨(some 21), (some (19, false)), .op (.bin .lss (.tmp 20) (.const (.int .i64 1)))⟩,
      ⟨(some 22), none, .op (.pick (.tmp 19) (.const (.bool true)) (.tmp 21))⟩,
      ⟨(some 23), none, .op (.move (.tmp 22))⟩,
      ⟨(some 24), (some (23, false)), .op (.move (.tmp 2))⟩,
      ⟨(some 25), (some (23, false)), .op (.move (.tmp 0))⟩,
      ⟨(some 26), (some (23, false)), .op (.bin .gtr (.tmp 24) (.tmp 25))⟩,
      ⟨(some 27), none, .op (.pick (.tmp 23) (.const (.bool true)) (.tmp 26))⟩,
      ⟨(some 28), none, .op (.move (.tmp 27))⟩,
      ⟨(some 29), (some (28, false)), .op (.move (.tmp 3))⟩,
      ⟨(some 30), (some (28, false)), .op (.move (.tmp 0))⟩,
      ⟨(some 31), (some (28, false)), .op (.bin .gtr (.tmp 29) (.tmp 30))⟩,
      ⟨(some 32), none, .op (.pick (.tmp 28) (.const (.bool true)) (.tmp 31))⟩,
      ⟨(some 33), none, .op (.move (.tmp 32))⟩,
      ⟨(some 34), (some (33, false)), .op (.move (.tmp 2))⟩,
      ⟨(some 35), (some (33, false)), .op (.move (.tmp 3))⟩,
      ⟨(some 36), (some (33, false)), .op (.bin .add (.tmp 34) (.tmp 35))⟩,
      ⟨(some 37), (some (33, false)), .op (.move (.tmp 0))⟩,
      ⟨(some 38), (some (33, false)), .op (.bin .gtr (.tmp 36) (.tmp 37))⟩,
      ⟨(some 39), none, .op (.pick (.tmp 33) (.const (.bool true)) (.tmp 38))⟩])
    (.cond (.tmp 39) (.seq (.region [⟨(some 8), none, .op (.move (.const (.int .u64 0)))⟩,
      ⟨(some 9), none, .op (.move (.const (.int .i64 2)))⟩])
    .ret) .skip))
    (.seq (.region [⟨(some 40), none, .op (.move (.tmp 0))⟩,
      ⟨(some 41), none, .op (.move (.tmp 1))⟩,
      ⟨(some 42), none, .call (.func 51) [(.tmp 40), (.tmp 41)]⟩,
      ⟨(some 43), none, .op (.move (.tmp 2))⟩,
      ⟨(some 44), none, .op (.move (.tmp 2))⟩,
      ⟨(some 45), none, .op (.move (.tmp 3))⟩,
      ⟨(some 46), none, .op (.bin .add (.tmp 44) (.tmp 45))⟩,
      ⟨(some 47), none, .op (.slc 1 (.tmp 42) (some (.tmp 43)) (some (.tmp 46)) none)⟩,
      ⟨(some 48), none, .call (.func 50) [(.tmp 47)]⟩,
      ⟨(some 8), none, .op (.move (.tmp 48))⟩,
      ⟨(some 9), none, .op (.move (.const (.int .i64 0)))⟩])
    .ret)))))
def R27 : List RV := [.tmp 8, .tmp 9]
theorem is27 : Is Try.prog (fun _ _ => false) 27 49 A27 R27 := ⟨Try.f27, Try.func27, rfl, by kernel_rfl, by kernel_rfl, Try.call27⟩
def A28 : ACode :=
  (.seq (.region [⟨(some 8), none, .op (.move (.const (.int .u64 0)))⟩,
      ⟨(some 9), none, .op (.move (.const (.int .i64 0)))⟩])
    (.seq (.seq (.region [⟨(some 10), none, .op (.move (.tmp 0))⟩,
      ⟨(some 11), none, .call (.func 48) [(.tmp 10)]⟩,
      ⟨(some 12), none, .op (.un .not (.tmp 11))⟩,
      ⟨(some 13), none, .op (.move (.tmp 12))⟩,
      ⟨(some 14), (some (13, false)), .op (.move (.tmp 2))⟩,
      ⟨(some 15), (some (13, false)), .call (.func 48) [(.tmp 14)]⟩,
      ⟨(some 16), (some (13, false)), .op (.un .not (.tmp 15))⟩,
      ⟨(some 17), none, .op (.pick (.tmp 13) (.const (.bool true)) (.tmp 16))⟩,
      ⟨(some 18), none, .op (.move (.tmp 17))⟩,
      ⟨(some 19), (some (18, false)), .op (.move (.tmp 0))⟩,
      ⟨(some 20), (some (18, false)), .op (.move (.tmp 2))⟩,
      ⟨(some 21), (some (18, false)), .op (.bin .add (.tmp 19) (.tmp 20))⟩,
      ⟨(some 22), (some (18, false)), .call (.func 48) [(.tmp 21)]⟩,
      ⟨(some 23), (some (18, false)), .op (.un .not (.tmp 22))⟩,
      ⟨(some 24), none, .op (.pick (.tmp 18) (.const (.bool true)) (.tmp 23))⟩])
    (.cond (.tmp 24) (.seq (.region [⟨(some 8), none, .op (.move (.const (.int .u64 0)))⟩,
      ⟨(some 9), none, .op (.move (.const (.int .i64 14)))⟩])
    .ret) .skip))
    (.seq (.seq (.region [⟨(some 25), none, .op (.move (.tmp 0))⟩,
      ⟨(some 26), none, .op (.move (.tmp 1))⟩,
      ⟨(some 27), none, .call (.func 22) [(.tmp 25), (.tmp 26)]⟩,
      ⟨(some 28), none, .op (.un .not (.tmp 27))⟩,
      ⟨(some 29), none, .op (.move (.tmp 28))⟩,
      ⟨(some 30), (some (29, false)), .op (.move (.tmp 2))⟩,
      ⟨(some 31), (some (29, false)), .op (.move (.tmp 3))⟩,
      ⟨(some 32), (some (29, false)), .call (.func 22) [(.tmp 30), (.tmp 31)]⟩,
      ⟨(some 33), (some (29, false)), .op (.un .not (.tmp 32))⟩,
      ⟨(some 34), none, .op (.pick (.tmp 29) (.const (.bool true)) (.tmp 33))⟩])
    (.cond (.tmp 34) (.seq (.region [⟨(some 8), none, .op (.move (.const (.int .u64 0)))⟩,
      ⟨(some 9), none, .op (.move (.const (.int .i64 8)))⟩])
    .ret) .skip))
    (.seq (.region [⟨(some 35), none, .op (.move (.tmp 1))⟩,
      ⟨(some 36), none, .op (.move (.tmp 2))⟩,
      ⟨(some 37), none, .op (.bin .shl (.tmp 35) (.tmp 36))⟩,
      ⟨(some 38), none, .op (.move (.tmp 3))⟩,
      ⟨(some 39), none, .op (.bin .or (.tmp 37) (.tmp 38))⟩,
      ⟨(some 8), none, .op (.move (.tmp 39))⟩,
      ⟨(some 9), none, .op (.move (.const (.int .i64 0)))⟩])
    .ret))))
def R28 : List RV := [.tmp 8, .tmp 9]
theorem is28 : Is Try.prog (fun _ _ => false) 28 40 A28 R28 := ⟨Try.f28, Try.func28, rfl, by kernel_rfl, by kernel_rfl, Try.call28⟩
def A29 : ACode :=
  (.seq (.region [⟨(some 8), none, .op (.move (.const (.int .u64 0)))⟩,
      ⟨(some 9), none, .op (.move (.const (.int .i64 0)))⟩])
    (.seq (.seq (.region [⟨(some 10), none, .op (.move (.tmp 0))⟩,
      ⟨(some 11), none, .call (.func 45) [(.tmp 10)]⟩,
      ⟨(some 12), none, .op (.un .not (.tmp 11))⟩,
      ⟨(some 13), none, .op (.move (.tmp 12))⟩,
      ⟨(some 14), (some (13, false)), .op (.move (.tmp 2))⟩,
      ⟨(some 15), (some (13, false)), .call (.func 45) [(.tmp 14)]⟩,
      ⟨(some 16), (some (13, false)), .op (.un .not (.tmp 15))⟩,
      ⟨(some 17), none, .op (.pick (.tmp 13) (.const (.bool true)) (.tmp 16))⟩,
      ⟨(some 18), none, .op (.move (.tmp 17))⟩,
      ⟨(some 19), (some (18, false)), .op (.move (.tmp 0))⟩,
      ⟨(some 20), (some (18, false)), .op (.move (.tmp 2))⟩,
      ⟨(some 21), (some (18, false)), .op (.bin .add (.tmp 19) (.tmp 20))⟩,
      ⟨(some 22), (some (18, false)), .op (.bin .gtr (.tmp 21) (.const (.int .i64 64)))⟩,
      ⟨(some 23), none, .op (.pick (.tmp 18) (.const (.bool true)) (.tmp 22))⟩])
    (.cond (.tmp 23) (.seq (.region [⟨(some 8), none, .op (.move (.const (.int .u64 0)))⟩,
      ⟨(some 9), none, .op (.move (.const (.int .i64 14)))⟩])
    .ret) .skip))
    (.seq (.seq (.region [⟨(some 24), none, .op (.move (.tmp 0))⟩,
      ⟨(some 25), none, .op (.move (.tmp 1))⟩,
      ⟨(some 26), none, .call (.func 23) [(.tmp 24), (.tmp 25)]⟩,
      ⟨(some 27), none, .op (.un .not (.tmp 26))⟩,
      ⟨(some 28), none, .op (.move (.tmp 27))⟩,
      ⟨(some 29), (some (28, false)), .op (.move (.tmp 2))⟩,
      ⟨(some 30), (some (28, false)), .op (.move (.tmp 3))⟩,
      ⟨(some 31), (some (28, false)), .call (.func 23) [(.tmp 29), (.tmp 30)]⟩,
      ⟨(some 32), (some (28, false)), .op (.un .not (.tmp 31))⟩,
      ⟨(some 33), none, .op (.pick (.tmp 28) (.const (.bool true)) (.tmp 32))⟩])
    (.cond (.tmp 33) (.seq (.region [⟨(some 8), none, .op (.move (.const (.int .u64 0)))⟩,
      ⟨(some 9), none, .op (.move (.const (.int .i64 8)))⟩])
    .ret) .skip))
    (.seq (.region [⟨(some 34), none, .op (.move (.tmp 2))⟩,
      ⟨(some 35), none, .op (.move (.tmp 3))⟩,
      ⟨(some 36), none, .call (.func 51) [(.tmp 34), (.tmp 35)]⟩,
      ⟨(some 37), none, .op (.move (.tmp 0))⟩,
      ⟨(some 38), none, .op (.move (.tmp 1))⟩,
      ⟨(some 39), none, .call (.func 51) [(.tmp 37), (.tmp 38)]⟩,
      ⟨(some 40), none, .op (.app 3 1 8 (.tmp 36) (.tmp 39))⟩,
      ⟨(some 41), none, .call (.func 50) [(.tmp 40)]⟩,
      ⟨(some 8), none, .op (.move (.tmp 41))⟩,
      ⟨(some 9), none, .op (.move (.const (.int .i64 0)))⟩])
    .ret))))
def R29 : List RV := [.tmp 8, .tmp 9]
theorem is29 : Is Try.prog (fun _ _ => false) 29 42 A29 R29 := ⟨Try.f29, Try.func29, rfl, by kernel_rfl, by kernel_rfl, Try.call29⟩
def A30 : ACode :=
  (.seq (.region [⟨(some 8), none, .op (.move (.const (.int .u64 0)))⟩,
      ⟨(some 9), none, .op (.move (.const (.int .i64 0)))⟩])
    (.seq (.seq (.region [⟨(some 11), none, .op (.move (.tmp 0))⟩,
      ⟨(some 12), none, .call (.func 48) [(.tmp 11)]⟩,
      ⟨(some 13), none, .op (.un .not (.tmp 12))⟩,
      ⟨(some 14), none, .op (.move (.tmp 13))⟩,
      ⟨(some 15), (some (14, false)), .op (.move (.tmp 2))⟩,
      ⟨(some 16), (some (14, false)), .call (.func 48) [(.tmp 15)]⟩,
      ⟨(some 17), (some (14, false)), .op (.un .not (.tmp 16))⟩,
      ⟨(some 18), none, .op (.pick (.tmp 14) (.const (.bool true)) (.tmp 17))⟩,
      ⟨(some 19), none, .op (.move (.tmp 18))⟩,
      ⟨(some 20), (some (19, false)), .op (.move (.tmp 2))⟩,
      ⟨(some 21), (some (19, false)), .op (.move (.tmp 0))⟩,
      ⟨(some 22), (some (19, false)), .op (.bin .lss (.tmp 20) (.tmp 21))⟩,
      ⟨(some 23), none, .op (.pick (.tmp 19) (.const (.bool true)) (.tmp 22))⟩])
    (.cond (.tmp 23) (.seq (.region [⟨(some 8), none, .op (.move (.const (.int .u64 0)))⟩,
      ⟨(some 9), none, .op (.move (.const (.int .i64 14)))⟩])
    .ret) .skip))
    (.seq (.seq (.region [⟨(some 24), none, .op (.move (.tmp 0))⟩,
      ⟨(some 25), none, .op (.move (.tmp 1))⟩,
      ⟨(some 26), none, .op (.buildF [(.int .u64 0)] 1 [(0, (.tmp 25))])⟩,
      ⟨(some 27), none, .call (.func 44) [(.tmp 24), (.tmp 26)]⟩,
      ⟨(some 10), none, .op (.move (.tmp 27))⟩])
    (.seq (.region [⟨(some 28), none, .op (.move (.tmp 10))⟩,
      ⟨(some 29), none, .op (.bin .neq (.tmp 28) (.const (.int .i64 0)))⟩])
    (.cond (.tmp 29) (.seq (.region [⟨(some 30), none, .op (.move (.tmp 10))⟩,
      ⟨(some 8), none, .op (.move (.const (.int .u64 0)))⟩,
      ⟨(some 9), none, .op (.move (.tmp 30))⟩])
    .ret) .skip)))
    (.seq (.seq (.region [⟨(some 31), none, .op (.move (.tmp 3))⟩])
    (.cond (.tmp 31) (.region [⟨(some 32), none, .op (.move (.tmp 0))⟩,
      ⟨(some 33), none, .op (.move (.tmp 1))⟩,
      ⟨(some 34), none, .call (.func 46) [(.tmp 32), (.tmp 33)]⟩,
      ⟨(some 35), none, .op (.conv .u64 (.tmp 34))⟩,
      ⟨(some 36), none, .op (.move (.tmp 2))⟩,
      ⟨(some 37), none, .call (.func 24) [(.tmp 36)]⟩,
      ⟨(some 38), none, .op (.bin .and (.tmp 35) (.tmp 37))⟩,
      ⟨(some 1), none, .op (.move (.tmp 38))⟩]) .skip))
    (.seq (.region [⟨(some 39), none, .op (.move (.tmp 1))⟩,
      ⟨(some 8), none, .op (.move (.tmp 39))⟩,
      ⟨(some 9), none, .op (.move (.const (.int .i64 0)))⟩])
    .ret)))))
def R30 : List RV := [.tmp 8, .tmp 9]
theorem is30 : Is Try.prog (fun _ _ => false) 30 40 A30 R30 := ⟨Try.f30, Try.func30, rfl, by kernel_rfl, by kernel_rfl, Try.call30⟩
def A31l0 : ACode :=
  (.seq (.seq (.region [⟨(some 37), none, .op (.move (.tmp 10))⟩,
      ⟨(some 38), none, .op (.len (.tmp 37))⟩,
      ⟨(some 39), none, .op (.move (.tmp 2))⟩,
      ⟨(some 40), none, .op (.bin .lss (.tmp 38) (.tmp 39))⟩])
    (.cond (.tmp 40) .skip (.exit 0)))
    (.block 1 (.seq (.region [⟨(some 41), none, .op (.move (.tmp 3))⟩])
    (.cond (.tmp 41) (.region [⟨(some 42), none, .op (.move (.tmp 10))⟩,
      ⟨(some 43), none, .op (.move (.tmp 11))⟩,
      ⟨(some 44), none, .op (.buildF [(.int .i64 0)] 1 [(0, (.tmp 43))])⟩,
      ⟨(some 45), none, .op (.app 3 1 8 (.tmp 42) (.tmp 44))⟩,
      ⟨(some 10), none, .op (.move (.tmp 45))⟩]) (.region [⟨(some 46), none, .op (.move (.tmp 10))⟩,
      ⟨(some 47), none, .op (.buildF [(.int .i64 0)] 1 [(0, (.const (.int .i64 0)))])⟩,
      ⟨(some 48), none, .op (.app 3 1 8 (.tmp 46) (.tmp 47))⟩,
      ⟨(some 10), none, .op (.move (.tmp 48))⟩])))))
def A31 : ACode :=
  (.seq (.region [⟨(some 8), none, .op (.move (.const (.int .u64 0)))⟩,
      ⟨(some 9), none, .op (.move (.const (.int .i64 0)))⟩])
    (.seq (.seq (.region [⟨(some 12), none, .op (.move (.tmp 0))⟩,
      ⟨(some 13), none, .call (.func 45) [(.tmp 12)]⟩,
      ⟨(some 14), none, .op (.un .not (.tmp 13))⟩,
      ⟨(some 15), none, .op (.move (.tmp 14))⟩,
      ⟨(some 16), (some (15, false)), .op (.move (.tmp 2))⟩,
      ⟨(some 17), (some (15, false)), .call (.func 45) [(.tmp 16)]⟩,
      ⟨(some 18), (some (15, false)), .op (.un .not (.tmp 17))⟩,
      ⟨(some 19), none, .op (.pick (.tmp 15) (.const (.bool true)) (.tmp 18))⟩,
      ⟨(some 20), none, .op (.move (.tmp 19))⟩,
      ⟨(some 21), (some (20, false)), .op (.move (.tmp 2))⟩,
      ⟨(some 22), (some (20, false)), .op (.move (.tmp 0))⟩,
      ⟨(some 23), (some (20, false)), .op (.bin .lss (.tmp 21) (.tmp 22))⟩,
      ⟨(some 24), none, .op (.pick (.tmp 20) (.const (.bool true)) (.tmp 23))⟩])
    (.cond (.tmp 24) (.seq (.region [⟨(some 8), none, .op (.move (.const (.int .u64 0)))⟩,
      ⟨(some 9), none, .op (.move (.const (.int .i64 14)))⟩])
    .ret) .skip))
    (.seq (.seq (.region [⟨(some 25), none, .op (.move (.tmp 0))⟩,
      ⟨(some 26), none, .op (.move (.tmp 1))⟩,
      ⟨(some 27), none, .call (.func 23) [(.tmp 25), (.tmp 26)]⟩,
      ⟨(some 28), none, .op (.un .not (.tmp 27))⟩])
    (.cond (.tmp 28) (.seq (.region [⟨(some 8), none, .op (.move (.const (.int .u64 0)))⟩,
      ⟨(some 9), none, .op (.move (.const (.int .i64 8)))⟩])
    .ret) .skip))
    (.seq (.region [⟨(some 29), none, .op (.move (.tmp 0))⟩,
      ⟨(some 30), none, .op (.move (.tmp 1))⟩,
      ⟨(some 31), none, .call (.func 51) [(.tmp 29), (.tmp 30)]⟩,
      ⟨(some 10), none, .op (.move (.tmp 31))⟩])
    (.seq (.region [⟨(some 32), none, .op (.move (.tmp 10))⟩,
      ⟨(some 33), none, .op (.move (.tmp 0))⟩,
      ⟨(some 34), none, .op (.bin .sub (.tmp 33) (.const (.int .i64 1)))⟩,
      ⟨(some 35), none, .op (.idxA 1 (.tmp 32) (.tmp 34))⟩,
      ⟨(some 36), none, .op (.load 1 false (.tmp 35))⟩,
      ⟨(some 11), none, .op (.move (.tmp 36))⟩])
    (.seq (.block 0 (.loop A31l0))
    (.seq (.region [⟨(some 49), none, .op (.move (.tmp 10))⟩,
      ⟨(some 50), none, .call (.func 50) [(.tmp 49)]⟩,
      ⟨(some 8), none, .op (.move (.tmp 50))⟩,
      ⟨(some 9), none, .op (.move (.const (.int .i64 0)))⟩])
    .ret)))))))
def R31 : List RV := [.tmp 8, .tmp 9]
theorem is31 : Is Try.prog (fun _ _ => false) 31 51 A31 R31 := ⟨Try.f31, Try.func31, rfl, by kernel_rfl, by kernel_rfl, Try.call31⟩
def A44l0 : ACode :=
  (.seq (.region [⟨(some 13), none, .op (.bin .lss (.tmp 12) (.tmp 11))⟩])
    (.seq (.cond (.tmp 13) .skip (.exit 0))
    (.seq (.block 1 (.seq (.region [⟨(some 14), none, .op (.idxA 1 (.tmp 10) (.tmp 12))⟩,
      ⟨(some 15), none, .op (.load 1 false (.tmp 14))⟩,
      ⟨(some 6), none, .op (.move (.tmp 15))⟩])
    (.seq (.region [⟨(some 16), none, .op (.move (.tmp 6))⟩,
      ⟨(some 17), none, .op (.move (.tmp 0))⟩,
      ⟨(some 18), none, .call (.func 24) [(.tmp 17)]⟩,
      ⟨(some 19), none, .op (.bin .gtr (.tmp 16) (.tmp 18))⟩])
    (.cond (.tmp 19) (.seq (.region [⟨(some 4), none, .op (.move (.const (.int .i64 8)))⟩])
    .ret) .skip))))
    (.region [⟨(some 20), none, .op (.bin .add (.tmp 12) (.const (.int .i64 1)))⟩,
      ⟨(some 12), none, .op (.move (.tmp 20))⟩]))))
def A44 : ACode :=
  (.seq (.region [⟨(some 4), none, .op (.move (.const (.int .i64 0)))⟩])
    (.seq (.seq (.region [⟨(some 7), none, .op (.move (.tmp 0))⟩,
      ⟨(some 8), none, .call (.func 48) [(.tmp 7)]⟩,
      ⟨(some 9), none, .op (.un .not (.tmp 8))⟩])
    (.cond (.tmp 9) (.seq (.region [⟨(some 4), none, .op (.move (.const (.int .i64 14)))⟩])
    .ret) .skip))
    (.seq (.seq (.region [⟨(some 10), none, .op (.move (.tmp 1))⟩,
      ⟨(some 11), none, .op (.len (.tmp 10))⟩,
      ⟨(some 12), none, .op (.move (.const (.int .i64 0)))⟩])
    (.block 0 (.loop A44l0)))
    (.seq (.region [⟨(some 4), none, .op (.move (.const (.int .i64 0)))⟩])
    .ret))))
def R44 : List RV := [.tmp 4]
theorem is44 : Is Try.prog (fun _ _ => false) 44 21 A44 R44 := ⟨Try.f44, Try.func44, rfl, by kernel_rfl, by kernel_rfl, Try.call44⟩
def A45 : ACode :=
  (.seq (.region [⟨(some 2), none, .op (.move (.const (.bool false)))⟩])
    (.seq (.region [⟨(some 3), none, .op (.move (.tmp 0))⟩,
      ⟨(some 4), none, .op (.bin .geq (.tmp 3) (.const (.int .i64 1)))⟩,
      ⟨(some 5), none, .op (.move (.tmp 4))⟩,
      ⟨(some 6), (some (5, true)), .op (.move (.tmp 0))⟩,
      ⟨(some 7), (some (5, true)), .op (.bin .leq (.tmp 6) (.const (.int .i64 64)))⟩,
      ⟨(some 8), none, .op (.pick (.tmp 5) (.tmp 7) (.const (.bool false)))⟩,
      ⟨(some 2), none, .op (.move (.tmp 8))⟩])
    .ret))
def R45 : List RV := [.tmp 2]
theorem is45 : Is Try.prog (fun _ _ => false) 45 9 A45 R45 := ⟨Try.f45, Try.func45, rfl, by kernel_rfl, by kernel_rfl, Try.call45⟩
def A46 : ACode :=
  (.seq (.region [⟨(some 4), none, .op (.move (.const (.int .i64 0)))⟩])
    (.seq (.region [⟨(some 6), none, .op (.move (.tmp 0))⟩,
      ⟨(some 7), none, .op (.bin .sub (.const (.int .i64 64)) (.tmp 6))⟩,
      ⟨(some 5), none, .op (.move (.tmp 7))⟩])
    (.seq (.region [⟨(some 8), none, .op (.move (.tmp 1))⟩,
      ⟨(some 9), none, .op (.move (.tmp 5))⟩,
      ⟨(some 10), none, .op (.bin .shl (.tmp 8) (.tmp 9))⟩,
      ⟨(some 11), none, .op (.conv .i64 (.tmp 10))⟩,
      ⟨(some 12), none, .op (.move (.tmp 5))⟩,
      ⟨(some 13), none, .op (.bin .shr (.tmp 11) (.tmp 12))⟩,
      ⟨(some 4), none, .op (.move (.tmp 13))⟩])
    .ret)))
def R46 : List RV := [.tmp 4]
theorem is46 : Is Try.prog (fun _ _ => false) 46 14 A46 R46 := ⟨Try.f46, Try.func46, rfl, by kernel_rfl, by kernel_rfl, Try.call46⟩
def A47 : ACode :=
  (.seq (.region [⟨(some 4), none, .op (.move (.const (.int .i64 0)))⟩])
    (.seq (.seq (.region [⟨(some 5), none, .op (.move (.tmp 0))⟩,
      ⟨(some 6), none, .op (.move (.tmp 1))⟩,
      ⟨(some 7), none, .call (.func 49) [(.tmp 6)]⟩,
      ⟨(some 8), none, .op (.bin .quo (.tmp 5) (.tmp 7))⟩,
      ⟨(some 9), none, .op (.bin .rem (.tmp 8) (.const (.int .u64 2)))⟩,
      ⟨(some 10), none, .op (.bin .eql (.tmp 9) (.const (.int .u64 1)))⟩])
    (.cond (.tmp 10) (.seq (.region [⟨(some 4), none, .op (.move (.const (.int .i64 1)))⟩])
    .ret) .skip))
    (.seq (.region [⟨(some 4), none, .op (.move (.const (.int .i64 0)))⟩])
    .ret)))
def R47 : List RV := [.tmp 4]
theorem is47 : Is Try.prog (fun _ _ => false) 47 11 A47 R47 := ⟨Try.f47, Try.func47, rfl, by kernel_rfl, by kernel_rfl, Try.call47⟩
def A48 : ACode :=
  (.seq (.region [⟨(some 2), none, .op (.move (.const (.bool false)))⟩])
    (.seq (.region [⟨(some 3), none, .op (.move (.tmp 0))⟩,
      ⟨(some 4), none, .op (.bin .geq (.tmp 3) (.const (.int .i64 1)))⟩,
      ⟨(some 5), none, .op (.move (.tmp 4))⟩,
      ⟨(some 6), (some (5, true)), .op (.move (.tmp 0))⟩,
      ⟨(some 7), (some (5, true)), .op (.bin .leq (.tmp 6) (.const (.int .i64 64)))⟩,
      ⟨(some 8), none, .op (.pick (.tmp 5) (.tmp 7) (.const (.bool false)))⟩,
      ⟨(some 2), none, .op (.move (.tmp 8))⟩])
    .ret))
def R48 : List RV := [.tmp 2]
theorem is48 : Is Try.prog (fun _ _ => false) 48 9 A48 R48 := ⟨Try.f48, Try.func48, rfl, by kernel_rfl, by kernel_rfl, Try.call48⟩
def A49l0 : ACode :=
  (.seq (.seq (.region [⟨(some 5), none, .op (.move (.tmp 4))⟩,
      ⟨(some 6), none, .op (.move (.tmp 0))⟩,
      ⟨(some 7), none, .op (.bin .lss (.tmp 5) (.tmp 6))⟩])
    (.cond (.tmp 7) .skip (.exit 0)))
    (.seq (.block 1 (.region [⟨(some 10), none, .op (.move (.tmp 3))⟩,
      ⟨(some 11), none, .op (.move (.tmp 3))⟩,
      ⟨(some 12), none, .op (.bin .add (.tmp 10) (.tmp 11))⟩,
      ⟨(some 3), none, .op (.move (.tmp 12))⟩]))
    (.region [⟨(some 8), none, .op (.move (.tmp 4))⟩,
      ⟨(some 9), none, .op (.bin .add (.tmp 8) (.const (.int .i64 1)))⟩,
      ⟨(some 4), none, .op (.move (.tmp 9))⟩])))
def A49 : ACode :=
  (.seq (.region [⟨(some 2), none, .op (.move (.const (.int .u64 0)))⟩])
    (.seq (.region [⟨(some 3), none, .op (.move (.const (.int .u64 1)))⟩])
    (.seq (.seq (.region [⟨(some 4), none, .op (.move (.const (.int .i64 0)))⟩])
    (.block 0 (.loop A49l0)))
    (.seq (.region [⟨(some 13), none, .op (.move (.tmp 3))⟩,
      ⟨(some 2), none, .op (.move (.tmp 13))⟩])
    .ret))))
def R49 : List RV := [.tmp 2]
theorem is49 : Is Try.prog (fun _ _ => false) 49 14 A49 R49 := ⟨Try.f49, Try.func49, rfl, by kernel_rfl, by kernel_rfl, Try.call49⟩
def A50l0 : ACode :=
  (.seq (.seq (.region [⟨(some 5), none, .op (.move (.tmp 4))⟩,
      ⟨(some 6), none, .op (.move (.tmp 0))⟩,
      ⟨(some 7), none, .op (.len (.tmp 6))⟩,
      ⟨(some 8), none, .op (.bin .lss (.tmp 5) (.tmp 7))⟩])
    (.cond (.tmp 8) .skip (.exit 0)))
    (.seq (.block 1 (.seq (.region [⟨(some 11), none, .op (.move (.tmp 0))⟩,
      ⟨(some 12), none, .op (.move (.tmp 4))⟩,
      ⟨(some 13), none, .op (.idxA 1 (.tmp 11) (.tmp 12))⟩,
      ⟨(some 14), none, .op (.load 1 false (.tmp 13))⟩,
      ⟨(some 15), none, .op (.bin .eql (.tmp 14) (.const (.int .i64 1)))⟩])
    (.cond (.tmp 15) (.region [⟨(some 16), none, .op (.move (.tmp 3))⟩,
      ⟨(some 17), none, .op (.move (.tmp 4))⟩,
      ⟨(some 18), none, .call (.func 49) [(.tmp 17)]⟩,
      ⟨(some 19), none, .op (.bin .add (.tmp 16) (.tmp 18))⟩,
      ⟨(some 3), none, .op (.move (.tmp 19))⟩]) .skip)))
    (.region [⟨(some 9), none, .op (.move (.tmp 4))⟩,
      ⟨(some 10), none, .op (.bin .add (.tmp 9) (.const (.int .i64 1)))⟩,
      ⟨(some 4), none, .op (.move (.tmp 10))⟩])))
def A50 : ACode :=
  (.seq (.region [⟨(some 2), none, .op (.move (.const (.int .u64 0)))⟩])
    (.seq (.region [⟨(some 3), none, .op (.move (.const (.int .u64 0)))⟩])
    (.seq (.seq (.region [⟨(some 4), none, .op (.move (.const (.int .i64 0)))⟩])
    (.block 0 (.loop A50l0)))
    (.seq (.region [⟨(some 20), none, .op (.move (.tmp 3))⟩,
      ⟨(some 2), none, .op (.move (.tmp 20))⟩])
    .ret))))
def R50 : List RV := [.tmp 2]
theorem is50 : Is Try.prog (fun _ _ => false) 50 21 A50 R50 := ⟨Try.f50, Try.func50, rfl, by kernel_rfl, by kernel_rfl, Try.call50⟩
def A51l0 : ACode :=
  (.seq (.seq (.region [⟨(some 7), none, .op (.move (.tmp 6))⟩,
      ⟨(some 8), none, .op (.move (.tmp 0))⟩,
      ⟨(some 9), none, .op (.bin .lss (.tmp 7) (.tmp 8))⟩])
    (.cond (.tmp 9) .skip (.exit 0)))
    (.seq (.block 1 (.region [⟨(some 12), none, .op (.move (.tmp 5))⟩,
      ⟨(some 13), none, .op (.move (.tmp 1))⟩,
      ⟨(some 14), none, .op (.move (.tmp 6))⟩,
      ⟨(some 15), none, .call (.func 47) [(.tmp 13), (.tmp 14)]⟩,
      ⟨(some 16), none, .op (.buildF [(.int .i64 0)] 1 [(0, (.tmp 15))])⟩,
      ⟨(some 17), none, .op (.app 3 1 8 (.tmp 12) (.tmp 16))⟩,
      ⟨(some 5), none, .op (.move (.tmp 17))⟩]))
    (.region [⟨(some 10), none, .op (.move (.tmp 6))⟩,
      ⟨(some 11), none, .op (.bin .add (.tmp 10) (.const (.int .i64 1)))⟩,
      ⟨(some 6), none, .op (.move (.tmp 11))⟩])))
def A51 : ACode :=
  (.seq (.region [⟨(some 4), none, .op (.move (.const (.slice none 0 0)))⟩])
    (.seq (.region [⟨(some 5), none, .op (.move (.const (.slice none 0 0)))⟩])
    (.seq (.seq (.region [⟨(some 6), none, .op (.move (.const (.int .i64 0)))⟩])
    (.block 0 (.loop A51l0)))
    (.seq (.region [⟨(some 18), none, .op (.move (.tmp 5))⟩,
      ⟨(some 4), none, .op (.move (.tmp 18))⟩])
    .ret))))
def R51 : List RV := [.tmp 4]
theorem is51 : Is Try.prog (fun _ _ => false) 51 19 A51 R51 := ⟨Try.f51, Try.func51, rfl, by kernel_rfl, by kernel_rfl, Try.call51⟩
end Go.Proofs.Ytcnnanicdjdddaa
