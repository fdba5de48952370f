/- The abstract code of the further functions that the statements on rows reach. -/
import Derived.Test.YtmnlfgnpmpebmaaRA1
namespace Go.Proofs.Ytmnlfgnpmpebmaa
open Go Go.Ab Go.Proofs
set_option maxRecDepth 100000
def A4l0 : ACode :=
  (.seq (.seq (.region [⟨(some 76), none, .op (.move (.tmp 18))⟩,
      ⟨(some 77), none, .op (.move (.tmp 13))⟩,
      ⟨(some 78), none, .op (.len (.tmp 77))⟩,
      ⟨(some 79), none, .op (.bin .lss (.tmp 76) (.tmp 78))⟩])
    (.cond (.tmp 79) .skip (.exit 0)))
    (.seq (.block 1 (.region [⟨(some 82), none, .op (.move (.tmp 13))⟩,
      ⟨(some 83), none, .op (.move (.tmp 18))⟩,
      ⟨(some 84), none, .op (.idxA 2 (.tmp 82) (.tmp 83))⟩,
      ⟨(some 85), none, .op (.fieldA 1 (.tmp 84))⟩,
      ⟨none, none, .op (.store 1 (.tmp 85) (.const (.int .i64 (-1))))⟩]))
    (.region [⟨(some 80), none, .op (.move (.tmp 18))⟩,
      ⟨(some 81), none, .op (.bin .add (.tmp 80) (.const (.int .i64 1)))⟩,
      ⟨(some 18), none, .op (.move (.tmp 81))⟩])))
def A4l1 : ACode :=
  (.seq (.seq (.region [⟨(some 86), none, .op (.move (.tmp 19))⟩,
      ⟨(some 87), none, .op (.move (.tmp 9))⟩,
      ⟨(some 88), none, .op (.len (.tmp 87))⟩,
      ⟨(some 89), none, .op (.bin .lss (.tmp 86) (.tmp 88))⟩])
    (.cond (.tmp 89) .skip (.exit 2)))
    (.seq (.block 3 (.region [⟨(some 92), none, .op (.move (.tmp 9))⟩,
      ⟨(some 93), none, .op (.move (.tmp 19))⟩,
      ⟨(some 94), none, .op (.idxA 2 (.tmp 92) (.tmp 93))⟩,
      ⟨(some 95), none, .op (.fieldA 1 (.tmp 94))⟩,
      ⟨none, none, .op (.store 1 (.tmp 95) (.const (.int .i64 (-1))))⟩]))
    (.region [⟨(some 90), none, .op (.move (.tmp 19))⟩,
      ⟨(some 91), none, .op (.bin .add (.tmp 90) (.const (.int .i64 1)))⟩,
      ⟨(some 19), none, .op (.move (.tmp 91))⟩])))
def A4 : ACode :=
  (.seq (.region [⟨(some 6), none, .op (.move (.const (.bool false)))⟩])
    (.seq (.seq (.region [⟨(some 20), none, .op (.move (.tmp 0))⟩,
      ⟨(some 21), none, .op (.len (.tmp 20))⟩,
      ⟨(some 22), none, .op (.bin .gtr (.tmp 21) (.const (.int .i64 2000)))⟩,
      ⟨(some 23), none, .op (.move (.tmp 22))⟩,
      ⟨(some 24), (some (23, false)), .op (.move (.tmp 1))⟩,
      ⟨(some 25), (some (23, false)), .op (.len (.tmp 24))⟩,
      ⟨(some 26), (some (23, false)), .op (.bin .gtr (.tmp 25) (.const (.int .i64 2000)))⟩,
      ⟨(some 27), none, .op (.pick (.tmp 23) (.const (.bool true)) (.tmp 26))⟩])
    (.cond (.tmp 27) (.seq (.region [⟨(some 6), none, .op (.move (.const (.bool true)))⟩])
    .ret) .skip))
    (.seq (.region [⟨(some 28), none, .op (.buildO 40 [(.int .u64 0), (.int .i64 0)] 0 [])⟩,
      ⟨(some 29), none, .op (.move (.tmp 0))⟩,
      ⟨(some 30), none, .op (.app 40 2 16 (.tmp 28) (.tmp 29))⟩,
      ⟨(some 31), none, .op (.buildO 40 [(.int .u64 0), (.int .i64 0)] 0 [])⟩,
      ⟨(some 32), none, .op (.move (.tmp 1))⟩,
      ⟨(some 33), none, .op (.app 40 2 16 (.tmp 31) (.tmp 32))⟩,
      ⟨(some 7), none, .op (.move (.tmp 30))⟩,
      ⟨(some 8), none, .op (.move (.tmp 33))⟩])
    (.seq (.region [⟨(some 35), none, .op (.move (.tmp 0))⟩,
      ⟨(some 36), none, .op (.move (.tmp 2))⟩,
      ⟨(some 37), none, .call (.func 15) [(.tmp 35), (.tmp 36)]⟩,
      ⟨(some 34), none, .op (.move (.tmp 37))⟩,
      ⟨(some 38), none, .op (.ext (.tmp 34) 0)⟩,
      ⟨(some 39), none, .op (.ext (.tmp 34) 1)⟩,
      ⟨(some 9), none, .op (.move (.tmp 38))⟩,
      ⟨(some 10), none, .op (.move (.tmp 39))⟩])
    (.seq (.region [⟨(some 41), none, .op (.move (.tmp 0))⟩,
      ⟨(some 42), none, .op (.move (.tmp 2))⟩,
      ⟨(some 43), none, .call (.func 16) [(.tmp 41), (.tmp 42)]⟩,
      ⟨(some 40), none, .op (.move (.tmp 43))⟩,
      ⟨(some 44), none, .op (.ext (.tmp 40) 0)⟩,
      ⟨(some 45), none, .op (.ext (.tmp 40) 1)⟩,
      ⟨(some 11), none, .op (.move (.tmp 44))⟩,
      ⟨(some 12), none, .op (.move (.tmp 45))⟩])
    (.seq (.region [⟨(some 47), none, .op (.move (.tmp 0))⟩,
      ⟨(some 48), none, .op (.move (.tmp 1))⟩,
      ⟨(some 49), none, .call (.func 17) [(.tmp 47), (.tmp 48)]⟩,
      ⟨(some 46), none, .op (.move (.tmp 49))⟩,
      ⟨(some 50), none, .op (.ext (.tmp 46) 0)⟩,
      ⟨(some 51), none, .op (.ext (.tmp 46) 1)⟩,
      ⟨(some 13), none, .op (.move (.tmp 50))⟩,
      ⟨(some 14), none, .op (.move (.tmp 51))⟩])
    (.seq (.region [⟨(some 53), none, .op (.move (.tmp 0))⟩,
      ⟨(some 54), none, .op (.move (.tmp 1))⟩,
      ⟨(some 55), none, .call (.func 18) [(.tmp 53), (.tmp 54)]⟩,
      ⟨(some 52), none, .op (.move (.tmp 55))⟩,
      ⟨(some 56), none, .op (.ext (.tmp 52) 0)⟩,
      ⟨(some 57), none, .op (.ext (.tmp 52) 1)⟩,
      ⟨(some 15), none, .op (.move (.tmp 56))⟩,
      ⟨(some 16), none, .op (.move (.tmp 57))⟩])
    (.seq (.region [⟨(some 58), none, .op (.move (.tmp 9))⟩,
      ⟨(some 59), none, .op (.move (.tmp 11))⟩,
      ⟨(some 60), none, .call (.func 19) [(.tmp 58), (.tmp 59)]⟩,
      ⟨(some 61), none, .op (.move (.tmp 60))⟩,
      ⟨(some 62), (some (61, true)), .op (.move (.tmp 10))⟩,
      ⟨(some 63), (some (61, true)), .op (.move (.tmp 12))⟩,
      ⟨(some 64), (some (61, true)), .op (.bin .eql (.tmp 62) (.tmp 63))⟩,
      ⟨(some 65), none, .op (.pick (.tmp 61) (.tmp 64) (.const (.bool false)))⟩,
      ⟨(some 66), none, .op (.move (.tmp 65))⟩,
      ⟨(some 67), (some (66, true)), .op (.move (.tmp 13))⟩,
      ⟨(some 68), (some (66, true)), .op (.move (.tmp 15))⟩,
      ⟨(some 69), (some (66, true)), .call (.func 19) [(.tmp 67), (.tmp 68)]⟩,
      ⟨(some 70), none, .op (.pick (.tmp 66) (.tmp 69) (.const (.bool false)))⟩,
      ⟨(some 71), none, .op (.move (.tmp 70))⟩,
      ⟨(some 72), (some (71, true)), .op (.move (.tmp 14))⟩,
      ⟨(some 73), (some (71, true)), .op (.move (.tmp 16))⟩,
      ⟨(some 74), (some (71, true)), .op (.bin .eql (.tmp 72) (.tmp 73))⟩,
      ⟨(some 75), none, .op (.pick (.tmp 71) (.tmp 74) (.const (.bool false)))⟩,
      ⟨(some 17), none, .op (.move (.tmp 75))⟩])
    (.seq (.seq (.region [⟨(some 18), none, .op (.move (.const (.int .i64 0)))⟩])
    (.block 0 (.loop A4l0)))
    (.seq (.seq (.region [⟨(some 19), none, .op (.move (.const (.int .i64 0)))⟩])
    (.block 2 (.loop A4l1)))
    (.seq (.region [⟨(some 96), none, .op (.move (.tmp 17))⟩,
      ⟨(some 97), none, .op (.move (.tmp 96))⟩,
      ⟨(some 98), (some (97, true)), .op (.move (.tmp 0))⟩,
      ⟨(some 99), (some (97, true)), .op (.move (.tmp 7))⟩,
      ⟨(some 100), (some (97, true)), .call (.func 19) [(.tmp 98), (.tmp 99)]⟩,
      ⟨(some 101), none, .op (.pick (.tmp 97) (.tmp 100) (.const (.bool false)))⟩,
      ⟨(some 102), none, .op (.move (.tmp 101))⟩,
      ⟨(some 103), (some (102, true)), .op (.move (.tmp 1))⟩,
      ⟨(some 104), (some (102, true)), .op (.move (.tmp 8))⟩,
      ⟨(some 105), (some (102, true)), .call (.func 19) [(.tmp 103), (.tmp 104)]⟩,
      ⟨(some 106), none, .op (.pick (.tmp 102) (.tmp 105) (.const (.bool false)))⟩,
      ⟨(some 6), none, .op (.move (.tmp 106))⟩])
    .ret)))))))))))
def R4 : List RV := [.tmp 6]
theorem is4 : Is Try.prog (fun r i => [(3, 0), (3, 3)].contains (r, i)) 4 107 A4 R4 := ⟨Try.f4, Try.func4, rfl, by kernel_rfl, by kernel_rfl, Try.call4⟩
def A5 : ACode :=
  (.seq (.region [⟨(some 4), none, .op (.move (.const (.bool false)))⟩])
    (.seq (.seq (.region [⟨(some 15), none, .op (.move (.tmp 0))⟩,
      ⟨(some 16), none, .op (.len (.tmp 15))⟩,
      ⟨(some 17), none, .op (.bin .gtr (.tmp 16) (.const (.int .i64 2000)))⟩,
      ⟨(some 18), none, .op (.move (.tmp 17))⟩,
      ⟨(some 19), (some (18, false)), .op (.move (.tmp 1))⟩,
      ⟨(some 20), (some (18, false)), .op (.len (.tmp 19))⟩,
      ⟨(some 21), (some (18, false)), .op (.bin .gtr (.tmp 20) (.const (.int .i64 10000)))⟩,
      ⟨(some 22), none, .op (.pick (.tmp 18) (.const (.bool true)) (.tmp 21))⟩])
    (.cond (.tmp 22) (.seq (.region [⟨(some 4), none, .op (.move (.const (.bool true)))⟩])
    .ret) .skip))
    (.seq (.region [⟨(some 23), none, .op (.buildO 40 [(.int .u64 0), (.int .i64 0)] 0 [])⟩,
      ⟨(some 24), none, .op (.move (.tmp 0))⟩,
      ⟨(some 25), none, .op (.app 40 2 16 (.tmp 23) (.tmp 24))⟩,
      ⟨(some 26), none, .op (.buildO 5 [(.int .u8 0)] 0 [])⟩,
      ⟨(some 27), none, .op (.move (.tmp 1))⟩,
      ⟨(some 28), none, .op (.app 5 1 1 (.tmp 26) (.tmp 27))⟩,
      ⟨(some 5), none, .op (.move (.tmp 25))⟩,
      ⟨(some 6), none, .op (.move (.tmp 28))⟩])
    (.seq (.region [⟨(some 30), none, .op (.move (.tmp 0))⟩,
      ⟨(some 31), none, .call (.func 20) [(.tmp 30)]⟩,
      ⟨(some 29), none, .op (.move (.tmp 31))⟩,
      ⟨(some 32), none, .op (.ext (.tmp 29) 0)⟩,
      ⟨(some 33), none, .op (.ext (.tmp 29) 1)⟩,
      ⟨(some 7), none, .op (.move (.tmp 32))⟩,
      ⟨(some 8), none, .op (.move (.tmp 33))⟩])
    (.seq (.region [⟨(some 35), none, .op (.move (.tmp 0))⟩,
      ⟨(some 36), none, .call (.func 21) [(.tmp 35)]⟩,
      ⟨(some 34), none, .op (.move (.tmp 36))⟩,
      ⟨(some 37), none, .op (.ext (.tmp 34) 0)⟩,
      ⟨(some 38), none, .op (.ext (.tmp 34) 1)⟩,
      ⟨(some 9), none, .op (.move (.tmp 37))⟩,
      ⟨(some 10), none, .op (.move (.tmp 38))⟩])
    (.seq (.region [⟨(some 40), none, .op (.move (.tmp 1))⟩,
      ⟨(some 41), none, .call (.func 22) [(.tmp 40)]⟩,
      ⟨(some 39), none, .op (.move (.tmp 41))⟩,
      ⟨(some 42), none, .op (.ext (.tmp 39) 0)⟩,
      ⟨(some 43), none, .op (.ext (.tmp 39) 1)⟩,
      ⟨(some 11), none, .op (.move (.tmp 42))⟩,
      ⟨(some 12), none, .op (.move (.tmp 43))⟩])
    (.seq (.region [⟨(some 45), none, .op (.move (.tmp 1))⟩,
      ⟨(some 46), none, .call (.func 23) [(.tmp 45)]⟩,
      ⟨(some 44), none, .op (.move (.tmp 46))⟩,
      ⟨(some 47), none, .op (.ext (.tmp 44) 0)⟩,
      ⟨(some 48), none, .op (.ext (.tmp 44) 1)⟩,
      ⟨(some 13), none, .op (.move (.tmp 47))⟩,
      ⟨(some 14), none, .op (.move (.tmp 48))⟩])
    (.seq (.region [⟨(some 49), none, .op (.move (.tmp 7))⟩,
      ⟨(some 50), none, .op (.move (.tmp 9))⟩,
      ⟨(some 51), none, .call (.func 24) [(.tmp 49), (.tmp 50)]⟩,
      ⟨(some 52), none, .op (.move (.tmp 51))⟩,
      ⟨(some 53), (some (52, true)), .op (.move (.tmp 8))⟩,
      ⟨(some 54), (some (52, true)), .op (.move (.tmp 10))⟩,
      ⟨(some 55), (some (52, true)), .op (.bin .eql (.tmp 53) (.tmp 54))⟩,
      ⟨(some 56), none, .op (.pick (.tmp 52) (.tmp 55) (.const (.bool false)))⟩,
      ⟨(some 57), none, .op (.move (.tmp 56))⟩,
      ⟨(some 58), (some (57, true)), .op (.move (.tmp 11))⟩,
      ⟨(some 59), (some (57, true)), .op (.move (.tmp 13))⟩,
      ⟨(some 60), (some (57, true)), .call (.func 19) [(.tmp 58), (.tmp 59)]⟩,
      ⟨(some 61), none, .op (.pick (.tmp 57) (.tmp 60) (.const (.bool false)))⟩,
      ⟨(some 62), none, .op (.move (.tmp 61))⟩,
      ⟨(some 63), (some (62, true)), .op (.move (.tmp 12))⟩,
      ⟨(some 64), (some (62, true)), .op (.move (.tmp 14))⟩,
      ⟨(some 65), (some (62, true)), .op (.bin .eql (.tmp 63) (.tmp 64))⟩,
      ⟨(some 66), none, .op (.pick (.tmp 62) (.tmp 65) (.const (.bool false)))⟩,
      ⟨(some 67), none, .op (.move (.tmp 66))⟩,
      ⟨(some 68), (some (67, true)), .op (.move (.tmp 0))⟩,
      ⟨(some 69), (some (67, true)), .op (.move (.tmp 5))⟩,
      ⟨(some 70), (some (67, true)), .call (.func 19) [(.tmp 68), (.tmp 69)]⟩,
      ⟨(some 71), none, .op (.pick (.tmp 67) (.tmp 70) (.const (.bool false)))⟩,
      ⟨(some 72), none, .op (.move (.tmp 71))⟩,
      ⟨(some 73), (some (72, true)), .op (.move (.tmp 1))⟩,
      ⟨(some 74), (some (72, true)), .op (.move (.tmp 6))⟩,
      ⟨(some 75), (some (72, true)), .call (.func 24) [(.tmp 73), (.tmp 74)]⟩,
      ⟨(some 76), none, .op (.pick (.tmp 72) (.tmp 75) (.const (.bool false)))⟩,
      ⟨(some 4), none, .op (.move (.tmp 76))⟩])
    .ret))))))))
def R5 : List RV := [.tmp 4]
theorem is5 : Is Try.prog (fun r i => [(3, 0), (3, 3)].contains (r, i)) 5 77 A5 R5 := ⟨Try.f5, Try.func5, rfl, by kernel_rfl, by kernel_rfl, Try.call5⟩
def A6 : ACode :=
  (.seq (.region [⟨(some 2), none, .op (.move (.const (.bool false)))⟩])
    (.seq (.region [⟨(some 8), none, .call (.func 25) []⟩,
      ⟨(some 3), none, .op (.move (.tmp 8))⟩])
    (.seq (.seq (.region [⟨(some 9), none, .op (.move (.tmp 0))⟩,
      ⟨(some 10), none, .op (.len (.tmp 9))⟩,
      ⟨(some 11), none, .op (.bin .gtr (.tmp 10) (.const (.int .i64 2000)))⟩,
      ⟨(some 12), none, .op (.move (.tmp 11))⟩,
      ⟨(some 13), (some (12, false)), .op (.move (.tmp 3))⟩,
      ⟨(some 14), (some (12, false)), .op (.un .not (.tmp 13))⟩,
      ⟨(some 15), none, .op (.pick (.tmp 12) (.const (.bool true)) (.tmp 14))⟩])
    (.cond (.tmp 15) (.seq (.region [⟨(some 16), none, .op (.move (.tmp 3))⟩,
      ⟨(some 2), none, .op (.move (.tmp 16))⟩])
    .ret) .skip))
    (.seq (.region [⟨(some 18), none, .op (.move (.tmp 0))⟩,
      ⟨(some 19), none, .call (.func 20) [(.tmp 18)]⟩,
      ⟨(some 17), none, .op (.move (.tmp 19))⟩,
      ⟨(some 20), none, .op (.ext (.tmp 17) 0)⟩,
      ⟨(some 21), none, .op (.ext (.tmp 17) 1)⟩,
      ⟨(some 4), none, .op (.move (.tmp 20))⟩,
      ⟨(some 5), none, .op (.move (.tmp 21))⟩])
    (.seq (.seq (.region [⟨(some 22), none, .op (.move (.tmp 5))⟩,
      ⟨(some 23), none, .op (.bin .neq (.tmp 22) (.const (.int .i64 0)))⟩])
    (.cond (.tmp 23) (.seq (.region [⟨(some 24), none, .op (.move (.tmp 3))⟩,
      ⟨(some 25), none, .op (.move (.tmp 24))⟩,
      ⟨(some 26), (some (25, true)), .op (.move (.tmp 4))⟩,
      ⟨(some 27), (some (25, true)), .op (.len (.tmp 26))⟩,
      ⟨(some 28), (some (25, true)), .op (.bin .eql (.tmp 27) (.const (.int .i64 0)))⟩,
      ⟨(some 29), none, .op (.pick (.tmp 25) (.tmp 28) (.const (.bool false)))⟩,
      ⟨(some 30), none, .op (.move (.tmp 29))⟩,
      ⟨(some 31), (some (30, true)), .op (.move (.tmp 5))⟩,
      ⟨(some 32), (some (30, true)), .op (.move (.tmp 0))⟩,
      ⟨(some 33), (some (30, true)), .call (.func 13) [(.tmp 32)]⟩,
      ⟨(some 34), (some (30, true)), .op (.bin .eql (.tmp 31) (.tmp 33))⟩,
      ⟨(some 35), none, .op (.pick (.tmp 30) (.tmp 34) (.const (.bool false)))⟩,
      ⟨(some 2), none, .op (.move (.tmp 35))⟩])
    .ret) .skip))
    (.seq (.region [⟨(some 37), none, .op (.move (.tmp 4))⟩,
      ⟨(some 38), none, .call (.func 22) [(.tmp 37)]⟩,
      ⟨(some 36), none, .op (.move (.tmp 38))⟩,
      ⟨(some 39), none, .op (.ext (.tmp 36) 0)⟩,
      ⟨(some 40), none, .op (.ext (.tmp 36) 1)⟩,
      ⟨(some 6), none, .op (.move (.tmp 39))⟩,
      ⟨(some 7), none, .op (.move (.tmp 40))⟩])
    (.seq (.region [⟨(some 41), none, .op (.move (.tmp 3))⟩,
      ⟨(some 42), none, .op (.move (.tmp 41))⟩,
      ⟨(some 43), (some (42, true)), .op (.move (.tmp 7))⟩,
      ⟨(some 44), (some (42, true)), .op (.bin .eql (.tmp 43) (.const (.int .i64 0)))⟩,
      ⟨(some 45), none, .op (.pick (.tmp 42) (.tmp 44) (.const (.bool false)))⟩,
      ⟨(some 46), none, .op (.move (.tmp 45))⟩,
      ⟨(some 47), (some (46, true)), .op (.move (.tmp 0))⟩,
      ⟨(some 48), (some (46, true)), .op (.move (.tmp 6))⟩,
      ⟨(some 49), (some (46, true)), .call (.func 19) [(.tmp 47), (.tmp 48)]⟩,
      ⟨(some 50), none, .op (.pick (.tmp 46) (.tmp 49) (.const (.bool false)))⟩,
      ⟨(some 51), none, .op (.move (.tmp 50))⟩,
      ⟨(some 52), (some (51, true)), .op (.move (.tmp 4))⟩,
      ⟨(some 53), (some (51, true)), .op (.len (.tmp 52))⟩,
      ⟨(some 54), (some (51, true)), .op (.move (.tmp 0))⟩,
      ⟨(some 55), (some (51, true)), .op (.len (.tmp 54))⟩,
      ⟨(some 56), (some (51, true)), .op (.bin .mul (.const (.int .i64 9)) (.tmp 55))⟩,
      ⟨(some 57), (some (51, true)), .op (.bin .add (.tmp 56) (.const (.int .i64 2)))⟩,
      ⟨(some 58), (some (51, true)), .op (.bin .leq (.tmp 53) (.tmp 57))⟩,
      ⟨(some 59), none, .op (.pick (.tmp 51) (.tmp 58) (.const (.bool false)))⟩,
      ⟨(some 2), none, .op (.move (.tmp 59))⟩])
    .ret)))))))
def R6 : List RV := [.tmp 2]
theorem is6 : Is Try.prog (fun _ _ => false) 6 60 A6 R6 := ⟨Try.f6, Try.func6, rfl, by kernel_rfl, by kernel_rfl, Try.call6⟩
def A7 : ACode :=
  (.seq (.region [⟨(some 2), none, .op (.move (.const (.bool false)))⟩])
    (.seq (.region [⟨(some 8), none, .call (.func 25) []⟩,
      ⟨(some 3), none, .op (.move (.tmp 8))⟩])
    (.seq (.seq (.region [⟨(some 9), none, .op (.move (.tmp 0))⟩,
      ⟨(some 10), none, .op (.len (.tmp 9))⟩,
      ⟨(some 11), none, .op (.bin .gtr (.tmp 10) (.const (.int .i64 10000)))⟩,
      ⟨(some 12), none, .op (.move (.tmp 11))⟩,
      ⟨(some 13), (some (12, false)), .op (.move (.tmp 3))⟩,
      ⟨(some 14), (some (12, false)), .op (.un .not (.tmp 13))⟩,
      ⟨(some 15), none, .op (.pick (.tmp 12) (.const (.bool true)) (.tmp 14))⟩])
    (.cond (.tmp 15) (.seq (.region [⟨(some 16), none, .op (.move (.tmp 3))⟩,
      ⟨(some 2), none, .op (.move (.tmp 16))⟩])
    .ret) .skip))
    (.seq (.region [⟨(some 18), none, .op (.move (.tmp 0))⟩,
      ⟨(some 19), none, .call (.func 22) [(.tmp 18)]⟩,
      ⟨(some 17), none, .op (.move (.tmp 19))⟩,
      ⟨(some 20), none, .op (.ext (.tmp 17) 0)⟩,
      ⟨(some 21), none, .op (.ext (.tmp 17) 1)⟩,
      ⟨(some 4), none, .op (.move (.tmp 20))⟩,
      ⟨(some 5), none, .op (.move (.tmp 21))⟩])
    (.seq (.seq (.region [⟨(some 22), none, .op (.move (.tmp 5))⟩,
      ⟨(some 23), none, .op (.bin .neq (.tmp 22) (.const (.int .i64 0)))⟩])
    (.cond (.tmp 23) (.seq (.region [⟨(some 24), none, .op (.move (.tmp 3))⟩,
      ⟨(some 25), none, .op (.move (.tmp 24))⟩,
      ⟨(some 26), (some (25, true)), .op (.move (.tmp 5))⟩,
      ⟨(some 27), (some (25, true)), .op (.bin .eql (.tmp 26) (.const (.int .i64 12)))⟩,
      ⟨(some 28), none, .op (.pick (.tmp 25) (.tmp 27) (.const (.bool false)))⟩,
      ⟨(some 29), none, .op (.move (.tmp 28))⟩,
      ⟨(some 30), (some (29, true)), .op (.move (.tmp 4))⟩,
      ⟨(some 31), (some (29, true)), .op (.len (.tmp 30))⟩,
      ⟨(some 32), (some (29, true)), .op (.bin .eql (.tmp 31) (.const (.int .i64 0)))⟩,
      ⟨(some 33), none, .op (.pick (.tmp 29) (.tmp 32) (.const (.bool false)))⟩,
      ⟨(some 2), none, .op (.move (.tmp 33))⟩])
    .ret) .skip))
    (.seq (.region [⟨(some 35), none, .op (.move (.tmp 4))⟩,
      ⟨(some 36), none, .call (.func 20) [(.tmp 35)]⟩,
      ⟨(some 34), none, .op (.move (.tmp 36))⟩,
      ⟨(some 37), none, .op (.ext (.tmp 34) 0)⟩,
      ⟨(some 38), none, .op (.ext (.tmp 34) 1)⟩,
      ⟨(some 6), none, .op (.move (.tmp 37))⟩,
      ⟨(some 7), none, .op (.move (.tmp 38))⟩])
    (.seq (.region [⟨(some 39), none, .op (.move (.tmp 3))⟩,
      ⟨(some 40), none, .op (.move (.tmp 39))⟩,
      ⟨(some 41), (some (40, true)), .op (.move (.tmp 7))⟩,
      ⟨(some 42), (some (40, true)), .op (.bin .eql (.tmp 41) (.const (.int .i64 0)))⟩,
      ⟨(some 43), none, .op (.pick (.tmp 40) (.tmp 42) (.const (.bool false)))⟩,
      ⟨(some 44), none, .op (.move (.tmp 43))⟩,
      ⟨(some 45), (some (44, true)), .op (.move (.tmp 0))⟩,
      ⟨(some 46), (some (44, true)), .op (.move (.tmp 6))⟩,
      ⟨(some 47), (some (44, true)), .call (.func 24) [(.tmp 45), (.tmp 46)]⟩,
      ⟨(some 48), none, .op (.pick (.tmp 44) (.tmp 47) (.const (.bool false)))⟩,
      ⟨(some 49), none, .op (.move (.tmp 48))⟩,
      ⟨(some 50), (some (49, true)), .op (.move (.tmp 4))⟩,
      ⟨(some 51), (some (49, true)), .call (.func 13) [(.tmp 50)]⟩,
      ⟨(some 52), (some (49, true)), .op (.bin .eql (.tmp 51) (.const (.int .i64 0)))⟩,
      ⟨(some 53), none, .op (.pick (.tmp 49) (.tmp 52) (.const (.bool false)))⟩,
      ⟨(some 54), none, .op (.move (.tmp 53))⟩,
      ⟨(some 55), (some (54, true)), .op (.move (.tmp 4))⟩,
      ⟨(some 56), (some (54, true)), .op (.len (.tmp 55))⟩,
      ⟨(some 57), (some (54, true)), .op (.move (.tmp 0))⟩,
      ⟨(some 58), (some (54, true)), .op (.len (.tmp 57))⟩,
      ⟨(some 59), (some (54, true)), .op (.bin .lss (.tmp 56) (.tmp 58))⟩,
      ⟨(some 60), none, .op (.pick (.tmp 54) (.tmp 59) (.const (.bool false)))⟩,
      ⟨(some 2), none, .op (.move (.tmp 60))⟩])
    .ret)))))))
def R7 : List RV := [.tmp 2]
theorem is7 : Is Try.prog (fun _ _ => false) 7 61 A7 R7 := ⟨Try.f7, Try.func7, rfl, by kernel_rfl, by kernel_rfl, Try.call7⟩
def A8 : ACode :=
  (.seq (.region [⟨(some 6), none, .op (.move (.const (.bool false)))⟩])
    (.seq (.region [⟨(some 13), none, .call (.func 25) []⟩,
      ⟨(some 7), none, .op (.move (.tmp 13))⟩])
    (.seq (.seq (.region [⟨(some 14), none, .op (.move (.tmp 0))⟩,
      ⟨(some 15), none, .op (.len (.tmp 14))⟩,
      ⟨(some 16), none, .op (.bin .gtr (.tmp 15) (.const (.int .i64 2000)))⟩,
      ⟨(some 17), none, .op (.move (.tmp 16))⟩,
      ⟨(some 18), (some (17, false)), .op (.move (.tmp 0))⟩,
      ⟨(some 19), (some (17, false)), .call (.func 13) [(.tmp 18)]⟩,
      ⟨(some 20), (some (17, false)), .op (.bin .neq (.tmp 19) (.const (.int .i64 0)))⟩,
      ⟨(some 21), none, .op (.pick (.tmp 17) (.const (.bool true)) (.tmp 20))⟩,
      ⟨(some 22), none, .op (.move (.tmp 21))⟩,
      ⟨(some 23), (some (22, false)), .op (.move (.tmp 1))⟩,
      ⟨(some 24), (some (22, false)), .op (.bin .lss (.tmp 23) (.const (.int .i64 0)))⟩,
      ⟨(some 25), none, .op (.pick (.tmp 22) (.const (.bool true)) (.tmp 24))⟩,
      ⟨(some 26), none, .op (.move (.tmp 25))⟩,
      ⟨(some 27), (some (26, false)), .op (.move (.tmp 1))⟩,
      ⟨(some 28), (some (26, false)), .op (.move (.tmp 0))⟩,
      ⟨(some 29), (some (26, false)), .op (.len (.tmp 28))⟩,
      ⟨(some 30), (some (26, false)), .op (.bin .geq (.tmp 27) (.tmp 29))⟩,
      ⟨(some 31), none, .op (.pick (.tmp 26) (.const (.bool true)) (.tmp 30))⟩,
      ⟨(some 32), none, .op (.move (.tmp 31))⟩,
      ⟨(some 33), (some (32, false)), .op (.move (.tmp 7))⟩,
      ⟨(some 34), (some (32, false)), .op (.un .not (.tmp 33))⟩,
      ⟨(some 35), none, .op (.pick (.tmp 32) (.const (.bool true)) (.tmp 34))⟩])
    (.cond (.tmp 35) (.seq (.region [⟨(some 36), none, .op (.move (.tmp 7))⟩,
      ⟨(some 6), none, .op (.move (.tmp 36))⟩])
    .ret) .skip))
    (.seq (.region [⟨(some 8), none, .op (.move (.const (.int .u64 4294967296)))⟩])
    (.seq (.seq (.region [⟨(some 37), none, .op (.move (.tmp 1))⟩,
      ⟨(some 38), none, .op (.bin .add (.tmp 37) (.const (.int .i64 1)))⟩,
      ⟨(some 39), none, .op (.move (.tmp 0))⟩,
      ⟨(some 40), none, .op (.len (.tmp 39))⟩,
      ⟨(some 41), none, .op (.bin .lss (.tmp 38) (.tmp 40))⟩])
    (.cond (.tmp 41) (.region [⟨(some 42), none, .op (.move (.tmp 0))⟩,
      ⟨(some 43), none, .op (.move (.tmp 1))⟩,
      ⟨(some 44), none, .op (.bin .add (.tmp 43) (.const (.int .i64 1)))⟩,
      ⟨(some 45), none, .op (.idxA 2 (.tmp 42) (.tmp 44))⟩,
      ⟨(some 46), none, .op (.fieldA 0 (.tmp 45))⟩,
      ⟨(some 47), none, .op (.load 1 false (.tmp 46))⟩,
      ⟨(some 8), none, .op (.move (.tmp 47))⟩]) .skip))
    (.seq (.seq (.region [⟨(some 48), none, .op (.move (.tmp 0))⟩,
      ⟨(some 49), none, .op (.move (.tmp 1))⟩,
      ⟨(some 50), none, .op (.idxA 2 (.tmp 48) (.tmp 49))⟩,
      ⟨(some 51), none, .op (.fieldA 0 (.tmp 50))⟩,
      ⟨(some 52), none, .op (.load 1 false (.tmp 51))⟩,
      ⟨(some 53), none, .op (.move (.tmp 8))⟩,
      ⟨(some 54), none, .op (.bin .geq (.tmp 52) (.tmp 53))⟩])
    (.cond (.tmp 54) (.seq (.region [⟨(some 6), none, .op (.move (.const (.bool false)))⟩])
    .ret) .skip))
    (.seq (.dregion [⟨0, ⟨(some 56), none, .op (.move (.tmp 0))⟩, []⟩,
      ⟨1, ⟨(some 57), none, .op (.move (.tmp 0))⟩, []⟩,
      ⟨2, ⟨(some 58), none, .op (.move (.tmp 1))⟩, []⟩,
      ⟨3, ⟨(some 59), none, .op (.idxA 2 (.tmp 57) (.tmp 58))⟩, []⟩,
      ⟨4, ⟨(some 60), none, .op (.fieldA 0 (.tmp 59))⟩, []⟩,
      ⟨5, ⟨(some 61), none, .op (.load 1 false (.tmp 60))⟩, []⟩,
      ⟨6, ⟨(some 62), none, .op (.move (.tmp 2))⟩, []⟩,
      ⟨7, ⟨(some 63), none, .op (.conv .u64 (.tmp 62))⟩, []⟩,
      ⟨8, ⟨(some 64), none, .op (.move (.tmp 8))⟩, []⟩,
      ⟨9, ⟨(some 65), none, .op (.move (.tmp 0))⟩, []⟩,
      ⟨10, ⟨(some 66), none, .op (.move (.tmp 1))⟩, []⟩,
      ⟨11, ⟨(some 67), none, .op (.idxA 2 (.tmp 65) (.tmp 66))⟩, []⟩,
      ⟨12, ⟨(some 68), none, .op (.fieldA 0 (.tmp 67))⟩, []⟩,
      ⟨13, ⟨(some 69), none, .op (.load 1 false (.tmp 68))⟩, []⟩,
      ⟨14, ⟨(some 70), none, .op (.bin .sub (.tmp 64) (.tmp 69))⟩, []⟩,
      ⟨15, ⟨(some 71), none, .op (.bin .rem (.tmp 63) (.tmp 70))⟩, []⟩,
      ⟨16, ⟨(some 72), none, .op (.bin .add (.tmp 61) (.tmp 71))⟩, []⟩,
      ⟨17, ⟨(some 73), none, .call (.func 11) [(.tmp 56), (.tmp 72)]⟩, []⟩,
      ⟨18, ⟨(some 55), none, .op (.move (.tmp 73))⟩, []⟩,
      ⟨19, ⟨(some 74), none, .op (.ext (.tmp 55) 0)⟩, []⟩,
      ⟨20, ⟨(some 75), none, .op (.ext (.tmp 55) 1)⟩, []⟩,
      ⟨21, ⟨(some 9), none, .op (.move (.tmp 74))⟩, []⟩,
      ⟨22, ⟨(some 10), none, .op (.move (.tmp 75))⟩, []⟩])
    (.seq (.region [⟨(some 77), none, .op (.move (.tmp 0))⟩,
      ⟨(some 78), none, .op (.move (.tmp 8))⟩,
      ⟨(some 79), none, .op (.bin .sub (.tmp 78) (.const (.int .u64 1)))⟩,
      ⟨(some 80), none, .call (.func 11) [(.tmp 77), (.tmp 79)]⟩,
      ⟨(some 76), none, .op (.move (.tmp 80))⟩,
      ⟨(some 81), none, .op (.ext (.tmp 76) 0)⟩,
      ⟨(some 82), none, .op (.ext (.tmp 76) 1)⟩,
      ⟨(some 11), none, .op (.move (.tmp 81))⟩,
      ⟨(some 12), none, .op (.move (.tmp 82))⟩])
    (.seq (.region [⟨(some 83), none, .op (.move (.tmp 7))⟩,
      ⟨(some 84), none, .op (.move (.tmp 83))⟩,
      ⟨(some 85), (some (84, true)), .op (.move (.tmp 10))⟩,
      ⟨(some 86), (some (84, true)), .op (.bin .eql (.tmp 85) (.const (.int .i64 0)))⟩,
      ⟨(some 87), none, .op (.pick (.tmp 84) (.tmp 86) (.const (.bool false)))⟩,
      ⟨(some 88), none, .op (.move (.tmp 87))⟩,
      ⟨(some 89), (some (88, true)), .op (.move (.tmp 9))⟩,
      ⟨(some 90), (some (88, true)), .op (.move (.tmp 0))⟩,
      ⟨(some 91), (some (88, true)), .op (.move (.tmp 1))⟩,
      ⟨(some 92), (some (88, true)), .op (.idxA 2 (.tmp 90) (.tmp 91))⟩,
      ⟨(some 93), (some (88, true)), .op (.fieldA 1 (.tmp 92))⟩,
      ⟨(some 94), (some (88, true)), .op (.load 1 false (.tmp 93))⟩,
      ⟨(some 95), (some (88, true)), .op (.bin .eql (.tmp 89) (.tmp 94))⟩,
      ⟨(some 96), none, .op (.pick (.tmp 88) (.tmp 95) (.const (.bool false)))⟩,
      ⟨(some 97), none, .op (.move (.tmp 96))⟩,
      ⟨(some 98), (some (97, true)), .op (.move (.tmp 12))⟩,
      ⟨(some 99), (some (97, true)), .op (.bin .eql (.tmp 98) (.const (.int .i64 0)))⟩,
      ⟨(some 100), none, .op (.pick (.tmp 97) (.tmp 99) (.const (.bool false)))⟩,
      ⟨(some 101), none, .op (.move (.tmp 100))⟩,
      ⟨(some 102), (some (101, true)), .op (.move (.tmp 11))⟩,
      ⟨(some 103), (some (101, true)), .op (.move (.tmp 0))⟩,
      ⟨(some 104), (some (101, true)), .op (.move (.tmp 1))⟩,
      ⟨(some 105), (some (101, true)), .op (.idxA 2 (.tmp 103) (.tmp 104))⟩,
      ⟨(some 106), (some (101, true)), .op (.fieldA 1 (.tmp 105))⟩,
      ⟨(some 107), (some (101, true)), .op (.load 1 false (.tmp 106))⟩,
      ⟨(some 108), (some (101, true)), .op (.bin .eql (.tmp 102) (.tmp 107))⟩,
      ⟨(some 109), none, .op (.pick (.tmp 101) (.tmp 108) (.const (.bool false)))⟩,
      ⟨(some 6), none, .op (.move (.tmp 109))⟩])
    .ret)))))))))
def R8 : List RV := [.tmp 6]
theorem is8 : Is Try.prog (fun _ _ => false) 8 110 A8 R8 := ⟨Try.f8, Try.func8, rfl, by kernel_rfl, by kernel_rfl, Try.call8⟩
def A9l0 : ACode :=
  (.seq (.region [⟨(some 133), none, .op (.bin .lss (.tmp 132) (.tmp 131))⟩])
    (.seq (.cond (.tmp 133) .skip (.exit 0))
    (.seq (.block 1 (.seq (.region [⟨(some 134), none, .op (.idxA 1 (.tmp 130) (.tmp 132))⟩,
      ⟨(some 135), none, .op (.load 1 false (.tmp 134))⟩,
      ⟨(some 25), none, .op (.move (.tmp 135))⟩])
    (.seq (.region [⟨(some 137), none, .op (.move (.tmp 25))⟩,
      ⟨(some 138), none, .call (.func 22) [(.tmp 137)]⟩,
      ⟨(some 136), none, .op (.move (.tmp 138))⟩,
      ⟨(some 139), none, .op (.ext (.tmp 136) 0)⟩,
      ⟨(some 140), none, .op (.ext (.tmp 136) 1)⟩,
      ⟨(some 26), none, .op (.move (.tmp 139))⟩,
      ⟨(some 27), none, .op (.move (.tmp 140))⟩])
    (.region [⟨(some 141), none, .op (.move (.tmp 23))⟩,
      ⟨(some 142), none, .op (.move (.tmp 141))⟩,
      ⟨(some 143), (some (142, true)), .op (.move (.tmp 27))⟩,
      ⟨(some 144), (some (142, true)), .op (.bin .eql (.tmp 143) (.const (.int .i64 12)))⟩,
      ⟨(some 145), none, .op (.pick (.tmp 142) (.tmp 144) (.const (.bool false)))⟩,
      ⟨(some 146), none, .op (.move (.tmp 145))⟩,
      ⟨(some 147), (some (146, true)), .op (.move (.tmp 26))⟩,
      ⟨(some 148), (some (146, true)), .op (.len (.tmp 147))⟩,
      ⟨(some 149), (some (146, true)), .op (.bin .eql (.tmp 148) (.const (.int .i64 0)))⟩,
      ⟨(some 150), none, .op (.pick (.tmp 146) (.tmp 149) (.const (.bool false)))⟩,
      ⟨(some 23), none, .op (.move (.tmp 150))⟩]))))
    (.region [⟨(some 151), none, .op (.bin .add (.tmp 132) (.const (.int .i64 1)))⟩,
      ⟨(some 132), none, .op (.move (.tmp 151))⟩]))))
def A9 : ACode :=
  (.seq (.region [⟨(some 0), none, .op (.move (.const (.bool false)))⟩])
    (.seq (.region [⟨(some 30), none, .call (.func 20) [(.const (.slice none 0 0))]⟩,
      ⟨(some 29), none, .op (.move (.tmp 30))⟩,
      ⟨(some 31), none, .op (.ext (.tmp 29) 0)⟩,
      ⟨(some 32), none, .op (.ext (.tmp 29) 1)⟩,
      ⟨(some 1), none, .op (.move (.tmp 31))⟩,
      ⟨(some 2), none, .op (.move (.tmp 32))⟩])
    (.seq (.region [⟨(some 34), none, .call (.func 11) [(.const (.slice none 0 0)), (.const (.int .u64 0))]⟩,
      ⟨(some 33), none, .op (.move (.tmp 34))⟩,
      ⟨(some 35), none, .op (.ext (.tmp 33) 0)⟩,
      ⟨(some 36), none, .op (.ext (.tmp 33) 1)⟩,
      ⟨(some 3), none, .op (.move (.tmp 35))⟩,
      ⟨(some 4), none, .op (.move (.tmp 36))⟩])
    (.seq (.region [⟨(some 38), none, .op (.build [(.int .u64 0), (.int .i64 0)] [(0, 1, (.const (.int .u64 4))), (1, 1, (.const (.int .i64 1)))])⟩,
      ⟨(some 39), none, .op (.buildF [(.int .u64 0), (.int .i64 0)] 1 [(0, (.tmp 38))])⟩,
      ⟨(some 40), none, .call (.func 11) [(.tmp 39), (.const (.int .u64 3))]⟩,
      ⟨(some 37), none, .op (.move (.tmp 40))⟩,
      ⟨(some 41), none, .op (.ext (.tmp 37) 0)⟩,
      ⟨(some 42), none, .op (.ext (.tmp 37) 1)⟩,
      ⟨(some 5), none, .op (.move (.tmp 41))⟩,
      ⟨(some 6), none, .op (.move (.tmp 42))⟩])
    (.seq (.region [⟨(some 44), none, .call (.func 11) [(.const (.slice none 0 0)), (.const (.int .u64 4294967296))]⟩,
      ⟨(some 43), none, .op (.move (.tmp 44))⟩,
      ⟨(some 45), none, .op (.ext (.tmp 43) 0)⟩,
      ⟨(some 46), none, .op (.ext (.tmp 43) 1)⟩,
      ⟨(some 7), none, .op (.move (.tmp 45))⟩,
      ⟨(some 8), none, .op (.move (.tmp 46))⟩])
    (.seq (.region [⟨(some 47), none, .op (.build [(.int .u64 0), (.int .i64 0)] [(0, 1, (.const (.int .u64 4294967295))), (1, 1, (.const (.int .i64 1048576)))])⟩,
      ⟨(some 48), none, .op (.buildF [(.int .u64 0), (.int .i64 0)] 1 [(0, (.tmp 47))])⟩,
      ⟨(some 9), none, .op (.move (.tmp 48))⟩])
    (.seq (.region [⟨(some 50), none, .op (.move (.tmp 9))⟩,
      ⟨(some 51), none, .call (.func 20) [(.tmp 50)]⟩,
      ⟨(some 49), none, .op (.move (.tmp 51))⟩,
      ⟨(some 52), none, .op (.ext (.tmp 49) 0)⟩,
      ⟨(some 53), none, .op (.ext (.tmp 49) 1)⟩,
      ⟨(some 10), none, .op (.move (.tmp 52))⟩,
      ⟨(some 11), none, .op (.move (.tmp 53))⟩])
    (.seq (.region [⟨(some 55), none, .op (.buildF [(.int .u8 0)] 11 [(0, (.const (.int .u8 1))), (1, (.const (.int .u8 255))), (2, (.const (.int .u8 255))), (3, (.const (.int .u8 255))), (4, (.const (.int .u8 255))), (5, (.const (.int .u8 15))), (6, (.const (.int .u8 128))), (7, (.const (.int .u8 128))), (8, (.const (.int .u8 128))), (9, (.const (.int .u8 1))), (10, (.const (.int .u8 0)))])⟩,
      ⟨(some 56), none, .call (.func 22) [(.tmp 55)]⟩,
      ⟨(some 54), none, .op (.move (.tmp 56))⟩,
      ⟨(some 57), none, .op (.ext (.tmp 54) 0)⟩,
      ⟨(some 58), none, .op (.ext (.tmp 54) 1)⟩,
      ⟨(some 12), none, .op (.move (.tmp 57))⟩,
      ⟨(some 13), none, .op (.move (.tmp 58))⟩])
    (.seq (.region [⟨(some 60), none, .op (.move (.tmp 9))⟩,
      ⟨(some 61), none, .call (.func 15) [(.tmp 60), (.const (.int .u64 1))]⟩,
      ⟨(some 59), none, .op (.move (.tmp 61))⟩,
      ⟨(some 62), none, .op (.ext (.tmp 59) 0)⟩,
      ⟨(some 63), none, .op (.ext (.tmp 59) 1)⟩,
      ⟨(some 14), none, .op (.move (.tmp 62))⟩,
      ⟨(some 15), none, .op (.move (.tmp 63))⟩])
    (.seq (.region [⟨(some 65), none, .call (.func 15) [(.const (.slice none 0 0)), (.const (.int .u64 9223372036854775808))]⟩,
      ⟨(some 64), none, .op (.move (.tmp 65))⟩,
      ⟨(some 66), none, .op (.ext (.tmp 64) 0)⟩,
      ⟨(some 67), none, .op (.ext (.tmp 64) 1)⟩,
      ⟨(some 16), none, .op (.move (.tmp 66))⟩,
      ⟨(some 17), none, .op (.move (.tmp 67))⟩])
    (.seq (.region [⟨(some 69), none, .op (.move (.tmp 9))⟩,
      ⟨(some 70), none, .op (.move (.tmp 9))⟩,
      ⟨(some 71), none, .call (.func 17) [(.tmp 69), (.tmp 70)]⟩,
      ⟨(some 68), none, .op (.move (.tmp 71))⟩,
      ⟨(some 72), none, .op (.ext (.tmp 68) 0)⟩,
      ⟨(some 73), none, .op (.ext (.tmp 68) 1)⟩,
      ⟨(some 18), none, .op (.move (.tmp 72))⟩,
      ⟨(some 19), none, .op (.move (.tmp 73))⟩])
    (.seq (.region [⟨(some 75), none, .op (.build [(.int .u64 0), (.int .i64 0)] [(0, 1, (.const (.int .u64 1))), (1, 1, (.const (.int .i64 5)))])⟩,
      ⟨(some 76), none, .op (.buildF [(.int .u64 0), (.int .i64 0)] 1 [(0, (.tmp 75))])⟩,
      ⟨(some 77), none, .op (.build [(.int .u64 0), (.int .i64 0)] [(0, 1, (.const (.int .u64 2))), (1, 1, (.const (.int .i64 5)))])⟩,
      ⟨(some 78), none, .op (.build [(.int .u64 0), (.int .i64 0)] [(0, 1, (.const (.int .u64 3))), (1, 1, (.const (.int .i64 6)))])⟩,
      ⟨(some 79), none, .op (.buildF [(.int .u64 0), (.int .i64 0)] 2 [(0, (.tmp 77)), (1, (.tmp 78))])⟩,
      ⟨(some 80), none, .call (.func 17) [(.tmp 76), (.tmp 79)]⟩,
      ⟨(some 74), none, .op (.move (.tmp 80))⟩,
      ⟨(some 81), none, .op (.ext (.tmp 74) 0)⟩,
      ⟨(some 82), none, .op (.ext (.tmp 74) 1)⟩,
      ⟨(some 20), none, .op (.move (.tmp 81))⟩,
      ⟨(some 21), none, .op (.move (.tmp 82))⟩])
    (.seq (.region [⟨(some 83), none, .op (.build [(.int .u64 0), (.int .i64 0)] [(0, 1, (.const (.int .u64 4294967296))), (1, 1, (.const (.int .i64 1)))])⟩,
      ⟨(some 84), none, .op (.buildF [(.int .u64 0), (.int .i64 0)] 1 [(0, (.tmp 83))])⟩,
      ⟨(some 85), none, .call (.func 13) [(.tmp 84)]⟩,
      ⟨(some 86), none, .op (.bin .eql (.tmp 85) (.const (.int .i64 8)))⟩,
      ⟨(some 87), none, .op (.move (.tmp 86))⟩,
      ⟨(some 88), (some (87, true)), .op (.build [(.int .u64 0), (.int .i64 0)] [(1, 1, (.const (.int .i64 0)))])⟩,
      ⟨(some 89), (some (87, true)), .op (.buildF [(.int .u64 0), (.int .i64 0)] 1 [(0, (.tmp 88))])⟩,
      ⟨(some 90), (some (87, true)), .call (.func 13) [(.tmp 89)]⟩,
      ⟨(some 91), (some (87, true)), .op (.bin .eql (.tmp 90) (.const (.int .i64 8)))⟩,
      ⟨(some 92), none, .op (.pick (.tmp 87) (.tmp 91) (.const (.bool false)))⟩,
      ⟨(some 93), none, .op (.move (.tmp 92))⟩,
      ⟨(some 94), (some (93, true)), .op (.build [(.int .u64 0), (.int .i64 0)] [(1, 1, (.const (.int .i64 1048577)))])⟩,
      ⟨(some 95), (some (93, true)), .op (.buildF [(.int .u64 0), (.int .i64 0)] 1 [(0, (.tmp 94))])⟩,
      ⟨(some 96), (some (93, true)), .call (.func 13) [(.tmp 95)]⟩,
      ⟨(some 97), (some (93, true)), .op (.bin .eql (.tmp 96) (.const (.int .i64 8)))⟩,
      ⟨(some 98), none, .op (.pick (.tmp 93) (.tmp 97) (.const (.bool false)))⟩,
      ⟨(some 99), none, .op (.move (.tmp 98))⟩,
      ⟨(some 100), (some (99, true)), .op (.build [(.int .u64 0), (.int .i64 0)] [(0, 1, (.const (.int .u64 1))), (1, 1, (.const (.int .i64 1)))])⟩,
      ⟨(some 101), (some (99, true)), .op (.build [(.int .u64 0), (.int .i64 0)] [(0, 1, (.const (.int .u64 1))), (1, 1, (.const (.int .i64 2)))])⟩,
      ⟨(some 102), (some (99, true)), .op (.buildF [(.int .u64 0), (.int .i64 0)] 2 [(0, (.tmp 100)), (1, (.tmp 101))])⟩,
      ⟨(some 103), (some (99, true)), .call (.func 13) [(.tmp 102)]⟩,
      ⟨(some 104), (some (99, true)), .op (.bin .eql (.tmp 103) (.const (.int .i64 8)))⟩,
      ⟨(some 105), none, .op (.pick (.tmp 99) (.tmp 104) (.const (.bool false)))⟩,
      ⟨(some 106), none, .op (.move (.tmp 105))⟩,
      ⟨(some 107), (some (106, true)), .op (.build [(.int .u64 0), (.int .i64 0)] [(0, 1, (.const (.int .u64 1))), (1, 1, (.const (.int .i64 1)))])⟩,
      ⟨(some 108), (some (106, true)), .op (.build [(.int .u64 0), (.int .i64 0)] [(0, 1, (.const (.int .u64 2))), (1, 1, (.const (.int .i64 1)))])⟩,
      ⟨(some 109), (some (106, true)), .op (.buildF [(.int .u64 0), (.int .i64 0)] 2 [(0, (.tmp 107)), (1, (.tmp 108))])⟩,
      ⟨(some 110), (some (106, true)), .call (.func 13) [(.tmp 109)]⟩,
      ⟨(some 111), (some (106, true)), .op (.bin .eql (.tmp 110) (.const (.int .i64 8)))⟩,
      ⟨(some 112), none, .op (.pick (.tmp 106) (.tmp 111) (.const (.bool false)))⟩,
      ⟨(some 113), none, .op (.move (.tmp 112))⟩,
      ⟨(some 114), (some (113, true)), .op (.mksl 40 [(.int .u64 0), (.int .i64 0)] 16 (.const (.int .i64 1001)) (.const (.int .i64 1001)))⟩,
      ⟨(some 115), (some (113, true)), .call (.func 13) [(.tmp 114)]⟩,
      ⟨(some 116), (some (113, true)), .op (.bin .eql (.tmp 115) (.const (.int .i64 4)))⟩,
      ⟨(some 117), none, .op (.pick (.tmp 113) (.tmp 116) (.const (.bool false)))⟩,
      ⟨(some 22), none, .op (.move (.tmp 117))⟩])
    (.seq (.region [⟨(some 23), none, .op (.move (.const (.bool true)))⟩])
    (.seq (.seq (.region [⟨(some 118), none, .op (.buildF [(.int .u8 0)] 0 [])⟩,
      ⟨(some 119), none, .op (.buildF [(.int .u8 0)] 1 [(0, (.const (.int .u8 89)))])⟩,
      ⟨(some 120), none, .op (.buildF [(.int .u8 0)] 2 [(0, (.const (.int .u8 0))), (1, (.const (.int .u8 0)))])⟩,
      ⟨(some 121), none, .op (.buildF [(.int .u8 0)] 4 [(0, (.const (.int .u8 1))), (1, (.const (.int .u8 4))), (2, (.const (.int .u8 2))), (3, (.const (.int .u8 0)))])⟩,
      ⟨(some 122), none, .op (.buildF [(.int .u8 0)] 5 [(0, (.const (.int .u8 1))), (1, (.const (.int .u8 128))), (2, (.const (.int .u8 0))), (3, (.const (.int .u8 2))), (4, (.const (.int .u8 0)))])⟩,
      ⟨(some 123), none, .op (.buildF [(.int .u8 0)] 2 [(0, (.const (.int .u8 2))), (1, (.const (.int .u8 0)))])⟩,
      ⟨(some 124), none, .op (.buildF [(.int .u8 0)] 2 [(0, (.const (.int .u8 31))), (1, (.const (.int .u8 0)))])⟩,
      ⟨(some 125), none, .op (.buildF [(.int .u8 0)] 2 [(0, (.const (.int .u8 1))), (1, (.const (.int .u8 0)))])⟩,
      ⟨(some 126), none, .op (.buildF [(.int .u8 0)] 4 [(0, (.const (.int .u8 1))), (1, (.const (.int .u8 0))), (2, (.const (.int .u8 0))), (3, (.const (.int .u8 0)))])⟩,
      ⟨(some 127), none, .op (.buildF [(.int .u8 0)] 3 [(0, (.const (.int .u8 89))), (1, (.const (.int .u8 88))), (2, (.const (.int .u8 0)))])⟩,
      ⟨(some 128), none, .op (.buildF [(.int .u8 0)] 2 [(0, (.const (.int .u8 32))), (1, (.const (.int .u8 0)))])⟩,
      ⟨(some 129), none, .op (.buildF [(.int .u8 0)] 8 [(0, (.const (.int .u8 1))), (1, (.const (.int .u8 255))), (2, (.const (.int .u8 255))), (3, (.const (.int .u8 255))), (4, (.const (.int .u8 255))), (5, (.const (.int .u8 31))), (6, (.const (.int .u8 2))), (7, (.const (.int .u8 0)))])⟩,
      ⟨(some 130), none, .op (.buildF [.nilS] 12 [(0, (.tmp 118)), (1, (.tmp 119)), (2, (.tmp 120)), (3, (.tmp 121)), (4, (.tmp 122)), (5, (.tmp 123)), (6, (.tmp 124)), (7, (.tmp 125)), (8, (.tmp 126)), (9, (.tmp 127)), (10, (.tmp 128)), (11, (.tmp 129))])⟩,
      ⟨(some 131), none, .op (.len (.tmp 130))⟩,
      ⟨(some 132), none, .op (.move (.const (.int .i64 0)))⟩])
    (.block 0 (.loop A9l0)))
    (.seq (.region [⟨(some 152), none, .op (.buildF [(.int .u8 0)] 11 [(0, (.const (.int .u8 1))), (1, (.const (.int .u8 255))), (2, (.const (.int .u8 255))), (3, (.const (.int .u8 255))), (4, (.const (.int .u8 255))), (5, (.const (.int .u8 15))), (6, (.const (.int .u8 128))), (7, (.const (.int .u8 128))), (8, (.const (.int .u8 128))), (9, (.const (.int .u8 1))), (10, (.const (.int .u8 0)))])⟩,
      ⟨(some 28), none, .op (.move (.tmp 152))⟩])
    (.seq (.region [⟨(some 153), none, .call (.func 25) []⟩,
      ⟨(some 154), none, .op (.move (.tmp 153))⟩,
      ⟨(some 155), (some (154, true)), .op (.move (.tmp 2))⟩,
      ⟨(some 156), (some (154, true)), .op (.bin .eql (.tmp 155) (.const (.int .i64 0)))⟩,
      ⟨(some 157), none, .op (.pick (.tmp 154) (.tmp 156) (.const (.bool false)))⟩,
      ⟨(some 158), none, .op (.move (.tmp 157))⟩,
      ⟨(some 159), (some (158, true)), .op (.move (.tmp 1))⟩,
      ⟨(some 160), (some (158, true)), .op (.buildF [(.int .u8 0)] 1 [(0, (.const (.int .u8 0)))])⟩,
      ⟨(some 161), (some (158, true)), .call (.func 24) [(.tmp 159), (.tmp 160)]⟩,
      ⟨(some 162), none, .op (.pick (.tmp 158) (.tmp 161) (.const (.bool false)))⟩,
      ⟨(some 163), none, .op (.move (.tmp 162))⟩,
      ⟨(some 164), (some (163, true)), .op (.move (.tmp 4))⟩,
      ⟨(some 165), (some (163, true)), .op (.bin .eql (.tmp 164) (.const (.int .i64 6)))⟩,
      ⟨(some 166), none, .op (.pick (.tmp 163) (.tmp 165) (.const (.bool false)))⟩,
      ⟨(some 167), none, .op (.move (.tmp 166))⟩,
      ⟨(some 168), (some (167, true)), .op (.move (.tmp 6))⟩,
      ⟨(some 169), (some (167, true)), .op (.bin .eql (.tmp 168) (.const (.int .i64 6)))⟩,
      ⟨(some 170), none, .op (.pick (.tmp 167) (.tmp 169) (.const (.bool false)))⟩,
      ⟨(some 171), none, .op (.move (.tmp 170))⟩,
      ⟨(some 172), (some (171, true)), .op (.move (.tmp 8))⟩,
      ⟨(some 173), (some (171, true)), .op (.bin .eql (.tmp 172) (.const (.int .i64 2)))⟩,
      ⟨(some 174), none, .op (.pick (.tmp 171) (.tmp 173) (.const (.bool false)))⟩,
      ⟨(some 175), none, .op (.move (.tmp 174))⟩,
      ⟨(some 176), (some (175, true)), .op (.move (.tmp 11))⟩,
      ⟨(some 177), (some (175, true)), .op (.bin .eql (.tmp 176) (.const (.int .i64 0)))⟩,
      ⟨(some 178), none, .op (.pick (.tmp 175) (.tmp 177) (.const (.bool false)))⟩,
      ⟨(some 179), none, .op (.move (.tmp 178))⟩,
      ⟨(some 180), (some (179, true)), .op (.move (.tmp 10))⟩,
      ⟨(some 181), (some (179, true)), .op (.move (.tmp 28))⟩,
      ⟨(some 182), (some (179, true)), .call (.func 24) [(.tmp 180), (.tmp 181)]⟩,
      ⟨(some 183), none, .op (.pick (.tmp 179) (.tmp 182) (.const (.bool false)))⟩,
      ⟨(some 184), none, .op (.move (.tmp 183))⟩,
      ⟨(some 185), (some (184, true)), .op (.move (.tmp 13))⟩,
      ⟨(some 186), (some (184, true)), .op (.bin .eql (.tmp 185) (.const (.int .i64 0)))⟩,
      ⟨(some 187), none, .op (.pick (.tmp 184) (.tmp 186) (.const (.bool false)))⟩,
      ⟨(some 188), none, .op (.move (.tmp 187))⟩,
      ⟨(some 189), (some (188, true)), .op (.move (.tmp 12))⟩,
      ⟨(some 190), (some (188, true)), .op (.move (.tmp 9))⟩,
      ⟨(some 191), (some (188, true)), .call (.func 19) [(.tmp 189), (.tmp 190)]⟩,
      ⟨(some 192), none, .op (.pick (.tmp 188) (.tmp 191) (.const (.bool false)))⟩,
      ⟨(some 193), none, .op (.move (.tmp 192))⟩,
      ⟨(some 194), (some (193, true)), .op (.move (.tmp 15))⟩,
      ⟨(some 195), (some (193, true)), .op (.bin .eql (.tmp 194) (.const (.int .i64 2)))⟩,
      ⟨(some 196), none, .op (.pick (.tmp 193) (.tmp 195) (.const (.bool false)))⟩,
      ⟨(some 197), none, .op (.move (.tmp 196))⟩,
      ⟨(some 198), (some (197, true)), .op (.move (.tmp 17))⟩,
      ⟨(some 199), (some (197, true)), .op (.bin .eql (.tmp 198) (.const (.int .i64 0)))⟩,
      ⟨(some 200), none, .op (.pick (.tmp 197) (.tmp 199) (.const (.bool false)))⟩,
      ⟨(some 201), none, .op (.move (.tmp 200))⟩,
      ⟨(some 202), (some (201, true)), .op (.move (.tmp 19))⟩,
      ⟨(some 203), (some (201, true)), .op (.bin .eql (.tmp 202) (.const (.int .i64 2)))⟩,
      ⟨(some 204), none, .op (.pick (.tmp 201) (.tmp 203) (.const (.bool false)))⟩,
      ⟨(some 205), none, .op (.move (.tmp 204))⟩,
      ⟨(some 206), (some (205, true)), .op (.move (.tmp 21))⟩,
      ⟨(some 207), (some (205, true)), .op (.bin .eql (.tmp 206) (.const (.int .i64 0)))⟩,
      ⟨(some 208), none, .op (.pick (.tmp 205) (.tmp 207) (.const (.bool false)))⟩,
      ⟨(some 209), none, .op (.move (.tmp 208))⟩,
      ⟨(some 210), (some (209, true)), .op (.move (.tmp 20))⟩,
      ⟨(some 211), (some (209, true)), .op (.build [(.int .u64 0), (.int .i64 0)] [(0, 1, (.const (.int .u64 1))), (1, 1, (.const (.int .i64 5)))])⟩,
      ⟨(some 212), (some (209, true)), .op (.build [(.int .u64 0), (.int .i64 0)] [(0, 1, (.const (.int .u64 3))), (1, 1, (.const (.int .i64 6)))])⟩,
      ⟨(some 213), (some (209, true)), .op (.buildF [(.int .u64 0), (.int .i64 0)] 2 [(0, (.tmp 211)), (1, (.tmp 212))])⟩,
      ⟨(some 214), (some (209, true)), .call (.func 19) [(.tmp 210), (.tmp 213)]⟩,
      ⟨(some 215), none, .op (.pick (.tmp 209) (.tmp 214) (.const (.bool false)))⟩,
      ⟨(some 216), none, .op (.move (.tmp 215))⟩,
      ⟨(some 217), (some (216, true)), .op (.move (.tmp 22))⟩,
      ⟨(some 218), none, .op (.pick (.tmp 216) (.tmp 217) (.const (.bool false)))⟩,
      ⟨(some 219), none, .op (.move (.tmp 218))⟩,
      ⟨(some 220), (some (219, true)), .op (.move (.tmp 23))⟩,
      ⟨(some 221), none, .op (.pick (.tmp 219) (.tmp 220) (.const (.bool false)))⟩,
      ⟨(some 222), none, .op (.move (.tmp 221))⟩,
      ⟨(some 223), none, .op (.pick (.tmp 222) (.const (.bool true)) (.const (.bool false)))⟩,
      ⟨(some 0), none, .op (.move (.tmp 223))⟩])
    .ret)))))))))))))))))
def R9 : List RV := [.tmp 0]
theorem is9 : Is Try.prog (fun _ _ => false) 9 224 A9 R9 := ⟨Try.f9, Try.func9, rfl, by kernel_rfl, by kernel_rfl, Try.call9⟩
def A10 : ACode :=
  (.seq (.region [⟨(some 8), none, .op (.move (.const (.bool false)))⟩])
    (.seq (.region [⟨(some 23), none, .call (.func 25) []⟩,
      ⟨(some 9), none, .op (.move (.tmp 23))⟩])
    (.seq (.seq (.region [⟨(some 24), none, .op (.move (.tmp 0))⟩,
      ⟨(some 25), none, .op (.len (.tmp 24))⟩,
      ⟨(some 26), none, .op (.bin .gtr (.tmp 25) (.const (.int .i64 2000)))⟩,
      ⟨(some 27), none, .op (.move (.tmp 26))⟩,
      ⟨(some 28), (some (27, false)), .op (.move (.tmp 1))⟩,
      ⟨(some 29), (some (27, false)), .op (.len (.tmp 28))⟩,
      ⟨(some 30), (some (27, false)), .op (.bin .gtr (.tmp 29) (.const (.int .i64 2000)))⟩,
      ⟨(some 31), none, .op (.pick (.tmp 27) (.const (.bool true)) (.tmp 30))⟩,
      ⟨(some 32), none, .op (.move (.tmp 31))⟩,
      ⟨(some 33), (some (32, false)), .op (.move (.tmp 3))⟩,
      ⟨(some 34), (some (32, false)), .op (.bin .geq (.tmp 33) (.const (.int .u64 4294967296)))⟩,
      ⟨(some 35), none, .op (.pick (.tmp 32) (.const (.bool true)) (.tmp 34))⟩,
      ⟨(some 36), none, .op (.move (.tmp 35))⟩,
      ⟨(some 37), (some (36, false)), .op (.move (.tmp 9))⟩,
      ⟨(some 38), (some (36, false)), .op (.un .not (.tmp 37))⟩,
      ⟨(some 39), none, .op (.pick (.tmp 36) (.const (.bool true)) (.tmp 38))⟩])
    (.cond (.tmp 39) (.seq (.region [⟨(some 40), none, .op (.move (.tmp 9))⟩,
      ⟨(some 8), none, .op (.move (.tmp 40))⟩])
    .ret) .skip))
    (.seq (.region [⟨(some 42), none, .op (.move (.tmp 0))⟩,
      ⟨(some 43), none, .op (.move (.tmp 1))⟩,
      ⟨(some 44), none, .call (.func 17) [(.tmp 42), (.tmp 43)]⟩,
      ⟨(some 41), none, .op (.move (.tmp 44))⟩,
      ⟨(some 45), none, .op (.ext (.tmp 41) 0)⟩,
      ⟨(some 46), none, .op (.ext (.tmp 41) 1)⟩,
      ⟨(some 10), none, .op (.move (.tmp 45))⟩,
      ⟨(some 11), none, .op (.move (.tmp 46))⟩])
    (.seq (.seq (.region [⟨(some 47), none, .op (.move (.tmp 11))⟩,
      ⟨(some 48), none, .op (.bin .eql (.tmp 47) (.const (.int .i64 0)))⟩])
    (.cond (.tmp 48) (.seq (.region [⟨(some 50), none, .op (.move (.tmp 10))⟩,
      ⟨(some 51), none, .op (.move (.tmp 3))⟩,
      ⟨(some 52), none, .call (.func 11) [(.tmp 50), (.tmp 51)]⟩,
      ⟨(some 49), none, .op (.move (.tmp 52))⟩,
      ⟨(some 53), none, .op (.ext (.tmp 49) 0)⟩,
      ⟨(some 54), none, .op (.ext (.tmp 49) 1)⟩,
      ⟨(some 12), none, .op (.move (.tmp 53))⟩,
      ⟨(some 13), none, .op (.move (.tmp 54))⟩])
    (.seq (.region [⟨(some 55), none, .op (.move (.tmp 0))⟩,
      ⟨(some 14), none, .op (.move (.tmp 55))⟩])
    (.seq (.seq (.region [⟨(some 56), none, .op (.move (.tmp 1))⟩,
      ⟨(some 57), none, .op (.len (.tmp 56))⟩,
      ⟨(some 58), none, .op (.bin .gtr (.tmp 57) (.const (.int .i64 0)))⟩,
      ⟨(some 59), none, .op (.move (.tmp 58))⟩,
      ⟨(some 60), (some (59, true)), .op (.move (.tmp 3))⟩,
      ⟨(some 61), (some (59, true)), .op (.move (.tmp 1))⟩,
      ⟨(some 62), (some (59, true)), .op (.idxA 2 (.tmp 61) (.const (.int .i64 0)))⟩,
      ⟨(some 63), (some (59, true)), .op (.fieldA 0 (.tmp 62))⟩,
      ⟨(some 64), (some (59, true)), .op (.load 1 false (.tmp 63))⟩,
      ⟨(some 65), (some (59, true)), .op (.bin .geq (.tmp 60) (.tmp 64))⟩,
      ⟨(some 66), none, .op (.pick (.tmp 59) (.tmp 65) (.const (.bool false)))⟩])
    (.cond (.tmp 66) (.region [⟨(some 67), none, .op (.move (.tmp 1))⟩,
      ⟨(some 14), none, .op (.move (.tmp 67))⟩]) .skip))
    (.seq (.region [⟨(some 69), none, .op (.move (.tmp 14))⟩,
      ⟨(some 70), none, .op (.move (.tmp 3))⟩,
      ⟨(some 71), none, .call (.func 11) [(.tmp 69), (.tmp 70)]⟩,
      ⟨(some 68), none, .op (.move (.tmp 71))⟩,
      ⟨(some 72), none, .op (.ext (.tmp 68) 0)⟩,
      ⟨(some 73), none, .op (.ext (.tmp 68) 1)⟩,
      ⟨(some 15), none, .op (.move (.tmp 72))⟩,
      ⟨(some 16), none, .op (.move (.tmp 73))⟩])
    (.seq (.region [⟨(some 74), none, .op (.move (.tmp 12))⟩,
      ⟨(some 75), none, .op (.move (.tmp 15))⟩,
      ⟨(some 76), none, .op (.bin .neq (.tmp 74) (.tmp 75))⟩,
      ⟨(some 77), none, .op (.move (.tmp 76))⟩,
      ⟨(some 78), (some (77, false)), .op (.move (.tmp 13))⟩,
      ⟨(some 79), (some (77, false)), .op (.move (.tmp 16))⟩,
      ⟨(some 80), (some (77, false)), .op (.bin .neq (.tmp 78) (.tmp 79))⟩,
      ⟨(some 81), none, .op (.pick (.tmp 77) (.const (.bool true)) (.tmp 80))⟩,
      ⟨(some 82), none, .op (.move (.tmp 81))⟩,
      ⟨(some 83), (some (82, false)), .op (.move (.tmp 10))⟩,
      ⟨(some 84), (some (82, false)), .call (.func 13) [(.tmp 83)]⟩,
      ⟨(some 85), (some (82, false)), .op (.bin .neq (.tmp 84) (.const (.int .i64 0)))⟩,
      ⟨(some 86), none, .op (.pick (.tmp 82) (.const (.bool true)) (.tmp 85))⟩])
    (.cond (.tmp 86) (.seq (.region [⟨(some 8), none, .op (.move (.const (.bool false)))⟩])
    .ret) .skip)))))) .skip))
    (.seq (.region [⟨(some 88), none, .op (.move (.tmp 0))⟩,
      ⟨(some 89), none, .op (.move (.tmp 2))⟩,
      ⟨(some 90), none, .call (.func 15) [(.tmp 88), (.tmp 89)]⟩,
      ⟨(some 87), none, .op (.move (.tmp 90))⟩,
      ⟨(some 91), none, .op (.ext (.tmp 87) 0)⟩,
      ⟨(some 92), none, .op (.ext (.tmp 87) 1)⟩,
      ⟨(some 17), none, .op (.move (.tmp 91))⟩,
      ⟨(some 18), none, .op (.move (.tmp 92))⟩])
    (.seq (.seq (.region [⟨(some 93), none, .op (.move (.tmp 18))⟩,
      ⟨(some 94), none, .op (.bin .neq (.tmp 93) (.const (.int .i64 0)))⟩,
      ⟨(some 95), none, .op (.move (.tmp 94))⟩,
      ⟨(some 96), (some (95, false)), .op (.move (.tmp 0))⟩,
      ⟨(some 97), (some (95, false)), .op (.len (.tmp 96))⟩,
      ⟨(some 98), (some (95, false)), .op (.bin .eql (.tmp 97) (.const (.int .i64 0)))⟩,
      ⟨(some 99), none, .op (.pick (.tmp 95) (.const (.bool true)) (.tmp 98))⟩,
      ⟨(some 100), none, .op (.move (.tmp 99))⟩,
      ⟨(some 101), (some (100, false)), .op (.move (.tmp 3))⟩,
      ⟨(some 102), (some (100, false)), .op (.move (.tmp 2))⟩,
      ⟨(some 103), (some (100, false)), .op (.bin .add (.tmp 101) (.tmp 102))⟩,
      ⟨(some 104), (some (100, false)), .op (.bin .geq (.tmp 103) (.const (.int .u64 4294967296)))⟩,
      ⟨(some 105), none, .op (.pick (.tmp 100) (.const (.bool true)) (.tmp 104))⟩])
    (.cond (.tmp 105) (.seq (.region [⟨(some 106), none, .op (.move (.tmp 9))⟩,
      ⟨(some 8), none, .op (.move (.tmp 106))⟩])
    .ret) .skip))
    (.seq (.region [⟨(some 108), none, .op (.move (.tmp 0))⟩,
      ⟨(some 109), none, .op (.move (.tmp 3))⟩,
      ⟨(some 110), none, .call (.func 11) [(.tmp 108), (.tmp 109)]⟩,
      ⟨(some 107), none, .op (.move (.tmp 110))⟩,
      ⟨(some 111), none, .op (.ext (.tmp 107) 0)⟩,
      ⟨(some 112), none, .op (.ext (.tmp 107) 1)⟩,
      ⟨(some 19), none, .op (.move (.tmp 111))⟩,
      ⟨(some 20), none, .op (.move (.tmp 112))⟩])
    (.seq (.region [⟨(some 114), none, .op (.move (.tmp 17))⟩,
      ⟨(some 115), none, .op (.move (.tmp 3))⟩,
      ⟨(some 116), none, .op (.move (.tmp 2))⟩,
      ⟨(some 117), none, .op (.bin .add (.tmp 115) (.tmp 116))⟩,
      ⟨(some 118), none, .call (.func 11) [(.tmp 114), (.tmp 117)]⟩,
      ⟨(some 113), none, .op (.move (.tmp 118))⟩,
      ⟨(some 119), none, .op (.ext (.tmp 113) 0)⟩,
      ⟨(some 120), none, .op (.ext (.tmp 113) 1)⟩,
      ⟨(some 21), none, .op (.move (.tmp 119))⟩,
      ⟨(some 22), none, .op (.move (.tmp 120))⟩])
    (.seq (.region [⟨(some 121), none, .op (.move (.tmp 9))⟩,
      ⟨(some 122), none, .op (.move (.tmp 121))⟩,
      ⟨(some 123), (some (122, true)), .op (.move (.tmp 19))⟩,
      ⟨(some 124), (some (122, true)), .op (.move (.tmp 21))⟩,
      ⟨(some 125), (some (122, true)), .op (.bin .eql (.tmp 123) (.tmp 124))⟩,
      ⟨(some 126), none, .op (.pick (.tmp 122) (.tmp 125) (.const (.bool false)))⟩,
      ⟨(some 127), none, .op (.move (.tmp 126))⟩,
      ⟨(some 128), (some (127, true)), .op (.move (.tmp 20))⟩,
      ⟨(some 129), (some (127, true)), .op (.move (.tmp 22))⟩,
      ⟨(some 130), (some (127, true)), .op (.bin .eql (.tmp 128) (.tmp 129))⟩,
      ⟨(some 131), none, .op (.pick (.tmp 127) (.tmp 130) (.const (.bool false)))⟩,
      ⟨(some 8), none, .op (.move (.tmp 131))⟩])
    .ret))))))))))
def R10 : List RV := [.tmp 8]
theorem is10 : Is Try.prog (fun _ _ => false) 10 132 A10 R10 := ⟨Try.f10, Try.func10, rfl, by kernel_rfl, by kernel_rfl, Try.call10⟩
def A15l0 : ACode :=
  (.seq (.region [⟨(some 39), none, .op (.bin .lss (.tmp 38) (.tmp 37))⟩])
    (.seq (.cond (.tmp 39) .skip (.exit 0))
    (.seq (.block 1 (.seq (.region [⟨(some 40), none, .op (.move (.tmp 38))⟩,
      ⟨(some 9), none, .op (.move (.tmp 40))⟩])
    (.region [⟨(some 41), none, .op (.move (.tmp 8))⟩,
      ⟨(some 42), none, .op (.move (.tmp 9))⟩,
      ⟨(some 43), none, .op (.idxA 2 (.tmp 41) (.tmp 42))⟩,
      ⟨(some 44), none, .op (.fieldA 0 (.tmp 43))⟩,
      ⟨(some 45), none, .op (.load 1 false (.tmp 44))⟩,
      ⟨(some 46), none, .op (.move (.tmp 1))⟩,
      ⟨(some 47), none, .op (.bin .add (.tmp 45) (.tmp 46))⟩,
      ⟨(some 48), none, .op (.idxA 2 (.tmp 41) (.tmp 42))⟩,
      ⟨(some 49), none, .op (.fieldA 0 (.tmp 48))⟩,
      ⟨none, none, .op (.store 1 (.tmp 49) (.tmp 47))⟩])))
    (.region [⟨(some 50), none, .op (.bin .add (.tmp 38) (.const (.int .i64 1)))⟩,
      ⟨(some 38), none, .op (.move (.tmp 50))⟩]))))
def A15 : ACode :=
  (.seq (.region [⟨(some 4), none, .op (.move (.const (.slice none 0 0)))⟩,
      ⟨(some 5), none, .op (.move (.const (.int .i64 0)))⟩])
    (.seq (.region [⟨(some 10), none, .op (.move (.tmp 0))⟩,
      ⟨(some 11), none, .call (.func 13) [(.tmp 10)]⟩,
      ⟨(some 6), none, .op (.move (.tmp 11))⟩])
    (.seq (.seq (.region [⟨(some 12), none, .op (.move (.tmp 6))⟩,
      ⟨(some 13), none, .op (.bin .neq (.tmp 12) (.const (.int .i64 0)))⟩])
    (.cond (.tmp 13) (.seq (.region [⟨(some 14), none, .op (.move (.tmp 6))⟩,
      ⟨(some 4), none, .op (.move (.const (.slice none 0 0)))⟩,
      ⟨(some 5), none, .op (.move (.tmp 14))⟩])
    .ret) .skip))
    (.seq (.seq (.region [⟨(some 15), none, .op (.move (.tmp 0))⟩,
      ⟨(some 16), none, .op (.len (.tmp 15))⟩,
      ⟨(some 7), none, .op (.move (.tmp 16))⟩])
    (.seq (.region [⟨(some 17), none, .op (.move (.tmp 7))⟩,
      ⟨(some 18), none, .op (.bin .gtr (.tmp 17) (.const (.int .i64 0)))⟩,
      ⟨(some 19), none, .op (.move (.tmp 18))⟩,
      ⟨(some 20), (some (19, true)), .op (.move (.tmp 1))⟩,
      ⟨(some 21), (some (19, true)), .op (.bin .geq (.tmp 20) (.const (.int .u64 4294967296)))⟩,
      ⟨(some 22), (some (19, true)), .op (.move (.tmp 21))⟩,
      ⟨(some 23), (some (22, false)), .op (.move (.tmp 0))⟩,
      ⟨(some 24), (some (22, false)), .op (.move (.tmp 7))⟩,
      ⟨(some 25), (some (22, false)), .op (.bin .sub (.tmp 24) (.const (.int .i64 1)))⟩,
      ⟨(some 26), (some (22, false)), .op (.idxA 2 (.tmp 23) (.tmp 25))⟩,
      ⟨(some 27), (some (22, false)), .op (.fieldA 0 (.tmp 26))⟩,
      ⟨(some 28), (some (22, false)), .op (.load 1 false (.tmp 27))⟩,
      ⟨(some 29), (some (22, false)), .op (.move (.tmp 1))⟩,
      ⟨(some 30), (some (22, false)), .op (.bin .add (.tmp 28) (.tmp 29))⟩,
      ⟨(some 31), (some (22, false)), .op (.bin .geq (.tmp 30) (.const (.int .u64 4294967296)))⟩,
      ⟨(some 32), (some (19, true)), .op (.pick (.tmp 22) (.const (.bool true)) (.tmp 31))⟩,
      ⟨(some 33), none, .op (.pick (.tmp 19) (.tmp 32) (.const (.bool false)))⟩])
    (.cond (.tmp 33) (.seq (.region [⟨(some 4), none, .op (.move (.const (.slice none 0 0)))⟩,
      ⟨(some 5), none, .op (.move (.const (.int .i64 2)))⟩])
    .ret) .skip)))
    (.seq (.region [⟨(some 34), none, .op (.move (.tmp 0))⟩,
      ⟨(some 35), none, .call (.func 26) [(.tmp 34)]⟩,
      ⟨(some 8), none, .op (.move (.tmp 35))⟩])
    (.seq (.seq (.region [⟨(some 36), none, .op (.move (.tmp 8))⟩,
      ⟨(some 37), none, .op (.len (.tmp 36))⟩,
      ⟨(some 38), none, .op (.move (.const (.int .i64 0)))⟩])
    (.block 0 (.loop A15l0)))
    (.seq (.region [⟨(some 51), none, .op (.move (.tmp 8))⟩,
      ⟨(some 4), none, .op (.move (.tmp 51))⟩,
      ⟨(some 5), none, .op (.move (.const (.int .i64 0)))⟩])
    .ret)))))))
def R15 : List RV := [.tmp 4, .tmp 5]
theorem is15 : Is Try.prog (fun _ _ => false) 15 52 A15 R15 := ⟨Try.f15, Try.func15, rfl, by kernel_rfl, by kernel_rfl, Try.call15⟩
def A16l0 : ACode :=
  (.seq (.seq (.region [⟨(some 14), none, .op (.move (.tmp 8))⟩,
      ⟨(some 15), none, .op (.move (.tmp 0))⟩,
      ⟨(some 16), none, .op (.len (.tmp 15))⟩,
      ⟨(some 17), none, .op (.bin .lss (.tmp 14) (.tmp 16))⟩])
    (.cond (.tmp 17) .skip (.exit 0)))
    (.seq (.block 1 (.seq (.seq (.region [⟨(some 20), none, .op (.move (.tmp 1))⟩,
      ⟨(some 21), none, .op (.bin .geq (.tmp 20) (.const (.int .u64 4294967296)))⟩,
      ⟨(some 22), none, .op (.move (.tmp 21))⟩,
      ⟨(some 23), (some (22, false)), .op (.move (.tmp 0))⟩,
      ⟨(some 24), (some (22, false)), .op (.move (.tmp 8))⟩,
      ⟨(some 25), (some (22, false)), .op (.idxA 2 (.tmp 23) (.tmp 24))⟩,
      ⟨(some 26), (some (22, false)), .op (.fieldA 0 (.tmp 25))⟩,
      ⟨(some 27), (some (22, false)), .op (.load 1 false (.tmp 26))⟩,
      ⟨(some 28), (some (22, false)), .op (.move (.tmp 1))⟩,
      ⟨(some 29), (some (22, false)), .op (.bin .add (.tmp 27) (.tmp 28))⟩,
      ⟨(some 30), (some (22, false)), .op (.bin .geq (.tmp 29) (.const (.int .u64 4294967296)))⟩,
      ⟨(some 31), none, .op (.pick (.tmp 22) (.const (.bool true)) (.tmp 30))⟩])
    (.cond (.tmp 31) (.seq (.region [⟨(some 4), none, .op (.move (.const (.slice none 0 0)))⟩,
      ⟨(some 5), none, .op (.move (.const (.int .i64 2)))⟩])
    .ret) .skip))
    (.dregion [⟨0, ⟨(some 32), none, .op (.move (.tmp 7))⟩, []⟩,
      ⟨1, ⟨(some 33), none, .op (.move (.tmp 0))⟩, []⟩,
      ⟨2, ⟨(some 34), none, .op (.move (.tmp 8))⟩, []⟩,
      ⟨3, ⟨(some 35), none, .op (.idxA 2 (.tmp 33) (.tmp 34))⟩, []⟩,
      ⟨4, ⟨(some 36), none, .op (.fieldA 0 (.tmp 35))⟩, []⟩,
      ⟨5, ⟨(some 37), none, .op (.load 1 false (.tmp 36))⟩, []⟩,
      ⟨6, ⟨(some 38), none, .op (.move (.tmp 1))⟩, []⟩,
      ⟨7, ⟨(some 39), none, .op (.bin .add (.tmp 37) (.tmp 38))⟩, []⟩,
      ⟨8, ⟨(some 40), none, .op (.move (.tmp 0))⟩, []⟩,
      ⟨9, ⟨(some 41), none, .op (.move (.tmp 8))⟩, []⟩,
      ⟨10, ⟨(some 42), none, .op (.idxA 2 (.tmp 40) (.tmp 41))⟩, []⟩,
      ⟨11, ⟨(some 43), none, .op (.fieldA 1 (.tmp 42))⟩, []⟩,
      ⟨12, ⟨(some 44), none, .op (.load 1 false (.tmp 43))⟩, []⟩,
      ⟨13, ⟨(some 45), none, .op (.build [(.int .u64 0), (.int .i64 0)] [(0, 1, (.tmp 39)), (1, 1, (.tmp 44))])⟩, []⟩,
      ⟨14, ⟨(some 46), none, .op (.buildF [(.int .u64 0), (.int .i64 0)] 1 [(0, (.tmp 45))])⟩, []⟩,
      ⟨15, ⟨(some 47), none, .op (.app 40 2 16 (.tmp 32) (.tmp 46))⟩, []⟩,
      ⟨16, ⟨(some 7), none, .op (.move (.tmp 47))⟩, []⟩])))
    (.region [⟨(some 18), none, .op (.move (.tmp 8))⟩,
      ⟨(some 19), none, .op (.bin .add (.tmp 18) (.const (.int .i64 1)))⟩,
      ⟨(some 8), none, .op (.move (.tmp 19))⟩])))
def A16 : ACode :=
  (.seq (.region [⟨(some 4), none, .op (.move (.const (.slice none 0 0)))⟩,
      ⟨(some 5), none, .op (.move (.const (.int .i64 0)))⟩])
    (.seq (.region [⟨(some 9), none, .op (.move (.tmp 0))⟩,
      ⟨(some 10), none, .call (.func 14) [(.tmp 9)]⟩,
      ⟨(some 6), none, .op (.move (.tmp 10))⟩])
    (.seq (.seq (.region [⟨(some 11), none, .op (.move (.tmp 6))⟩,
      ⟨(some 12), none, .op (.bin .neq (.tmp 11) (.const (.int .i64 0)))⟩])
    (.cond (.tmp 12) (.seq (.region [⟨(some 13), none, .op (.move (.tmp 6))⟩,
      ⟨(some 4), none, .op (.move (.const (.slice none 0 0)))⟩,
      ⟨(some 5), none, .op (.move (.tmp 13))⟩])
    .ret) .skip))
    (.seq (.region [⟨(some 7), none, .op (.move (.const (.slice none 0 0)))⟩])
    (.seq (.seq (.region [⟨(some 8), none, .op (.move (.const (.int .i64 0)))⟩])
    (.block 0 (.loop A16l0)))
    (.seq (.region [⟨(some 48), none, .op (.move (.tmp 7))⟩,
      ⟨(some 4), none, .op (.move (.tmp 48))⟩,
      ⟨(some 5), none, .op (.move (.const (.int .i64 0)))⟩])
    .ret))))))
def R16 : List RV := [.tmp 4, .tmp 5]
theorem is16 : Is Try.prog (fun _ _ => false) 16 49 A16 R16 := ⟨Try.f16, Try.func16, rfl, by kernel_rfl, by kernel_rfl, Try.call16⟩
def A17 : ACode :=
  (.seq (.region [⟨(some 4), none, .op (.move (.const (.slice none 0 0)))⟩,
      ⟨(some 5), none, .op (.move (.const (.int .i64 0)))⟩])
    (.seq (.region [⟨(some 8), none, .op (.move (.tmp 0))⟩,
      ⟨(some 9), none, .call (.func 13) [(.tmp 8)]⟩,
      ⟨(some 6), none, .op (.move (.tmp 9))⟩])
    (.seq (.seq (.region [⟨(some 10), none, .op (.move (.tmp 6))⟩,
      ⟨(some 11), none, .op (.bin .eql (.tmp 10) (.const (.int .i64 0)))⟩])
    (.cond (.tmp 11) (.region [⟨(some 12), none, .op (.move (.tmp 1))⟩,
      ⟨(some 13), none, .call (.func 13) [(.tmp 12)]⟩,
      ⟨(some 6), none, .op (.move (.tmp 13))⟩]) .skip))
    (.seq (.seq (.region [⟨(some 14), none, .op (.move (.tmp 6))⟩,
      ⟨(some 15), none, .op (.bin .neq (.tmp 14) (.const (.int .i64 0)))⟩])
    (.cond (.tmp 15) (.seq (.region [⟨(some 16), none, .op (.move (.tmp 6))⟩,
      ⟨(some 4), none, .op (.move (.const (.slice none 0 0)))⟩,
      ⟨(some 5), none, .op (.move (.tmp 16))⟩])
    .ret) .skip))
    (.seq (.seq (.region [⟨(some 17), none, .op (.move (.tmp 0))⟩,
      ⟨(some 18), none, .op (.len (.tmp 17))⟩,
      ⟨(some 19), none, .op (.bin .gtr (.tmp 18) (.const (.int .i64 0)))⟩,
      ⟨(some 20), none, .op (.move (.tmp 19))⟩,
      ⟨(some 21), (some (20, true)), .op (.move (.tmp 1))⟩,
      ⟨(some 22), (some (20, true)), .op (.len (.tmp 21))⟩,
      ⟨(some 23), (some (20, true)), .op (.bin .gtr (.tmp 22) (.const (.int .i64 0)))⟩,
      ⟨(some 24), none, .op (.pick (.tmp 20) (.tmp 23) (.const (.bool false)))⟩])
    (.cond (.tmp 24) (.seq (.region [⟨(some 25), none, .op (.move (.tmp 0))⟩,
      ⟨(some 26), none, .op (.move (.tmp 0))⟩,
      ⟨(some 27), none, .op (.len (.tmp 26))⟩,
      ⟨(some 28), none, .op (.bin .sub (.tmp 27) (.const (.int .i64 1)))⟩,
      ⟨(some 29), none, .op (.idxA 2 (.tmp 25) (.tmp 28))⟩,
      ⟨(some 30), none, .op (.load 2 true (.tmp 29))⟩,
      ⟨(some 7), none, .op (.alloc [(.int .u64 0), (.int .i64 0)])⟩,
      ⟨none, none, .op (.store 2 (.tmp 7) (.tmp 30))⟩])
    (.seq (.seq (.dregion [⟨0, ⟨(some 31), none, .op (.move (.tmp 1))⟩, []⟩,
      ⟨1, ⟨(some 32), none, .op (.idxA 2 (.tmp 31) (.const (.int .i64 0)))⟩, []⟩,
      ⟨2, ⟨(some 33), none, .op (.fieldA 0 (.tmp 32))⟩, []⟩,
      ⟨3, ⟨(some 34), none, .op (.load 1 false (.tmp 33))⟩, []⟩,
      ⟨4, ⟨(some 35), none, .op (.fieldA 0 (.tmp 7))⟩, []⟩,
      ⟨5, ⟨(some 36), none, .op (.load 1 false (.tmp 35))⟩, []⟩,
      ⟨6, ⟨(some 37), none, .op (.bin .leq (.tmp 34) (.tmp 36))⟩, []⟩])
    (.cond (.tmp 37) (.seq (.region [⟨(some 4), none, .op (.move (.const (.slice none 0 0)))⟩,
      ⟨(some 5), none, .op (.move (.const (.int .i64 2)))⟩])
    .ret) .skip))
    (.seq (.dregion [⟨0, ⟨(some 38), none, .op (.move (.tmp 1))⟩, []⟩,
      ⟨1, ⟨(some 39), none, .op (.idxA 2 (.tmp 38) (.const (.int .i64 0)))⟩, []⟩,
      ⟨2, ⟨(some 40), none, .op (.fieldA 1 (.tmp 39))⟩, []⟩,
      ⟨3, ⟨(some 41), none, .op (.load 1 false (.tmp 40))⟩, []⟩,
      ⟨4, ⟨(some 42), none, .op (.fieldA 1 (.tmp 7))⟩, []⟩,
      ⟨5, ⟨(some 43), none, .op (.load 1 false (.tmp 42))⟩, []⟩,
      ⟨6, ⟨(some 44), none, .op (.bin .eql (.tmp 41) (.tmp 43))⟩, []⟩])
    (.cond (.tmp 44) (.region [⟨(some 45), none, .op (.move (.tmp 1))⟩,
      ⟨(some 46), none, .op (.slc 2 (.tmp 45) (some (.const (.int .i64 1))) none none)⟩,
      ⟨(some 1), none, .op (.move (.tmp 46))⟩]) .skip)))) .skip))
    (.seq (.seq (.region [⟨(some 47), none, .op (.move (.tmp 0))⟩,
      ⟨(some 48), none, .op (.len (.tmp 47))⟩,
      ⟨(some 49), none, .op (.move (.tmp 1))⟩,
      ⟨(some 50), none, .op (.len (.tmp 49))⟩,
      ⟨(some 51), none, .op (.bin .add (.tmp 48) (.tmp 50))⟩,
      ⟨(some 52), none, .op (.bin .gtr (.tmp 51) (.const (.int .i64 1000)))⟩])
    (.cond (.tmp 52) (.seq (.region [⟨(some 4), none, .op (.move (.const (.slice none 0 0)))⟩,
      ⟨(some 5), none, .op (.move (.const (.int .i64 4)))⟩])
    .ret) .skip))
    (.seq (.region [⟨(some 53), none, .op (.move (.tmp 0))⟩,
      ⟨(some 54), none, .op (.move (.tmp 1))⟩,
      ⟨(some 55), none, .op (.buildF [.nilS] 2 [(0, (.tmp 53)), (1, (.tmp 54))])⟩,
      ⟨(some 56), none, .call (.func 27) [(.tmp 55)]⟩,
      ⟨(some 4), none, .op (.move (.tmp 56))⟩,
      ⟨(some 5), none, .op (.move (.const (.int .i64 0)))⟩])
    .ret)))))))
def R17 : List RV := [.tmp 4, .tmp 5]
theorem is17 : Is Try.prog (fun _ _ => false) 17 57 A17 R17 := ⟨Try.f17, Try.func17, rfl, by kernel_rfl, by kernel_rfl, Try.call17⟩
def A18l0 : ACode :=
  (.seq (.seq (.region [⟨(some 43), none, .op (.move (.tmp 8))⟩,
      ⟨(some 44), none, .op (.move (.tmp 1))⟩,
      ⟨(some 45), none, .op (.len (.tmp 44))⟩,
      ⟨(some 46), none, .op (.bin .lss (.tmp 43) (.tmp 45))⟩])
    (.cond (.tmp 46) .skip (.exit 0)))
    (.seq (.block 1 (.seq (.dregion [⟨0, ⟨(some 49), none, .op (.move (.tmp 8))⟩, []⟩,
      ⟨1, ⟨(some 50), none, .op (.bin .gtr (.tmp 49) (.const (.int .i64 0)))⟩, []⟩,
      ⟨2, ⟨(some 51), none, .op (.move (.tmp 50))⟩, []⟩,
      ⟨3, ⟨(some 52), (some (51, false)), .op (.move (.tmp 0))⟩, []⟩,
      ⟨4, ⟨(some 53), (some (51, false)), .op (.len (.tmp 52))⟩, []⟩,
      ⟨5, ⟨(some 54), (some (51, false)), .op (.bin .eql (.tmp 53) (.const (.int .i64 0)))⟩, []⟩,
      ⟨6, ⟨(some 55), none, .op (.pick (.tmp 51) (.const (.bool true)) (.tmp 54))⟩, []⟩,
      ⟨7, ⟨(some 56), none, .op (.move (.tmp 55))⟩, []⟩,
      ⟨8, ⟨(some 57), (some (56, false)), .op (.move (.tmp 1))⟩, []⟩,
      ⟨9, ⟨(some 58), (some (56, false)), .op (.idxA 2 (.tmp 57) (.const (.int .i64 0)))⟩, []⟩,
      ⟨10, ⟨(some 59), (some (56, false)), .op (.fieldA 1 (.tmp 58))⟩, []⟩,
      ⟨11, ⟨(some 60), (some (56, false)), .op (.load 1 false (.tmp 59))⟩, []⟩,
      ⟨12, ⟨(some 61), (some (56, false)), .op (.move (.tmp 0))⟩, []⟩,
      ⟨13, ⟨(some 62), (some (56, false)), .op (.move (.tmp 0))⟩, []⟩,
      ⟨14, ⟨(some 63), (some (56, false)), .op (.len (.tmp 62))⟩, []⟩,
      ⟨15, ⟨(some 64), (some (56, false)), .op (.bin .sub (.tmp 63) (.const (.int .i64 1)))⟩, []⟩,
      ⟨16, ⟨(some 65), (some (56, false)), .op (.idxA 2 (.tmp 61) (.tmp 64))⟩, []⟩,
      ⟨17, ⟨(some 66), (some (56, false)), .op (.fieldA 1 (.tmp 65))⟩, []⟩,
      ⟨18, ⟨(some 67), (some (56, false)), .op (.load 1 false (.tmp 66))⟩, []⟩,
      ⟨19, ⟨(some 68), (some (56, false)), .op (.bin .neq (.tmp 60) (.tmp 67))⟩, []⟩,
      ⟨20, ⟨(some 69), none, .op (.pick (.tmp 56) (.const (.bool true)) (.tmp 68))⟩, []⟩])
    (.cond (.tmp 69) (.region [⟨(some 70), none, .op (.move (.tmp 7))⟩,
      ⟨(some 71), none, .op (.move (.tmp 1))⟩,
      ⟨(some 72), none, .op (.move (.tmp 8))⟩,
      ⟨(some 73), none, .op (.idxA 2 (.tmp 71) (.tmp 72))⟩,
      ⟨(some 74), none, .op (.load 2 true (.tmp 73))⟩,
      ⟨(some 75), none, .op (.buildF [(.int .u64 0), (.int .i64 0)] 1 [(0, (.tmp 74))])⟩,
      ⟨(some 76), none, .op (.app 40 2 16 (.tmp 70) (.tmp 75))⟩,
      ⟨(some 7), none, .op (.move (.tmp 76))⟩]) .skip)))
    (.region [⟨(some 47), none, .op (.move (.tmp 8))⟩,
      ⟨(some 48), none, .op (.bin .add (.tmp 47) (.const (.int .i64 1)))⟩,
      ⟨(some 8), none, .op (.move (.tmp 48))⟩])))
def A18 : ACode :=
  (.seq (.region [⟨(some 4), none, .op (.move (.const (.slice none 0 0)))⟩,
      ⟨(some 5), none, .op (.move (.const (.int .i64 0)))⟩])
    (.seq (.region [⟨(some 9), none, .op (.move (.tmp 0))⟩,
      ⟨(some 10), none, .call (.func 14) [(.tmp 9)]⟩,
      ⟨(some 6), none, .op (.move (.tmp 10))⟩])
    (.seq (.seq (.region [⟨(some 11), none, .op (.move (.tmp 6))⟩,
      ⟨(some 12), none, .op (.bin .eql (.tmp 11) (.const (.int .i64 0)))⟩])
    (.cond (.tmp 12) (.region [⟨(some 13), none, .op (.move (.tmp 1))⟩,
      ⟨(some 14), none, .call (.func 14) [(.tmp 13)]⟩,
      ⟨(some 6), none, .op (.move (.tmp 14))⟩]) .skip))
    (.seq (.seq (.region [⟨(some 15), none, .op (.move (.tmp 6))⟩,
      ⟨(some 16), none, .op (.bin .neq (.tmp 15) (.const (.int .i64 0)))⟩])
    (.cond (.tmp 16) (.seq (.region [⟨(some 17), none, .op (.move (.tmp 6))⟩,
      ⟨(some 4), none, .op (.move (.const (.slice none 0 0)))⟩,
      ⟨(some 5), none, .op (.move (.tmp 17))⟩])
    .ret) .skip))
    (.seq (.region [⟨(some 7), none, .op (.move (.const (.slice none 0 0)))⟩])
    (.seq (.region [⟨(some 18), none, .op (.move (.tmp 7))⟩,
      ⟨(some 19), none, .op (.move (.tmp 0))⟩,
      ⟨(some 20), none, .op (.app 40 2 16 (.tmp 18) (.tmp 19))⟩,
      ⟨(some 7), none, .op (.move (.tmp 20))⟩])
    (.seq (.seq (.dregion [⟨0, ⟨(some 21), none, .op (.move (.tmp 0))⟩, []⟩,
      ⟨1, ⟨(some 22), none, .op (.len (.tmp 21))⟩, []⟩,
      ⟨2, ⟨(some 23), none, .op (.bin .gtr (.tmp 22) (.const (.int .i64 0)))⟩, []⟩,
      ⟨3, ⟨(some 24), none, .op (.move (.tmp 23))⟩, []⟩,
      ⟨4, ⟨(some 25), (some (24, true)), .op (.move (.tmp 1))⟩, []⟩,
      ⟨5, ⟨(some 26), (some (24, true)), .op (.len (.tmp 25))⟩, []⟩,
      ⟨6, ⟨(some 27), (some (24, true)), .op (.bin .gtr (.tmp 26) (.const (.int .i64 0)))⟩, []⟩,
      ⟨7, ⟨(some 28), none, .op (.pick (.tmp 24) (.tmp 27) (.const (.bool false)))⟩, []⟩,
      ⟨8, ⟨(some 29), none, .op (.move (.tmp 28))⟩, []⟩,
      ⟨9, ⟨(some 30), (some (29, true)), .op (.move (.tmp 1))⟩, []⟩,
      ⟨10, ⟨(some 31), (some (29, true)), .op (.idxA 2 (.tmp 30) (.const (.int .i64 0)))⟩, []⟩,
      ⟨11, ⟨(some 32), (some (29, true)), .op (.fieldA 0 (.tmp 31))⟩, []⟩,
      ⟨12, ⟨(some 33), (some (29, true)), .op (.load 1 false (.tmp 32))⟩, []⟩,
      ⟨13, ⟨(some 34), (some (29, true)), .op (.move (.tmp 0))⟩, []⟩,
      ⟨14, ⟨(some 35), (some (29, true)), .op (.move (.tmp 0))⟩, []⟩,
      ⟨15, ⟨(some 36), (some (29, true)), .op (.len (.tmp 35))⟩, []⟩,
      ⟨16, ⟨(some 37), (some (29, true)), .op (.bin .sub (.tmp 36) (.const (.int .i64 1)))⟩, []⟩,
      ⟨17, ⟨(some 38), (some (29, true)), .op (.idxA 2 (.tmp 34) (.tmp 37))⟩, []⟩,
      ⟨18, ⟨(some 39), (some (29, true)), .op (.fieldA 0 (.tmp 38))⟩, []⟩,
      ⟨19, ⟨(some 40), (some (29, true)), .op (.load 1 false (.tmp 39))⟩, []⟩,
      ⟨20, ⟨(some 41), (some (29, true)), .op (.bin .leq (.tmp 33) (.tmp 40))⟩, []⟩,
      ⟨21, ⟨(some 42), none, .op (.pick (.tmp 29) (.tmp 41) (.const (.bool false)))⟩, []⟩])
    (.cond (.tmp 42) (.seq (.region [⟨(some 4), none, .op (.move (.const (.slice none 0 0)))⟩,
      ⟨(some 5), none, .op (.move (.const (.int .i64 2)))⟩])
    .ret) .skip))
    (.seq (.seq (.region [⟨(some 8), none, .op (.move (.const (.int .i64 0)))⟩])
    (.block 0 (.loop A18l0)))
    (.seq (.seq (.region [⟨(some 77), none, .op (.move (.tmp 7))⟩,
      ⟨(some 78), none, .op (.len (.tmp 77))⟩,
      ⟨(some 79), none, .op (.bin .gtr (.tmp 78) (.const (.int .i64 1000)))⟩])
    (.cond (.tmp 79) (.seq (.region [⟨(some 4), none, .op (.move (.const (.slice none 0 0)))⟩,
      ⟨(some 5), none, .op (.move (.const (.int .i64 4)))⟩])
    .ret) .skip))
    (.seq (.region [⟨(some 80), none, .op (.move (.tmp 7))⟩,
      ⟨(some 4), none, .op (.move (.tmp 80))⟩,
      ⟨(some 5), none, .op (.move (.const (.int .i64 0)))⟩])
    .ret))))))))))
def R18 : List RV := [.tmp 4, .tmp 5]
theorem is18 : Is Try.prog (fun _ _ => false) 18 81 A18 R18 := ⟨Try.f18, Try.func18, rfl, by kernel_rfl, by kernel_rfl, Try.call18⟩
def A19l0 : ACode :=
  (.seq (.seq (.region [⟨(some 11), none, .op (.move (.tmp 5))⟩,
      ⟨(some 12), none, .op (.move (.tmp 0))⟩,
      ⟨(some 13), none, .op (.len (.tmp 12))⟩,
      ⟨(some 14), none, .op (.bin .lss (.tmp 11) (.tmp 13))⟩])
    (.cond (.tmp 14) .skip (.exit 0)))
    (.seq (.block 1 (.seq (.dregion [⟨0, ⟨(some 17), none, .op (.move (.tmp 0))⟩, []⟩,
      ⟨1, ⟨(some 18), none, .op (.move (.tmp 5))⟩, []⟩,
      ⟨2, ⟨(some 19), none, .op (.idxA 2 (.tmp 17) (.tmp 18))⟩, []⟩,
      ⟨3, ⟨(some 20), none, .op (.load 2 true (.tmp 19))⟩, []⟩,
      ⟨4, ⟨(some 21), none, .op (.move (.tmp 1))⟩, []⟩,
      ⟨5, ⟨(some 22), none, .op (.move (.tmp 5))⟩, []⟩,
      ⟨6, ⟨(some 23), none, .op (.idxA 2 (.tmp 21) (.tmp 22))⟩, []⟩,
      ⟨7, ⟨(some 24), none, .op (.load 2 true (.tmp 23))⟩, []⟩,
      ⟨8, ⟨(some 25), none, .op (.eqS true [.int, .int] (.tmp 20) (.tmp 24))⟩, []⟩])
    (.cond (.tmp 25) (.seq (.region [⟨(some 4), none, .op (.move (.const (.bool false)))⟩])
    .ret) .skip)))
    (.region [⟨(some 15), none, .op (.move (.tmp 5))⟩,
      ⟨(some 16), none, .op (.bin .add (.tmp 15) (.const (.int .i64 1)))⟩,
      ⟨(some 5), none, .op (.move (.tmp 16))⟩])))
def A19 : ACode :=
  (.seq (.region [⟨(some 4), none, .op (.move (.const (.bool false)))⟩])
    (.seq (.seq (.region [⟨(some 6), none, .op (.move (.tmp 0))⟩,
      ⟨(some 7), none, .op (.len (.tmp 6))⟩,
      ⟨(some 8), none, .op (.move (.tmp 1))⟩,
      ⟨(some 9), none, .op (.len (.tmp 8))⟩,
      ⟨(some 10), none, .op (.bin .neq (.tmp 7) (.tmp 9))⟩])
    (.cond (.tmp 10) (.seq (.region [⟨(some 4), none, .op (.move (.const (.bool false)))⟩])
    .ret) .skip))
    (.seq (.seq (.region [⟨(some 5), none, .op (.move (.const (.int .i64 0)))⟩])
    (.block 0 (.loop A19l0)))
    (.seq (.region [⟨(some 4), none, .op (.move (.const (.bool true)))⟩])
    .ret))))
def R19 : List RV := [.tmp 4]
theorem is19 : Is Try.prog (fun _ _ => false) 19 26 A19 R19 := ⟨Try.f19, Try.func19, rfl, by kernel_rfl, by kernel_rfl, Try.call19⟩
def A20a0 : ACode :=
  (.seq (.region [⟨(some 6), none, .op (.move (.tmp 15))⟩])
    (.region [⟨(some 7), none, .op (.move (.tmp 16))⟩]))
def A20b0 : ACode :=
  (.block 1 (.seq (.seq (.region [⟨(some 17), none, .op (.move (.tmp 6))⟩,
      ⟨(some 18), none, .op (.move (.tmp 7))⟩,
      ⟨(some 19), none, .call (.func 29) [(.tmp 17), (.tmp 18)]⟩])
    (.cond (.tmp 19) (.seq (.region [⟨(some 20), none, .op (.load 1 false (.tmp 5))⟩,
      ⟨(some 21), none, .op (.move (.tmp 6))⟩,
      ⟨(some 22), none, .op (.conv .i64 (.tmp 21))⟩,
      ⟨(some 23), none, .op (.bin .sub (.tmp 22) (.const (.int .i64 1)))⟩,
      ⟨(some 24), none, .op (.bin .mul (.const (.int .i64 16)) (.tmp 23))⟩,
      ⟨(some 25), none, .op (.bin .add (.const (.int .i64 32)) (.tmp 24))⟩,
      ⟨(some 26), none, .op (.move (.tmp 7))⟩,
      ⟨(some 27), none, .op (.bin .add (.tmp 25) (.tmp 26))⟩,
      ⟨(some 28), none, .op (.bin .add (.tmp 27) (.const (.int .i64 8)))⟩,
      ⟨(some 29), none, .op (.conv .u8 (.tmp 28))⟩,
      ⟨(some 30), none, .op (.buildF [(.int .u8 0)] 1 [(0, (.tmp 29))])⟩,
      ⟨(some 31), none, .op (.app 5 1 1 (.tmp 20) (.tmp 30))⟩,
      ⟨none, none, .op (.store 1 (.tmp 5) (.tmp 31))⟩])
    (.exit 1)) .skip))
    (.region [⟨(some 32), none, .op (.load 1 false (.tmp 5))⟩,
      ⟨(some 33), none, .op (.buildF [(.int .u8 0)] 1 [(0, (.const (.int .u8 1)))])⟩,
      ⟨(some 34), none, .op (.app 5 1 1 (.tmp 32) (.tmp 33))⟩,
      ⟨(some 35), none, .op (.move (.tmp 6))⟩,
      ⟨(some 36), none, .call (.func 30) [(.tmp 34), (.tmp 35)]⟩,
      ⟨(some 37), none, .op (.move (.tmp 7))⟩,
      ⟨(some 38), none, .call (.func 31) [(.tmp 37)]⟩,
      ⟨(some 39), none, .call (.func 30) [(.tmp 36), (.tmp 38)]⟩,
      ⟨none, none, .op (.store 1 (.tmp 5) (.tmp 39))⟩])))
def A20 : ACode :=
  (.seq (.region [⟨(some 2), none, .op (.move (.const (.slice none 0 0)))⟩,
      ⟨(some 3), none, .op (.move (.const (.int .i64 0)))⟩])
    (.seq (.region [⟨(some 8), none, .op (.move (.tmp 0))⟩,
      ⟨(some 9), none, .call (.func 13) [(.tmp 8)]⟩,
      ⟨(some 4), none, .op (.move (.tmp 9))⟩])
    (.seq (.seq (.region [⟨(some 10), none, .op (.move (.tmp 4))⟩,
      ⟨(some 11), none, .op (.bin .neq (.tmp 10) (.const (.int .i64 0)))⟩])
    (.cond (.tmp 11) (.seq (.region [⟨(some 12), none, .op (.move (.tmp 4))⟩,
      ⟨(some 2), none, .op (.move (.const (.slice none 0 0)))⟩,
      ⟨(some 3), none, .op (.move (.tmp 12))⟩])
    .ret) .skip))
    (.seq (.region [⟨(some 5), none, .op (.alloc [.nilS])⟩])
    (.seq (.seq (.region [⟨(some 13), none, .op (.move (.tmp 0))⟩,
      ⟨(some 14), none, .call (.func 28) [(.tmp 13)]⟩])
    (.block 0 (.rangeF (.tmp 14) #[15, 16] A20a0 A20b0)))
    (.seq (.region [⟨(some 40), none, .op (.load 1 false (.tmp 5))⟩,
      ⟨(some 41), none, .op (.buildF [(.int .u8 0)] 1 [(0, (.const (.int .u8 0)))])⟩,
      ⟨(some 42), none, .op (.app 5 1 1 (.tmp 40) (.tmp 41))⟩,
      ⟨(some 2), none, .op (.move (.tmp 42))⟩,
      ⟨(some 3), none, .op (.move (.const (.int .i64 0)))⟩])
    .ret))))))
def R20 : List RV := [.tmp 2, .tmp 3]
theorem is20 : Is Try.prog (fun _ _ => false) 20 43 A20 R20 := ⟨Try.f20, Try.func20, rfl, by kernel_rfl, by kernel_rfl, Try.call20⟩
def A21l0 : ACode :=
  (.seq (.seq (.region [⟨(some 17), none, .op (.move (.tmp 8))⟩,
      ⟨(some 18), none, .op (.move (.tmp 0))⟩,
      ⟨(some 19), none, .op (.len (.tmp 18))⟩,
      ⟨(some 20), none, .op (.bin .lss (.tmp 17) (.tmp 19))⟩])
    (.cond (.tmp 20) .skip (.exit 0)))
    (.seq (.block 1 (.seq (.dregion [⟨0, ⟨(some 23), none, .op (.move (.tmp 0))⟩, []⟩,
      ⟨1, ⟨(some 24), none, .op (.move (.tmp 8))⟩, []⟩,
      ⟨2, ⟨(some 25), none, .op (.idxA 2 (.tmp 23) (.tmp 24))⟩, []⟩,
      ⟨3, ⟨(some 26), none, .op (.fieldA 0 (.tmp 25))⟩, []⟩,
      ⟨4, ⟨(some 27), none, .op (.load 1 false (.tmp 26))⟩, []⟩,
      ⟨5, ⟨(some 28), none, .op (.move (.tmp 6))⟩, []⟩,
      ⟨6, ⟨(some 29), none, .op (.bin .sub (.tmp 27) (.tmp 28))⟩, []⟩,
      ⟨7, ⟨(some 30), none, .op (.move (.tmp 0))⟩, []⟩,
      ⟨8, ⟨(some 31), none, .op (.move (.tmp 8))⟩, []⟩,
      ⟨9, ⟨(some 32), none, .op (.idxA 2 (.tmp 30) (.tmp 31))⟩, []⟩,
      ⟨10, ⟨(some 33), none, .op (.fieldA 1 (.tmp 32))⟩, []⟩,
      ⟨11, ⟨(some 34), none, .op (.load 1 false (.tmp 33))⟩, []⟩,
      ⟨12, ⟨(some 35), none, .op (.move (.tmp 7))⟩, []⟩,
      ⟨13, ⟨(some 36), none, .op (.bin .sub (.tmp 34) (.tmp 35))⟩, []⟩,
      ⟨14, ⟨(some 9), none, .op (.move (.tmp 29))⟩, []⟩,
      ⟨15, ⟨(some 10), none, .op (.move (.tmp 36))⟩, []⟩])
    (.seq (.seq (.region [⟨(some 37), none, .op (.move (.tmp 9))⟩,
      ⟨(some 38), none, .op (.bin .geq (.tmp 37) (.const (.int .u64 1)))⟩,
      ⟨(some 39), none, .op (.move (.tmp 38))⟩,
      ⟨(some 40), (some (39, true)), .op (.move (.tmp 9))⟩,
      ⟨(some 41), (some (39, true)), .op (.bin .leq (.tmp 40) (.const (.int .u64 14)))⟩,
      ⟨(some 42), none, .op (.pick (.tmp 39) (.tmp 41) (.const (.bool false)))⟩,
      ⟨(some 43), none, .op (.move (.tmp 42))⟩,
      ⟨(some 44), (some (43, true)), .op (.move (.tmp 10))⟩,
      ⟨(some 45), (some (43, true)), .op (.bin .geq (.tmp 44) (.const (.int .i64 (-8))))⟩,
      ⟨(some 46), none, .op (.pick (.tmp 43) (.tmp 45) (.const (.bool false)))⟩,
      ⟨(some 47), none, .op (.move (.tmp 46))⟩,
      ⟨(some 48), (some (47, true)), .op (.move (.tmp 10))⟩,
      ⟨(some 49), (some (47, true)), .op (.bin .leq (.tmp 48) (.const (.int .i64 7)))⟩,
      ⟨(some 50), none, .op (.pick (.tmp 47) (.tmp 49) (.const (.bool false)))⟩])
    (.cond (.tmp 50) (.region [⟨(some 51), none, .op (.move (.tmp 5))⟩,
      ⟨(some 52), none, .op (.move (.tmp 9))⟩,
      ⟨(some 53), none, .op (.conv .i64 (.tmp 52))⟩,
      ⟨(some 54), none, .op (.bin .sub (.tmp 53) (.const (.int .i64 1)))⟩,
      ⟨(some 55), none, .op (.bin .mul (.const (.int .i64 16)) (.tmp 54))⟩,
      ⟨(some 56), none, .op (.bin .add (.const (.int .i64 32)) (.tmp 55))⟩,
      ⟨(some 57), none, .op (.move (.tmp 10))⟩,
      ⟨(some 58), none, .op (.bin .add (.tmp 56) (.tmp 57))⟩,
      ⟨(some 59), none, .op (.bin .add (.tmp 58) (.const (.int .i64 8)))⟩,
      ⟨(some 60), none, .op (.conv .u8 (.tmp 59))⟩,
      ⟨(some 61), none, .op (.buildF [(.int .u8 0)] 1 [(0, (.tmp 60))])⟩,
      ⟨(some 62), none, .op (.app 5 1 1 (.tmp 51) (.tmp 61))⟩,
      ⟨(some 5), none, .op (.move (.tmp 62))⟩]) (.seq (.region [⟨(some 63), none, .op (.move (.tmp 10))⟩,
      ⟨(some 64), none, .op (.bin .mul (.const (.int .i64 2)) (.tmp 63))⟩,
      ⟨(some 11), none, .op (.move (.tmp 64))⟩])
    (.seq (.seq (.region [⟨(some 65), none, .op (.move (.tmp 10))⟩,
      ⟨(some 66), none, .op (.bin .lss (.tmp 65) (.const (.int .i64 0)))⟩])
    (.cond (.tmp 66) (.region [⟨(some 67), none, .op (.move (.tmp 10))⟩,
      ⟨(some 68), none, .op (.bin .mul (.const (.int .i64 (-2))) (.tmp 67))⟩,
      ⟨(some 69), none, .op (.bin .sub (.tmp 68) (.const (.int .i64 1)))⟩,
      ⟨(some 11), none, .op (.move (.tmp 69))⟩]) .skip))
    (.seq (.region [⟨(some 70), none, .op (.move (.tmp 5))⟩,
      ⟨(some 71), none, .op (.buildF [(.int .u8 0)] 1 [(0, (.const (.int .u8 1)))])⟩,
      ⟨(some 72), none, .op (.app 5 1 1 (.tmp 70) (.tmp 71))⟩,
      ⟨(some 5), none, .op (.move (.tmp 72))⟩])
    (.seq (.region [⟨(some 73), none, .op (.move (.tmp 5))⟩,
      ⟨(some 74), none, .op (.move (.tmp 9))⟩,
      ⟨(some 75), none, .call (.func 32) [(.tmp 74)]⟩,
      ⟨(some 76), none, .op (.app 5 1 1 (.tmp 73) (.tmp 75))⟩,
      ⟨(some 5), none, .op (.move (.tmp 76))⟩])
    (.region [⟨(some 77), none, .op (.move (.tmp 5))⟩,
      ⟨(some 78), none, .op (.move (.tmp 11))⟩,
      ⟨(some 79), none, .op (.conv .u64 (.tmp 78))⟩,
      ⟨(some 80), none, .call (.func 32) [(.tmp 79)]⟩,
      ⟨(some 81), none, .op (.app 5 1 1 (.tmp 77) (.tmp 80))⟩,
      ⟨(some 5), none, .op (.move (.tmp 81))⟩])))))))
    (.dregion [⟨0, ⟨(some 82), none, .op (.move (.tmp 0))⟩, []⟩,
      ⟨1, ⟨(some 83), none, .op (.move (.tmp 8))⟩, []⟩,
      ⟨2, ⟨(some 84), none, .op (.idxA 2 (.tmp 82) (.tmp 83))⟩, []⟩,
      ⟨3, ⟨(some 85), none, .op (.fieldA 0 (.tmp 84))⟩, []⟩,
      ⟨4, ⟨(some 86), none, .op (.load 1 false (.tmp 85))⟩, []⟩,
      ⟨5, ⟨(some 87), none, .op (.move (.tmp 0))⟩, []⟩,
      ⟨6, ⟨(some 88), none, .op (.move (.tmp 8))⟩, []⟩,
      ⟨7, ⟨(some 89), none, .op (.idxA 2 (.tmp 87) (.tmp 88))⟩, []⟩,
      ⟨8, ⟨(some 90), none, .op (.fieldA 1 (.tmp 89))⟩, []⟩,
      ⟨9, ⟨(some 91), none, .op (.load 1 false (.tmp 90))⟩, []⟩,
      ⟨10, ⟨(some 6), none, .op (.move (.tmp 86))⟩, []⟩,
      ⟨11, ⟨(some 7), none, .op (.move (.tmp 91))⟩, []⟩]))))
    (.region [⟨(some 21), none, .op (.move (.tmp 8))⟩,
      ⟨(some 22), none, .op (.bin .add (.tmp 21) (.const (.int .i64 1)))⟩,
      ⟨(some 8), none, .op (.move (.tmp 22))⟩])))
def A21 : ACode :=
  (.seq (.region [⟨(some 2), none, .op (.move (.const (.slice none 0 0)))⟩,
      ⟨(some 3), none, .op (.move (.const (.int .i64 0)))⟩])
    (.seq (.region [⟨(some 12), none, .op (.move (.tmp 0))⟩,
      ⟨(some 13), none, .call (.func 14) [(.tmp 12)]⟩,
      ⟨(some 4), none, .op (.move (.tmp 13))⟩])
    (.seq (.seq (.region [⟨(some 14), none, .op (.move (.tmp 4))⟩,
      ⟨(some 15), none, .op (.bin .neq (.tmp 14) (.const (.int .i64 0)))⟩])
    (.cond (.tmp 15) (.seq (.region [⟨(some 16), none, .op (.move (.tmp 4))⟩,
      ⟨(some 2), none, .op (.move (.const (.slice none 0 0)))⟩,
      ⟨(some 3), none, .op (.move (.tmp 16))⟩])
    .ret) .skip))
    (.seq (.region [⟨(some 5), none, .op (.move (.const (.slice none 0 0)))⟩])
    (.seq (.region [⟨(some 6), none, .op (.move (.const (.int .u64 0)))⟩,
      ⟨(some 7), none, .op (.move (.const (.int .i64 0)))⟩])
    (.seq (.seq (.region [⟨(some 8), none, .op (.move (.const (.int .i64 0)))⟩])
    (.block 0 (.loop A21l0)))
    (.seq (.region [⟨(some 92), none, .op (.move (.tmp 5))⟩,
      ⟨(some 93), none, .op (.buildF [(.int .u8 0)] 1 [(0, (.const (.int .u8 0)))])⟩,
      ⟨(some 94), none, .op (.app 5 1 1 (.tmp 92) (.tmp 93))⟩,
      ⟨(some 2), none, .op (.move (.tmp 94))⟩,
      ⟨(some 3), none, .op (.move (.const (.int .i64 0)))⟩])
    .ret)))))))
def R21 : List RV := [.tmp 2, .tmp 3]
theorem is21 : Is Try.prog (fun _ _ => false) 21 95 A21 R21 := ⟨Try.f21, Try.func21, rfl, by kernel_rfl, by kernel_rfl, Try.call21⟩
def A22l0 : ACode :=
  (.block 1 (.seq (.region [⟨(some 18), none, .op (.load 1 false (.tmp 5))⟩,
      ⟨(some 19), none, .call (.tmp 18) []⟩,
      ⟨(some 17), none, .op (.move (.tmp 19))⟩,
      ⟨(some 20), none, .op (.ext (.tmp 17) 0)⟩,
      ⟨(some 21), none, .op (.ext (.tmp 17) 1)⟩,
      ⟨(some 9), none, .op (.move (.tmp 20))⟩,
      ⟨(some 10), none, .op (.move (.tmp 21))⟩])
    (.seq (.seq (.region [⟨(some 22), none, .op (.move (.tmp 10))⟩,
      ⟨(some 23), none, .op (.un .not (.tmp 22))⟩,
      ⟨(some 24), none, .op (.move (.tmp 23))⟩,
      ⟨(some 25), (some (24, false)), .op (.move (.tmp 9))⟩,
      ⟨(some 26), (some (24, false)), .op (.bin .gtr (.tmp 25) (.const (.int .u8 1)))⟩,
      ⟨(some 27), (some (24, false)), .op (.move (.tmp 26))⟩,
      ⟨(some 28), (some (27, true)), .op (.move (.tmp 9))⟩,
      ⟨(some 29), (some (27, true)), .op (.bin .lss (.tmp 28) (.const (.int .u8 32)))⟩,
      ⟨(some 30), (some (24, false)), .op (.pick (.tmp 27) (.tmp 29) (.const (.bool false)))⟩,
      ⟨(some 31), none, .op (.pick (.tmp 24) (.const (.bool true)) (.tmp 30))⟩,
      ⟨(some 32), none, .op (.move (.tmp 31))⟩,
      ⟨(some 33), (some (32, false)), .op (.move (.tmp 7))⟩,
      ⟨(some 34), (some (32, false)), .op (.len (.tmp 33))⟩,
      ⟨(some 35), (some (32, false)), .op (.bin .gtr (.tmp 34) (.const (.int .i64 1000)))⟩,
      ⟨(some 36), none, .op (.pick (.tmp 32) (.const (.bool true)) (.tmp 35))⟩])
    (.cond (.tmp 36) (.seq (.region [⟨(some 2), none, .op (.move (.const (.slice none 0 0)))⟩,
      ⟨(some 3), none, .op (.move (.const (.int .i64 12)))⟩])
    .ret) .skip))
    (.seq (.seq (.region [⟨(some 37), none, .op (.move (.tmp 9))⟩,
      ⟨(some 38), none, .op (.bin .eql (.tmp 37) (.const (.int .u8 0)))⟩])
    (.cond (.tmp 38) (.exit 0) .skip))
    (.seq (.region [⟨(some 11), none, .op (.move (.const (.int .u64 0)))⟩,
      ⟨(some 12), none, .op (.move (.const (.int .i64 0)))⟩])
    (.seq (.seq (.region [⟨(some 39), none, .op (.move (.tmp 9))⟩,
      ⟨(some 40), none, .op (.bin .geq (.tmp 39) (.const (.int .u8 32)))⟩])
    (.cond (.tmp 40) (.region [⟨(some 41), none, .op (.move (.tmp 9))⟩,
      ⟨(some 42), none, .op (.bin .sub (.tmp 41) (.const (.int .u8 32)))⟩,
      ⟨(some 43), none, .op (.conv .u64 (.tmp 42))⟩,
      ⟨(some 44), none, .op (.bin .quo (.tmp 43) (.const (.int .u64 16)))⟩,
      ⟨(some 45), none, .op (.bin .add (.tmp 44) (.const (.int .u64 1)))⟩,
      ⟨(some 46), none, .op (.move (.tmp 9))⟩,
      ⟨(some 47), none, .op (.bin .sub (.tmp 46) (.const (.int .u8 32)))⟩,
      ⟨(some 48), none, .op (.conv .i64 (.tmp 47))⟩,
      ⟨(some 49), none, .op (.bin .rem (.tmp 48) (.const (.int .i64 16)))⟩,
      ⟨(some 50), none, .op (.bin .sub (.tmp 49) (.const (.int .i64 8)))⟩,
      ⟨(some 11), none, .op (.move (.tmp 45))⟩,
      ⟨(some 12), none, .op (.move (.tmp 50))⟩]) (.seq (.region [⟨(some 13), none, .op (.move (.const (.int .u64 0)))⟩])
    (.seq (.region [⟨(some 14), none, .op (.move (.const (.bool false)))⟩])
    (.seq (.region [⟨(some 52), none, .op (.move (.tmp 6))⟩,
      ⟨(some 53), none, .call (.tmp 52) []⟩,
      ⟨(some 51), none, .op (.move (.tmp 53))⟩,
      ⟨(some 54), none, .op (.ext (.tmp 51) 0)⟩,
      ⟨(some 55), none, .op (.ext (.tmp 51) 1)⟩,
      ⟨(some 11), none, .op (.move (.tmp 54))⟩,
      ⟨(some 10), none, .op (.move (.tmp 55))⟩])
    (.seq (.region [⟨(some 57), none, .op (.move (.tmp 6))⟩,
      ⟨(some 58), none, .call (.tmp 57) []⟩,
      ⟨(some 56), none, .op (.move (.tmp 58))⟩,
      ⟨(some 59), none, .op (.ext (.tmp 56) 0)⟩,
      ⟨(some 60), none, .op (.ext (.tmp 56) 1)⟩,
      ⟨(some 13), none, .op (.move (.tmp 59))⟩,
      ⟨(some 14), none, .op (.move (.tmp 60))⟩])
    (.seq (.region [⟨(some 61), none, .op (.move (.tmp 13))⟩,
      ⟨(some 62), none, .call (.func 35) [(.tmp 61)]⟩,
      ⟨(some 12), none, .op (.move (.tmp 62))⟩])
    (.seq (.region [⟨(some 63), none, .op (.move (.tmp 10))⟩,
      ⟨(some 64), none, .op (.un .not (.tmp 63))⟩,
      ⟨(some 65), none, .op (.move (.tmp 64))⟩,
      ⟨(some 66), (some (65, false)), .op (.move (.tmp 14))⟩,
      ⟨(some 67), (some (65, false)), .op (.un .not (.tmp 66))⟩,
      ⟨(some 68), none, .op (.pick (.tmp 65) (.const (.bool true)) (.tmp 67))⟩,
      ⟨(some 69), none, .op (.move (.tmp 68))⟩,
      ⟨(some 70), (some (69, false)), .op (.move (.tmp 11))⟩,
      ⟨(some 71), (some (69, false)), .op (.move (.tmp 12))⟩,
      ⟨(some 72), (some (69, false)), .call (.func 29) [(.tmp 70), (.tmp 71)]⟩,
      ⟨(some 73), none, .op (.pick (.tmp 69) (.const (.bool true)) (.tmp 72))⟩])
    (.cond (.tmp 73) (.seq (.region [⟨(some 2), none, .op (.move (.const (.slice none 0 0)))⟩,
      ⟨(some 3), none, .op (.move (.const (.int .i64 12)))⟩])
    .ret) .skip)))))))))
    (.seq (.region [⟨(some 74), none, .op (.fieldA 0 (.tmp 8))⟩,
      ⟨(some 75), none, .op (.load 1 false (.tmp 74))⟩,
      ⟨(some 76), none, .op (.move (.tmp 11))⟩,
      ⟨(some 77), none, .op (.bin .add (.tmp 75) (.tmp 76))⟩,
      ⟨(some 78), none, .op (.fieldA 1 (.tmp 8))⟩,
      ⟨(some 79), none, .op (.load 1 false (.tmp 78))⟩,
      ⟨(some 80), none, .op (.move (.tmp 12))⟩,
      ⟨(some 81), none, .op (.bin .add (.tmp 79) (.tmp 80))⟩,
      ⟨(some 82), none, .op (.build [(.int .u64 0), (.int .i64 0)] [(0, 1, (.tmp 77)), (1, 1, (.tmp 81))])⟩,
      ⟨none, none, .op (.store 2 (.tmp 8) (.tmp 82))⟩])
    (.region [⟨(some 83), none, .op (.move (.tmp 7))⟩,
      ⟨(some 84), none, .op (.load 2 true (.tmp 8))⟩,
      ⟨(some 85), none, .op (.buildF [(.int .u64 0), (.int .i64 0)] 1 [(0, (.tmp 84))])⟩,
      ⟨(some 86), none, .op (.app 40 2 16 (.tmp 83) (.tmp 85))⟩,
      ⟨(some 7), none, .op (.move (.tmp 86))⟩]))))))))
def A22 : ACode :=
  (.seq (.region [⟨(some 1), none, .op (.box (.tmp 0))⟩,
      ⟨(some 2), none, .op (.move (.const (.slice none 0 0)))⟩,
      ⟨(some 3), none, .op (.move (.const (.int .i64 0)))⟩])
    (.seq (.region [⟨(some 4), none, .op (.alloc [(.int .i64 0)])⟩,
      ⟨none, none, .op (.store 1 (.tmp 4) (.const (.int .i64 0)))⟩])
    (.seq (.region [⟨(some 15), none, .op (.mkfn (.func 33) [(.tmp 4), (.tmp 1)])⟩,
      ⟨(some 5), none, .op (.alloc [.nilF])⟩,
      ⟨none, none, .op (.store 1 (.tmp 5) (.tmp 15))⟩])
    (.seq (.region [⟨(some 16), none, .op (.mkfn (.func 34) [(.tmp 5)])⟩,
      ⟨(some 6), none, .op (.move (.tmp 16))⟩])
    (.seq (.region [⟨(some 7), none, .op (.move (.const (.slice none 0 0)))⟩])
    (.seq (.region [⟨(some 8), none, .op (.alloc [(.int .u64 0), (.int .i64 0)])⟩])
    (.seq (.block 0 (.loop A22l0))
    (.seq (.seq (.region [⟨(some 87), none, .op (.load 1 false (.tmp 4))⟩,
      ⟨(some 88), none, .op (.load 1 false (.tmp 1))⟩,
      ⟨(some 89), none, .op (.len (.tmp 88))⟩,
      ⟨(some 90), none, .op (.bin .neq (.tmp 87) (.tmp 89))⟩,
      ⟨(some 91), none, .op (.move (.tmp 90))⟩,
      ⟨(some 92), (some (91, false)), .op (.move (.tmp 7))⟩,
      ⟨(some 93), (some (91, false)), .call (.func 13) [(.tmp 92)]⟩,
      ⟨(some 94), (some (91, false)), .op (.bin .neq (.tmp 93) (.const (.int .i64 0)))⟩,
      ⟨(some 95), none, .op (.pick (.tmp 91) (.const (.bool true)) (.tmp 94))⟩])
    (.cond (.tmp 95) (.seq (.region [⟨(some 2), none, .op (.move (.const (.slice none 0 0)))⟩,
      ⟨(some 3), none, .op (.move (.const (.int .i64 12)))⟩])
    .ret) .skip))
    (.seq (.region [⟨(some 96), none, .op (.move (.tmp 7))⟩,
      ⟨(some 2), none, .op (.move (.tmp 96))⟩,
      ⟨(some 3), none, .op (.move (.const (.int .i64 0)))⟩])
    .ret)))))))))
def R22 : List RV := [.tmp 2, .tmp 3]
theorem is22 : Is Try.prog (fun _ _ => false) 22 97 A22 R22 := ⟨Try.f22, Try.func22, rfl, by kernel_rfl, by kernel_rfl, Try.call22⟩
def A23l0 : ACode :=
  (.seq (.seq (.region [⟨(some 16), none, .op (.move (.tmp 7))⟩,
      ⟨(some 17), none, .op (.move (.tmp 0))⟩,
      ⟨(some 18), none, .op (.len (.tmp 17))⟩,
      ⟨(some 19), none, .op (.bin .lss (.tmp 16) (.tmp 18))⟩,
      ⟨(some 20), none, .op (.move (.tmp 19))⟩,
      ⟨(some 21), (some (20, true)), .op (.move (.tmp 0))⟩,
      ⟨(some 22), (some (20, true)), .op (.move (.tmp 7))⟩,
      ⟨(some 23), (some (20, true)), .op (.idxA 1 (.tmp 21) (.tmp 22))⟩,
      ⟨(some 24), (some (20, true)), .op (.load 1 false (.tmp 23))⟩,
      ⟨(some 25), (some (20, true)), .op (.bin .neq (.tmp 24) (.const (.int .u8 0)))⟩,
      ⟨(some 26), none, .op (.pick (.tmp 20) (.tmp 25) (.const (.bool false)))⟩,
      ⟨(some 27), none, .op (.move (.tmp 26))⟩,
      ⟨(some 28), (some (27, true)), .op (.move (.tmp 4))⟩,
      ⟨(some 29), (some (27, true)), .op (.len (.tmp 28))⟩,
      ⟨(some 30), (some (27, true)), .op (.bin .leq (.tmp 29) (.const (.int .i64 1000)))⟩,
      ⟨(some 31), none, .op (.pick (.tmp 27) (.tmp 30) (.const (.bool false)))⟩])
    (.cond (.tmp 31) .skip (.exit 0)))
    (.block 1 (.seq (.seq (.region [⟨(some 32), none, .op (.move (.tmp 0))⟩,
      ⟨(some 33), none, .op (.move (.tmp 7))⟩,
      ⟨(some 34), none, .op (.idxA 1 (.tmp 32) (.tmp 33))⟩,
      ⟨(some 35), none, .op (.load 1 false (.tmp 34))⟩,
      ⟨(some 36), none, .op (.bin .geq (.tmp 35) (.const (.int .u8 32)))⟩])
    (.cond (.tmp 36) (.seq (.region [⟨(some 37), none, .op (.move (.tmp 5))⟩,
      ⟨(some 38), none, .op (.move (.tmp 0))⟩,
      ⟨(some 39), none, .op (.move (.tmp 7))⟩,
      ⟨(some 40), none, .op (.idxA 1 (.tmp 38) (.tmp 39))⟩,
      ⟨(some 41), none, .op (.load 1 false (.tmp 40))⟩,
      ⟨(some 42), none, .op (.bin .sub (.tmp 41) (.const (.int .u8 32)))⟩,
      ⟨(some 43), none, .op (.conv .u64 (.tmp 42))⟩,
      ⟨(some 44), none, .op (.bin .quo (.tmp 43) (.const (.int .u64 16)))⟩,
      ⟨(some 45), none, .op (.bin .add (.tmp 44) (.const (.int .u64 1)))⟩,
      ⟨(some 46), none, .op (.bin .add (.tmp 37) (.tmp 45))⟩,
      ⟨(some 5), none, .op (.move (.tmp 46))⟩])
    (.seq (.region [⟨(some 47), none, .op (.move (.tmp 6))⟩,
      ⟨(some 48), none, .op (.move (.tmp 0))⟩,
      ⟨(some 49), none, .op (.move (.tmp 7))⟩,
      ⟨(some 50), none, .op (.idxA 1 (.tmp 48) (.tmp 49))⟩,
      ⟨(some 51), none, .op (.load 1 false (.tmp 50))⟩,
      ⟨(some 52), none, .op (.bin .sub (.tmp 51) (.const (.int .u8 32)))⟩,
      ⟨(some 53), none, .op (.conv .i64 (.tmp 52))⟩,
      ⟨(some 54), none, .op (.bin .rem (.tmp 53) (.const (.int .i64 16)))⟩,
      ⟨(some 55), none, .op (.bin .sub (.tmp 54) (.const (.int .i64 8)))⟩,
      ⟨(some 56), none, .op (.bin .add (.tmp 47) (.tmp 55))⟩,
      ⟨(some 6), none, .op (.move (.tmp 56))⟩])
    (.region [⟨(some 57), none, .op (.move (.tmp 7))⟩,
      ⟨(some 58), none, .op (.bin .add (.tmp 57) (.const (.int .i64 1)))⟩,
      ⟨(some 7), none, .op (.move (.tmp 58))⟩]))) (.seq (.region [⟨(some 60), none, .op (.move (.tmp 0))⟩,
      ⟨(some 61), none, .op (.move (.tmp 7))⟩,
      ⟨(some 62), none, .op (.bin .add (.tmp 61) (.const (.int .i64 1)))⟩,
      ⟨(some 63), none, .call (.func 36) [(.tmp 60), (.tmp 62)]⟩,
      ⟨(some 59), none, .op (.move (.tmp 63))⟩,
      ⟨(some 64), none, .op (.ext (.tmp 59) 0)⟩,
      ⟨(some 65), none, .op (.ext (.tmp 59) 1)⟩,
      ⟨(some 66), none, .op (.ext (.tmp 59) 2)⟩,
      ⟨(some 8), none, .op (.move (.tmp 64))⟩,
      ⟨(some 9), none, .op (.move (.tmp 65))⟩,
      ⟨(some 10), none, .op (.move (.tmp 66))⟩])
    (.seq (.region [⟨(some 11), none, .op (.move (.const (.int .u64 0)))⟩,
      ⟨(some 12), none, .op (.move (.const (.int .i64 0)))⟩,
      ⟨(some 13), none, .op (.move (.const (.bool false)))⟩])
    (.seq (.seq (.region [⟨(some 67), none, .op (.move (.tmp 10))⟩])
    (.cond (.tmp 67) (.region [⟨(some 69), none, .op (.move (.tmp 0))⟩,
      ⟨(some 70), none, .op (.move (.tmp 9))⟩,
      ⟨(some 71), none, .call (.func 36) [(.tmp 69), (.tmp 70)]⟩,
      ⟨(some 68), none, .op (.move (.tmp 71))⟩,
      ⟨(some 72), none, .op (.ext (.tmp 68) 0)⟩,
      ⟨(some 73), none, .op (.ext (.tmp 68) 1)⟩,
      ⟨(some 74), none, .op (.ext (.tmp 68) 2)⟩,
      ⟨(some 11), none, .op (.move (.tmp 72))⟩,
      ⟨(some 12), none, .op (.move (.tmp 73))⟩,
      ⟨(some 13), none, .op (.move (.tmp 74))⟩]) .skip))
    (.seq (.seq (.region [⟨(some 75), none, .op (.move (.tmp 0))⟩,
      ⟨(some 76), none, .op (.move (.tmp 7))⟩,
      ⟨(some 77), none, .op (.idxA 1 (.tmp 75) (.tmp 76))⟩,
      ⟨(some 78), none, .op (.load 1 false (.tmp 77))⟩,
      ⟨(some 79), none, .op (.bin .neq (.tmp 78) (.const (.int .u8 1)))⟩,
      ⟨(some 80), none, .op (.move (.tmp 79))⟩,
      ⟨(some 81), (some (80, false)), .op (.move (.tmp 13))⟩,
      ⟨(some 82), (some (80, false)), .op (.un .not (.tmp 81))⟩,
      ⟨(some 83), none, .op (.pick (.tmp 80) (.const (.bool true)) (.tmp 82))⟩])
    (.cond (.tmp 83) (.seq (.region [⟨(some 2), none, .op (.move (.const (.slice none 0 0)))⟩,
      ⟨(some 3), none, .op (.move (.const (.int .i64 12)))⟩])
    .ret) .skip))
    (.seq (.region [⟨(some 84), none, .op (.move (.tmp 5))⟩,
      ⟨(some 85), none, .op (.move (.tmp 8))⟩,
      ⟨(some 86), none, .op (.bin .add (.tmp 84) (.tmp 85))⟩,
      ⟨(some 5), none, .op (.move (.tmp 86))⟩])
    (.seq (.seq (.region [⟨(some 87), none, .op (.move (.tmp 11))⟩,
      ⟨(some 88), none, .op (.bin .rem (.tmp 87) (.const (.int .u64 2)))⟩,
      ⟨(some 89), none, .op (.bin .eql (.tmp 88) (.const (.int .u64 0)))⟩])
    (.cond (.tmp 89) (.region [⟨(some 90), none, .op (.move (.tmp 6))⟩,
      ⟨(some 91), none, .op (.move (.tmp 11))⟩,
      ⟨(some 92), none, .op (.bin .quo (.tmp 91) (.const (.int .u64 2)))⟩,
      ⟨(some 93), none, .op (.conv .i64 (.tmp 92))⟩,
      ⟨(some 94), none, .op (.bin .add (.tmp 90) (.tmp 93))⟩,
      ⟨(some 6), none, .op (.move (.tmp 94))⟩]) (.region [⟨(some 95), none, .op (.move (.tmp 6))⟩,
      ⟨(some 96), none, .op (.move (.tmp 11))⟩,
      ⟨(some 97), none, .op (.bin .quo (.tmp 96) (.const (.int .u64 2)))⟩,
      ⟨(some 98), none, .op (.conv .i64 (.tmp 97))⟩,
      ⟨(some 99), none, .op (.bin .add (.tmp 98) (.const (.int .i64 1)))⟩,
      ⟨(some 100), none, .op (.bin .sub (.tmp 95) (.tmp 99))⟩,
      ⟨(some 6), none, .op (.move (.tmp 100))⟩])))
    (.region [⟨(some 101), none, .op (.move (.tmp 12))⟩,
      ⟨(some 7), none, .op (.move (.tmp 101))⟩])))))))))
    (.region [⟨(some 102), none, .op (.move (.tmp 4))⟩,
      ⟨(some 103), none, .op (.move (.tmp 5))⟩,
      ⟨(some 104), none, .op (.move (.tmp 6))⟩,
      ⟨(some 105), none, .op (.build [(.int .u64 0), (.int .i64 0)] [(0, 1, (.tmp 103)), (1, 1, (.tmp 104))])⟩,
      ⟨(some 106), none, .op (.buildF [(.int .u64 0), (.int .i64 0)] 1 [(0, (.tmp 105))])⟩,
      ⟨(some 107), none, .op (.app 40 2 16 (.tmp 102) (.tmp 106))⟩,
      ⟨(some 4), none, .op (.move (.tmp 107))⟩]))))
def A23 : ACode :=
  (.seq (.region [⟨(some 2), none, .op (.move (.const (.slice none 0 0)))⟩,
      ⟨(some 3), none, .op (.move (.const (.int .i64 0)))⟩])
    (.seq (.region [⟨(some 4), none, .op (.move (.const (.slice none 0 0)))⟩])
    (.seq (.region [⟨(some 5), none, .op (.move (.const (.int .u64 0)))⟩,
      ⟨(some 6), none, .op (.move (.const (.int .i64 0)))⟩,
      ⟨(some 7), none, .op (.move (.const (.int .i64 0)))⟩])
    (.seq (.block 0 (.loop A23l0))
    (.seq (.region [⟨(some 109), none, .op (.move (.tmp 4))⟩,
      ⟨(some 110), none, .call (.func 21) [(.tmp 109)]⟩,
      ⟨(some 108), none, .op (.move (.tmp 110))⟩,
      ⟨(some 111), none, .op (.ext (.tmp 108) 0)⟩,
      ⟨(some 112), none, .op (.ext (.tmp 108) 1)⟩,
      ⟨(some 14), none, .op (.move (.tmp 111))⟩,
      ⟨(some 15), none, .op (.move (.tmp 112))⟩])
    (.seq (.seq (.region [⟨(some 113), none, .op (.move (.tmp 15))⟩,
      ⟨(some 114), none, .op (.bin .neq (.tmp 113) (.const (.int .i64 0)))⟩,
      ⟨(some 115), none, .op (.move (.tmp 114))⟩,
      ⟨(some 116), (some (115, false)), .op (.move (.tmp 14))⟩,
      ⟨(some 117), (some (115, false)), .op (.move (.tmp 0))⟩,
      ⟨(some 118), (some (115, false)), .call (.func 24) [(.tmp 116), (.tmp 117)]⟩,
      ⟨(some 119), (some (115, false)), .op (.un .not (.tmp 118))⟩,
      ⟨(some 120), none, .op (.pick (.tmp 115) (.const (.bool true)) (.tmp 119))⟩])
    (.cond (.tmp 120) (.seq (.region [⟨(some 2), none, .op (.move (.const (.slice none 0 0)))⟩,
      ⟨(some 3), none, .op (.move (.const (.int .i64 12)))⟩])
    .ret) .skip))
    (.seq (.region [⟨(some 121), none, .op (.move (.tmp 4))⟩,
      ⟨(some 2), none, .op (.move (.tmp 121))⟩,
      ⟨(some 3), none, .op (.move (.const (.int .i64 0)))⟩])
    .ret)))))))
def R23 : List RV := [.tmp 2, .tmp 3]
theorem is23 : Is Try.prog (fun _ _ => false) 23 122 A23 R23 := ⟨Try.f23, Try.func23, rfl, by kernel_rfl, by kernel_rfl, Try.call23⟩
def A24l0 : ACode :=
  (.seq (.seq (.region [⟨(some 11), none, .op (.move (.tmp 5))⟩,
      ⟨(some 12), none, .op (.move (.tmp 0))⟩,
      ⟨(some 13), none, .op (.len (.tmp 12))⟩,
      ⟨(some 14), none, .op (.bin .lss (.tmp 11) (.tmp 13))⟩])
    (.cond (.tmp 14) .skip (.exit 0)))
    (.seq (.block 1 (.seq (.dregion [⟨0, ⟨(some 17), none, .op (.move (.tmp 0))⟩, []⟩,
      ⟨1, ⟨(some 18), none, .op (.move (.tmp 5))⟩, []⟩,
      ⟨2, ⟨(some 19), none, .op (.idxA 1 (.tmp 17) (.tmp 18))⟩, []⟩,
      ⟨3, ⟨(some 20), none, .op (.load 1 false (.tmp 19))⟩, []⟩,
      ⟨4, ⟨(some 21), none, .op (.move (.tmp 1))⟩, []⟩,
      ⟨5, ⟨(some 22), none, .op (.move (.tmp 5))⟩, []⟩,
      ⟨6, ⟨(some 23), none, .op (.idxA 1 (.tmp 21) (.tmp 22))⟩, []⟩,
      ⟨7, ⟨(some 24), none, .op (.load 1 false (.tmp 23))⟩, []⟩,
      ⟨8, ⟨(some 25), none, .op (.bin .neq (.tmp 20) (.tmp 24))⟩, []⟩])
    (.cond (.tmp 25) (.seq (.region [⟨(some 4), none, .op (.move (.const (.bool false)))⟩])
    .ret) .skip)))
    (.region [⟨(some 15), none, .op (.move (.tmp 5))⟩,
      ⟨(some 16), none, .op (.bin .add (.tmp 15) (.const (.int .i64 1)))⟩,
      ⟨(some 5), none, .op (.move (.tmp 16))⟩])))
def A24 : ACode :=
  (.seq (.region [⟨(some 4), none, .op (.move (.const (.bool false)))⟩])
    (.seq (.seq (.region [⟨(some 6), none, .op (.move (.tmp 0))⟩,
      ⟨(some 7), none, .op (.len (.tmp 6))⟩,
      ⟨(some 8), none, .op (.move (.tmp 1))⟩,
      ⟨(some 9), none, .op (.len (.tmp 8))⟩,
      ⟨(some 10), none, .op (.bin .neq (.tmp 7) (.tmp 9))⟩])
    (.cond (.tmp 10) (.seq (.region [⟨(some 4), none, .op (.move (.const (.bool false)))⟩])
    .ret) .skip))
    (.seq (.seq (.region [⟨(some 5), none, .op (.move (.const (.int .i64 0)))⟩])
    (.block 0 (.loop A24l0)))
    (.seq (.region [⟨(some 4), none, .op (.move (.const (.bool true)))⟩])
    .ret))))
def R24 : List RV := [.tmp 4]
theorem is24 : Is Try.prog (fun _ _ => false) 24 26 A24 R24 := ⟨Try.f24, Try.func24, rfl, by kernel_rfl, by kernel_rfl, Try.call24⟩
def A25 : ACode :=
  (.seq (.region [⟨(some 0), none, .op (.move (.const (.bool false)))⟩])
    (.seq (.region [⟨(some 10), none, .op (.build [(.int .u64 0), (.int .i64 0)] [(0, 1, (.const (.int .u64 4))), (1, 1, (.const (.int .i64 1)))])⟩,
      ⟨(some 11), none, .op (.build [(.int .u64 0), (.int .i64 0)] [(0, 1, (.const (.int .u64 8))), (1, 1, (.const (.int .i64 3)))])⟩,
      ⟨(some 12), none, .op (.build [(.int .u64 0), (.int .i64 0)] [(0, 1, (.const (.int .u64 12))), (1, 1, (.const (.int .i64 2)))])⟩,
      ⟨(some 13), none, .op (.buildF [(.int .u64 0), (.int .i64 0)] 3 [(0, (.tmp 10)), (1, (.tmp 11)), (2, (.tmp 12))])⟩,
      ⟨(some 1), none, .op (.move (.tmp 13))⟩])
    (.seq (.region [⟨(some 15), none, .op (.move (.tmp 1))⟩,
      ⟨(some 16), none, .call (.func 20) [(.tmp 15)]⟩,
      ⟨(some 14), none, .op (.move (.tmp 16))⟩,
      ⟨(some 17), none, .op (.ext (.tmp 14) 0)⟩,
      ⟨(some 18), none, .op (.ext (.tmp 14) 1)⟩,
      ⟨(some 2), none, .op (.move (.tmp 17))⟩,
      ⟨(some 3), none, .op (.move (.tmp 18))⟩])
    (.seq (.region [⟨(some 20), none, .op (.buildF [(.int .u8 0)] 4 [(0, (.const (.int .u8 89))), (1, (.const (.int .u8 90))), (2, (.const (.int .u8 87))), (3, (.const (.int .u8 0)))])⟩,
      ⟨(some 21), none, .call (.func 22) [(.tmp 20)]⟩,
      ⟨(some 19), none, .op (.move (.tmp 21))⟩,
      ⟨(some 22), none, .op (.ext (.tmp 19) 0)⟩,
      ⟨(some 23), none, .op (.ext (.tmp 19) 1)⟩,
      ⟨(some 4), none, .op (.move (.tmp 22))⟩,
      ⟨(some 5), none, .op (.move (.tmp 23))⟩])
    (.seq (.region [⟨(some 25), none, .op (.move (.tmp 1))⟩,
      ⟨(some 26), none, .call (.func 11) [(.tmp 25), (.const (.int .u64 9))]⟩,
      ⟨(some 24), none, .op (.move (.tmp 26))⟩,
      ⟨(some 27), none, .op (.ext (.tmp 24) 0)⟩,
      ⟨(some 28), none, .op (.ext (.tmp 24) 1)⟩,
      ⟨(some 6), none, .op (.move (.tmp 27))⟩,
      ⟨(some 7), none, .op (.move (.tmp 28))⟩])
    (.seq (.region [⟨(some 30), none, .op (.build [(.int .u64 0), (.int .i64 0)] [(0, 1, (.const (.int .u64 0))), (1, 1, (.const (.int .i64 1)))])⟩,
      ⟨(some 31), none, .op (.build [(.int .u64 0), (.int .i64 0)] [(0, 1, (.const (.int .u64 20))), (1, 1, (.const (.int .i64 40)))])⟩,
      ⟨(some 32), none, .op (.buildF [(.int .u64 0), (.int .i64 0)] 2 [(0, (.tmp 30)), (1, (.tmp 31))])⟩,
      ⟨(some 33), none, .call (.func 20) [(.tmp 32)]⟩,
      ⟨(some 29), none, .op (.move (.tmp 33))⟩,
      ⟨(some 34), none, .op (.ext (.tmp 29) 0)⟩,
      ⟨(some 35), none, .op (.ext (.tmp 29) 1)⟩,
      ⟨(some 8), none, .op (.move (.tmp 34))⟩,
      ⟨(some 9), none, .op (.move (.tmp 35))⟩])
    (.seq (.region [⟨(some 36), none, .op (.move (.tmp 3))⟩,
      ⟨(some 37), none, .op (.bin .eql (.tmp 36) (.const (.int .i64 0)))⟩,
      ⟨(some 38), none, .op (.move (.tmp 37))⟩,
      ⟨(some 39), (some (38, true)), .op (.move (.tmp 2))⟩,
      ⟨(some 40), (some (38, true)), .op (.buildF [(.int .u8 0)] 4 [(0, (.const (.int .u8 89))), (1, (.const (.int .u8 90))), (2, (.const (.int .u8 87))), (3, (.const (.int .u8 0)))])⟩,
      ⟨(some 41), (some (38, true)), .call (.func 24) [(.tmp 39), (.tmp 40)]⟩,
      ⟨(some 42), none, .op (.pick (.tmp 38) (.tmp 41) (.const (.bool false)))⟩,
      ⟨(some 43), none, .op (.move (.tmp 42))⟩,
      ⟨(some 44), (some (43, true)), .op (.move (.tmp 5))⟩,
      ⟨(some 45), (some (43, true)), .op (.bin .eql (.tmp 44) (.const (.int .i64 0)))⟩,
      ⟨(some 46), none, .op (.pick (.tmp 43) (.tmp 45) (.const (.bool false)))⟩,
      ⟨(some 47), none, .op (.move (.tmp 46))⟩,
      ⟨(some 48), (some (47, true)), .op (.move (.tmp 4))⟩,
      ⟨(some 49), (some (47, true)), .op (.move (.tmp 1))⟩,
      ⟨(some 50), (some (47, true)), .call (.func 19) [(.tmp 48), (.tmp 49)]⟩,
      ⟨(some 51), none, .op (.pick (.tmp 47) (.tmp 50) (.const (.bool false)))⟩,
      ⟨(some 52), none, .op (.move (.tmp 51))⟩,
      ⟨(some 53), (some (52, true)), .op (.move (.tmp 7))⟩,
      ⟨(some 54), (some (52, true)), .op (.bin .eql (.tmp 53) (.const (.int .i64 0)))⟩,
      ⟨(some 55), none, .op (.pick (.tmp 52) (.tmp 54) (.const (.bool false)))⟩,
      ⟨(some 56), none, .op (.move (.tmp 55))⟩,
      ⟨(some 57), (some (56, true)), .op (.move (.tmp 6))⟩,
      ⟨(some 58), (some (56, true)), .op (.bin .eql (.tmp 57) (.const (.int .i64 3)))⟩,
      ⟨(some 59), none, .op (.pick (.tmp 56) (.tmp 58) (.const (.bool false)))⟩,
      ⟨(some 60), none, .op (.move (.tmp 59))⟩,
      ⟨(some 61), (some (60, true)), .op (.move (.tmp 9))⟩,
      ⟨(some 62), (some (60, true)), .op (.bin .eql (.tmp 61) (.const (.int .i64 0)))⟩,
      ⟨(some 63), none, .op (.pick (.tmp 60) (.tmp 62) (.const (.bool false)))⟩,
      ⟨(some 64), none, .op (.move (.tmp 63))⟩,
      ⟨(some 65), (some (64, true)), .op (.move (.tmp 8))⟩,
      ⟨(some 66), (some (64, true)), .op (.buildF [(.int .u8 0)] 7 [(0, (.const (.int .u8 1))), (1, (.const (.int .u8 0))), (2, (.const (.int .u8 2))), (3, (.const (.int .u8 1))), (4, (.const (.int .u8 20))), (5, (.const (.int .u8 78))), (6, (.const (.int .u8 0)))])⟩,
      ⟨(some 67), (some (64, true)), .call (.func 24) [(.tmp 65), (.tmp 66)]⟩,
      ⟨(some 68), none, .op (.pick (.tmp 64) (.tmp 67) (.const (.bool false)))⟩,
      ⟨(some 0), none, .op (.move (.tmp 68))⟩])
    .ret)))))))
def R25 : List RV := [.tmp 0]
theorem is25 : Is Try.prog (fun _ _ => false) 25 69 A25 R25 := ⟨Try.f25, Try.func25, rfl, by kernel_rfl, by kernel_rfl, Try.call25⟩
def A26 : ACode :=
  (.seq (.region [⟨(some 2), none, .op (.move (.const (.slice none 0 0)))⟩])
    (.seq (.seq (.region [⟨(some 3), none, .op (.move (.tmp 0))⟩,
      ⟨(some 4), none, .op (.eqN false .sl (.tmp 3))⟩])
    (.cond (.tmp 4) (.seq (.region [⟨(some 2), none, .op (.move (.const (.slice none 0 0)))⟩])
    .ret) .skip))
    (.seq (.region [⟨(some 5), none, .op (.buildO 40 [(.int .u64 0), (.int .i64 0)] 0 [])⟩,
      ⟨(some 6), none, .op (.move (.tmp 0))⟩,
      ⟨(some 7), none, .op (.app 40 2 16 (.tmp 5) (.tmp 6))⟩,
      ⟨(some 2), none, .op (.move (.tmp 7))⟩])
    .ret)))
def R26 : List RV := [.tmp 2]
theorem is26 : Is Try.prog (fun r i => [(3, 0)].contains (r, i)) 26 8 A26 R26 := ⟨Try.f26, Try.func26, rfl, by kernel_rfl, by kernel_rfl, Try.call26⟩
def A27l0 : ACode :=
  (.seq (.region [⟨(some 12), none, .op (.bin .lss (.tmp 11) (.tmp 10))⟩])
    (.seq (.cond (.tmp 12) .skip (.exit 0))
    (.seq (.block 1 (.seq (.region [⟨(some 13), none, .op (.idxA 1 (.tmp 9) (.tmp 11))⟩,
      ⟨(some 14), none, .op (.load 1 false (.tmp 13))⟩,
      ⟨(some 5), none, .op (.move (.tmp 14))⟩])
    (.seq (.region [⟨(some 15), none, .op (.move (.tmp 3))⟩,
      ⟨(some 16), none, .op (.move (.tmp 5))⟩,
      ⟨(some 17), none, .op (.len (.tmp 16))⟩,
      ⟨(some 18), none, .op (.bin .add (.tmp 15) (.tmp 17))⟩,
      ⟨(some 3), none, .op (.move (.tmp 18))⟩])
    (.seq (.region [⟨(some 19), none, .op (.move (.tmp 3))⟩,
      ⟨(some 20), none, .op (.bin .lss (.tmp 19) (.const (.int .i64 0)))⟩])
    (.cond (.tmp 20) (.region [⟨(some 21), none, .op (.mkif 9 (.const (.string ⟨#[108, 101, 110, 32, 111, 117, 116, 32, 111, 102, 32, 114, 97, 110, 103, 101]⟩)))⟩,
      ⟨none, none, .op (.bad)⟩]) .skip)))))
    (.region [⟨(some 22), none, .op (.bin .add (.tmp 11) (.const (.int .i64 1)))⟩,
      ⟨(some 11), none, .op (.move (.tmp 22))⟩]))))
def A27l1 : ACode :=
  (.seq (.region [⟨(some 28), none, .op (.bin .lss (.tmp 27) (.tmp 26))⟩])
    (.seq (.cond (.tmp 28) .skip (.exit 2))
    (.seq (.block 3 (.seq (.region [⟨(some 29), none, .op (.idxA 1 (.tmp 25) (.tmp 27))⟩,
      ⟨(some 30), none, .op (.load 1 false (.tmp 29))⟩,
      ⟨(some 8), none, .op (.move (.tmp 30))⟩])
    (.region [⟨(some 31), none, .op (.move (.tmp 6))⟩,
      ⟨(some 32), none, .op (.move (.tmp 8))⟩,
      ⟨(some 33), none, .op (.app 40 2 16 (.tmp 31) (.tmp 32))⟩,
      ⟨(some 6), none, .op (.move (.tmp 33))⟩])))
    (.region [⟨(some 34), none, .op (.bin .add (.tmp 27) (.const (.int .i64 1)))⟩,
      ⟨(some 27), none, .op (.move (.tmp 34))⟩]))))
def A27 : ACode :=
  (.seq (.region [⟨(some 2), none, .op (.move (.const (.slice none 0 0)))⟩])
    (.seq (.region [⟨(some 3), none, .op (.move (.const (.int .i64 0)))⟩])
    (.seq (.seq (.region [⟨(some 9), none, .op (.move (.tmp 0))⟩,
      ⟨(some 10), none, .op (.len (.tmp 9))⟩,
      ⟨(some 11), none, .op (.move (.const (.int .i64 0)))⟩])
    (.block 0 (.loop A27l0)))
    (.seq (.region [⟨(some 23), none, .op (.move (.tmp 3))⟩,
      ⟨(some 24), none, .call (.func 37) [(.const (.slice none 0 0)), (.tmp 23)]⟩,
      ⟨(some 6), none, .op (.move (.tmp 24))⟩])
    (.seq (.seq (.region [⟨(some 25), none, .op (.move (.tmp 0))⟩,
      ⟨(some 26), none, .op (.len (.tmp 25))⟩,
      ⟨(some 27), none, .op (.move (.const (.int .i64 0)))⟩])
    (.block 2 (.loop A27l1)))
    (.seq (.region [⟨(some 35), none, .op (.move (.tmp 6))⟩,
      ⟨(some 2), none, .op (.move (.tmp 35))⟩])
    .ret))))))
def R27 : List RV := [.tmp 2]
theorem is27 : Is Try.prog (fun _ _ => false) 27 36 A27 R27 := ⟨Try.f27, Try.func27, rfl, by kernel_rfl, by kernel_rfl, Try.call27⟩
def A28 : ACode :=
  (.seq (.region [⟨(some 1), none, .op (.box (.tmp 0))⟩,
      ⟨(some 2), none, .op (.move (.const .nilFunc))⟩])
    (.seq (.region [⟨(some 3), none, .op (.mkfn (.func 38) [(.tmp 1)])⟩,
      ⟨(some 2), none, .op (.move (.tmp 3))⟩])
    .ret))
def R28 : List RV := [.tmp 2]
theorem is28 : Is Try.prog (fun _ _ => false) 28 4 A28 R28 := ⟨Try.f28, Try.func28, rfl, by kernel_rfl, by kernel_rfl, Try.call28⟩
def A29 : ACode :=
  (.seq (.region [⟨(some 4), none, .op (.move (.const (.bool false)))⟩])
    (.seq (.region [⟨(some 5), none, .op (.move (.tmp 0))⟩,
      ⟨(some 6), none, .op (.bin .geq (.tmp 5) (.const (.int .u64 1)))⟩,
      ⟨(some 7), none, .op (.move (.tmp 6))⟩,
      ⟨(some 8), (some (7, true)), .op (.move (.tmp 0))⟩,
      ⟨(some 9), (some (7, true)), .op (.bin .leq (.tmp 8) (.const (.int .u64 14)))⟩,
      ⟨(some 10), none, .op (.pick (.tmp 7) (.tmp 9) (.const (.bool false)))⟩,
      ⟨(some 11), none, .op (.move (.tmp 10))⟩,
      ⟨(some 12), (some (11, true)), .op (.move (.tmp 1))⟩,
      ⟨(some 13), (some (11, true)), .op (.bin .geq (.tmp 12) (.const (.int .i64 (-8))))⟩,
      ⟨(some 14), none, .op (.pick (.tmp 11) (.tmp 13) (.const (.bool false)))⟩,
      ⟨(some 15), none, .op (.move (.tmp 14))⟩,
      ⟨(some 16), (some (15, true)), .op (.move (.tmp 1))⟩,
      ⟨(some 17), (some (15, true)), .op (.bin .leq (.tmp 16) (.const (.int .i64 7)))⟩,
      ⟨(some 18), none, .op (.pick (.tmp 15) (.tmp 17) (.const (.bool false)))⟩,
      ⟨(some 4), none, .op (.move (.tmp 18))⟩])
    .ret))
def R29 : List RV := [.tmp 4]
theorem is29 : Is Try.prog (fun _ _ => false) 29 19 A29 R29 := ⟨Try.f29, Try.func29, rfl, by kernel_rfl, by kernel_rfl, Try.call29⟩
def A30l0 : ACode :=
  (.seq (.seq (.region [⟨(some 5), none, .op (.move (.tmp 1))⟩,
      ⟨(some 6), none, .op (.bin .geq (.tmp 5) (.const (.int .u64 128)))⟩])
    (.cond (.tmp 6) .skip (.exit 0)))
    (.block 1 (.seq (.region [⟨(some 7), none, .op (.move (.tmp 0))⟩,
      ⟨(some 8), none, .op (.move (.tmp 1))⟩,
      ⟨(some 9), none, .op (.conv .u8 (.tmp 8))⟩,
      ⟨(some 10), none, .op (.bin .or (.tmp 9) (.const (.int .u8 128)))⟩,
      ⟨(some 11), none, .op (.buildF [(.int .u8 0)] 1 [(0, (.tmp 10))])⟩,
      ⟨(some 12), none, .op (.app 5 1 1 (.tmp 7) (.tmp 11))⟩,
      ⟨(some 0), none, .op (.move (.tmp 12))⟩])
    (.region [⟨(some 13), none, .op (.move (.tmp 1))⟩,
      ⟨(some 14), none, .op (.bin .shr (.tmp 13) (.const (.int .u64 7)))⟩,
      ⟨(some 1), none, .op (.move (.tmp 14))⟩]))))
def A30 : ACode :=
  (.seq (.region [⟨(some 4), none, .op (.move (.const (.slice none 0 0)))⟩])
    (.seq (.block 0 (.loop A30l0))
    (.seq (.region [⟨(some 15), none, .op (.move (.tmp 0))⟩,
      ⟨(some 16), none, .op (.move (.tmp 1))⟩,
      ⟨(some 17), none, .op (.conv .u8 (.tmp 16))⟩,
      ⟨(some 18), none, .op (.buildF [(.int .u8 0)] 1 [(0, (.tmp 17))])⟩,
      ⟨(some 19), none, .op (.app 5 1 1 (.tmp 15) (.tmp 18))⟩,
      ⟨(some 4), none, .op (.move (.tmp 19))⟩])
    .ret)))
def R30 : List RV := [.tmp 4]
theorem is30 : Is Try.prog (fun _ _ => false) 30 20 A30 R30 := ⟨Try.f30, Try.func30, rfl, by kernel_rfl, by kernel_rfl, Try.call30⟩
def A31 : ACode :=
  (.seq (.region [⟨(some 2), none, .op (.move (.const (.int .u64 0)))⟩])
    (.seq (.seq (.region [⟨(some 3), none, .op (.move (.tmp 0))⟩,
      ⟨(some 4), none, .op (.bin .lss (.tmp 3) (.const (.int .i64 0)))⟩])
    (.cond (.tmp 4) (.seq (.region [⟨(some 5), none, .op (.move (.tmp 0))⟩,
      ⟨(some 6), none, .op (.bin .mul (.const (.int .i64 (-2))) (.tmp 5))⟩,
      ⟨(some 7), none, .op (.bin .sub (.tmp 6) (.const (.int .i64 1)))⟩,
      ⟨(some 8), none, .op (.conv .u64 (.tmp 7))⟩,
      ⟨(some 2), none, .op (.move (.tmp 8))⟩])
    .ret) .skip))
    (.seq (.region [⟨(some 9), none, .op (.move (.tmp 0))⟩,
      ⟨(some 10), none, .op (.bin .mul (.const (.int .i64 2)) (.tmp 9))⟩,
      ⟨(some 11), none, .op (.conv .u64 (.tmp 10))⟩,
      ⟨(some 2), none, .op (.move (.tmp 11))⟩])
    .ret)))
def R31 : List RV := [.tmp 2]
theorem is31 : Is Try.prog (fun _ _ => false) 31 12 A31 R31 := ⟨Try.f31, Try.func31, rfl, by kernel_rfl, by kernel_rfl, Try.call31⟩
def A32 : ACode :=
  (.seq (.region [⟨(some 2), none, .op (.move (.const (.slice none 0 0)))⟩])
    (.seq (.seq (.region [⟨(some 4), none, .op (.move (.tmp 0))⟩,
      ⟨(some 5), none, .op (.bin .lss (.tmp 4) (.const (.int .u64 128)))⟩])
    (.cond (.tmp 5) (.seq (.region [⟨(some 6), none, .op (.move (.tmp 0))⟩,
      ⟨(some 7), none, .op (.conv .u8 (.tmp 6))⟩,
      ⟨(some 8), none, .op (.buildF [(.int .u8 0)] 1 [(0, (.tmp 7))])⟩,
      ⟨(some 2), none, .op (.move (.tmp 8))⟩])
    .ret) .skip))
    (.seq (.region [⟨(some 9), none, .op (.move (.tmp 0))⟩,
      ⟨(some 10), none, .op (.bin .rem (.tmp 9) (.const (.int .u64 128)))⟩,
      ⟨(some 11), none, .op (.conv .u8 (.tmp 10))⟩,
      ⟨(some 12), none, .op (.bin .add (.tmp 11) (.const (.int .u8 128)))⟩,
      ⟨(some 13), none, .op (.buildO 5 [(.int .u8 0)] 1 [(0, (.tmp 12))])⟩,
      ⟨(some 3), none, .op (.move (.tmp 13))⟩])
    (.seq (.region [⟨(some 14), none, .op (.move (.tmp 3))⟩,
      ⟨(some 15), none, .op (.move (.tmp 0))⟩,
      ⟨(some 16), none, .op (.bin .quo (.tmp 15) (.const (.int .u64 128)))⟩,
      ⟨(some 17), none, .call (.func 32) [(.tmp 16)]⟩,
      ⟨(some 18), none, .op (.app 5 1 1 (.tmp 14) (.tmp 17))⟩,
      ⟨(some 3), none, .op (.move (.tmp 18))⟩])
    (.seq (.region [⟨(some 19), none, .op (.move (.tmp 3))⟩,
      ⟨(some 2), none, .op (.move (.tmp 19))⟩])
    .ret)))))
def R32 : List RV := [.tmp 2]
theorem is32 : Is Try.prog (fun r i => [(3, 4)].contains (r, i)) 32 20 A32 R32 := ⟨Try.f32, Try.func32, rfl, by kernel_rfl, by kernel_rfl, Try.call32⟩
def A33 : ACode :=
  (.seq (.region [⟨(some 2), none, .op (.move (.const (.int .u8 0)))⟩,
      ⟨(some 3), none, .op (.move (.const (.bool false)))⟩])
    (.seq (.seq (.region [⟨(some 4), none, .op (.load 1 false (.tmp 0))⟩,
      ⟨(some 5), none, .op (.load 1 false (.tmp 1))⟩,
      ⟨(some 6), none, .op (.len (.tmp 5))⟩,
      ⟨(some 7), none, .op (.bin .geq (.tmp 4) (.tmp 6))⟩])
    (.cond (.tmp 7) (.seq (.region [⟨(some 2), none, .op (.move (.const (.int .u8 0)))⟩,
      ⟨(some 3), none, .op (.move (.const (.bool false)))⟩])
    .ret) .skip))
    (.seq (.region [⟨(some 8), none, .op (.load 1 false (.tmp 0))⟩,
      ⟨(some 9), none, .op (.bin .add (.tmp 8) (.const (.int .i64 1)))⟩,
      ⟨none, none, .op (.store 1 (.tmp 0) (.tmp 9))⟩])
    (.seq (.region [⟨(some 10), none, .op (.load 1 false (.tmp 1))⟩,
      ⟨(some 11), none, .op (.load 1 false (.tmp 0))⟩,
      ⟨(some 12), none, .op (.bin .sub (.tmp 11) (.const (.int .i64 1)))⟩,
      ⟨(some 13), none, .op (.idxA 1 (.tmp 10) (.tmp 12))⟩,
      ⟨(some 14), none, .op (.load 1 false (.tmp 13))⟩,
      ⟨(some 2), none, .op (.move (.tmp 14))⟩,
      ⟨(some 3), none, .op (.move (.const (.bool true)))⟩])
    .ret))))
def R33 : List RV := [.tmp 2, .tmp 3]
theorem is33 : Is Try.prog (fun _ _ => false) 33 15 A33 R33 := ⟨Try.f33, Try.func33, rfl, by kernel_rfl, by kernel_rfl, Try.call33⟩
def A34l0 : ACode :=
  (.seq (.region [⟨(some 8), none, .op (.bin .lss (.tmp 7) (.const (.int .i64 5)))⟩])
    (.seq (.cond (.tmp 8) .skip (.exit 0))
    (.seq (.block 1 (.seq (.region [⟨(some 9), none, .op (.move (.tmp 7))⟩,
      ⟨(some 4), none, .op (.move (.tmp 9))⟩])
    (.seq (.region [⟨(some 11), none, .op (.load 1 false (.tmp 0))⟩,
      ⟨(some 12), none, .call (.tmp 11) []⟩,
      ⟨(some 10), none, .op (.move (.tmp 12))⟩,
      ⟨(some 13), none, .op (.ext (.tmp 10) 0)⟩,
      ⟨(some 14), none, .op (.ext (.tmp 10) 1)⟩,
      ⟨(some 5), none, .op (.move (.tmp 13))⟩,
      ⟨(some 6), none, .op (.move (.tmp 14))⟩])
    (.seq (.region [⟨(some 15), none, .op (.move (.tmp 3))⟩,
      ⟨(some 16), none, .op (.move (.tmp 5))⟩,
      ⟨(some 17), none, .op (.bin .and (.tmp 16) (.const (.int .u8 127)))⟩,
      ⟨(some 18), none, .op (.conv .u64 (.tmp 17))⟩,
      ⟨(some 19), none, .op (.move (.tmp 4))⟩,
      ⟨(some 20), none, .op (.bin .mul (.const (.int .i64 7)) (.tmp 19))⟩,
      ⟨(some 21), none, .op (.conv .u64 (.tmp 20))⟩,
      ⟨(some 22), none, .op (.bin .shl (.tmp 18) (.tmp 21))⟩,
      ⟨(some 23), none, .op (.bin .or (.tmp 15) (.tmp 22))⟩,
      ⟨(some 3), none, .op (.move (.tmp 23))⟩])
    (.seq (.seq (.region [⟨(some 24), none, .op (.move (.tmp 6))⟩,
      ⟨(some 25), none, .op (.un .not (.tmp 24))⟩,
      ⟨(some 26), none, .op (.move (.tmp 25))⟩,
      ⟨(some 27), (some (26, false)), .op (.move (.tmp 4))⟩,
      ⟨(some 28), (some (26, false)), .op (.bin .gtr (.tmp 27) (.const (.int .i64 0)))⟩,
      ⟨(some 29), (some (26, false)), .op (.move (.tmp 28))⟩,
      ⟨(some 30), (some (29, true)), .op (.move (.tmp 5))⟩,
      ⟨(some 31), (some (29, true)), .op (.bin .eql (.tmp 30) (.const (.int .u8 0)))⟩,
      ⟨(some 32), (some (26, false)), .op (.pick (.tmp 29) (.tmp 31) (.const (.bool false)))⟩,
      ⟨(some 33), none, .op (.pick (.tmp 26) (.const (.bool true)) (.tmp 32))⟩])
    (.cond (.tmp 33) (.seq (.region [⟨(some 1), none, .op (.move (.const (.int .u64 0)))⟩,
      ⟨(some 2), none, .op (.move (.const (.bool false)))⟩])
    .ret) .skip))
    (.seq (.region [⟨(some 34), none, .op (.move (.tmp 5))⟩,
      ⟨(some 35), none, .op (.bin .lss (.tmp 34) (.const (.int .u8 128)))⟩])
    (.cond (.tmp 35) (.seq (.region [⟨(some 36), none, .op (.move (.tmp 3))⟩,
      ⟨(some 1), none, .op (.move (.tmp 36))⟩,
      ⟨(some 2), none, .op (.move (.const (.bool true)))⟩])
    .ret) .skip)))))))
    (.region [⟨(some 37), none, .op (.bin .add (.tmp 7) (.const (.int .i64 1)))⟩,
      ⟨(some 7), none, .op (.move (.tmp 37))⟩]))))
def A34 : ACode :=
  (.seq (.region [⟨(some 1), none, .op (.move (.const (.int .u64 0)))⟩,
      ⟨(some 2), none, .op (.move (.const (.bool false)))⟩])
    (.seq (.region [⟨(some 3), none, .op (.move (.const (.int .u64 0)))⟩])
    (.seq (.seq (.region [⟨(some 7), none, .op (.move (.const (.int .i64 0)))⟩])
    (.block 0 (.loop A34l0)))
    (.seq (.region [⟨(some 1), none, .op (.move (.const (.int .u64 0)))⟩,
      ⟨(some 2), none, .op (.move (.const (.bool false)))⟩])
    .ret))))
def R34 : List RV := [.tmp 1, .tmp 2]
theorem is34 : Is Try.prog (fun _ _ => false) 34 38 A34 R34 := ⟨Try.f34, Try.func34, rfl, by kernel_rfl, by kernel_rfl, Try.call34⟩
def A35 : ACode :=
  (.seq (.region [⟨(some 2), none, .op (.move (.const (.int .i64 0)))⟩])
    (.seq (.seq (.region [⟨(some 3), none, .op (.move (.tmp 0))⟩,
      ⟨(some 4), none, .op (.bin .rem (.tmp 3) (.const (.int .u64 2)))⟩,
      ⟨(some 5), none, .op (.bin .eql (.tmp 4) (.const (.int .u64 1)))⟩])
    (.cond (.tmp 5) (.seq (.region [⟨(some 6), none, .op (.move (.tmp 0))⟩,
      ⟨(some 7), none, .op (.bin .quo (.tmp 6) (.const (.int .u64 2)))⟩,
      ⟨(some 8), none, .op (.conv .i64 (.tmp 7))⟩,
      ⟨(some 9), none, .op (.un .neg (.tmp 8))⟩,
      ⟨(some 10), none, .op (.bin .sub (.tmp 9) (.const (.int .i64 1)))⟩,
      ⟨(some 2), none, .op (.move (.tmp 10))⟩])
    .ret) .skip))
    (.seq (.region [⟨(some 11), none, .op (.move (.tmp 0))⟩,
      ⟨(some 12), none, .op (.bin .quo (.tmp 11) (.const (.int .u64 2)))⟩,
      ⟨(some 13), none, .op (.conv .i64 (.tmp 12))⟩,
      ⟨(some 2), none, .op (.move (.tmp 13))⟩])
    .ret)))
def R35 : List RV := [.tmp 2]
theorem is35 : Is Try.prog (fun _ _ => false) 35 14 A35 R35 := ⟨Try.f35, Try.func35, rfl, by kernel_rfl, by kernel_rfl, Try.call35⟩
def A36l0 : ACode :=
  (.seq (.seq (.region [⟨(some 9), none, .op (.move (.tmp 8))⟩,
      ⟨(some 10), none, .op (.bin .lss (.tmp 9) (.const (.int .i64 6)))⟩,
      ⟨(some 11), none, .op (.move (.tmp 10))⟩,
      ⟨(some 12), (some (11, true)), .op (.move (.tmp 1))⟩,
      ⟨(some 13), (some (11, true)), .op (.move (.tmp 8))⟩,
      ⟨(some 14), (some (11, true)), .op (.bin .add (.tmp 12) (.tmp 13))⟩,
      ⟨(some 15), (some (11, true)), .op (.move (.tmp 0))⟩,
      ⟨(some 16), (some (11, true)), .op (.len (.tmp 15))⟩,
      ⟨(some 17), (some (11, true)), .op (.bin .lss (.tmp 14) (.tmp 16))⟩,
      ⟨(some 18), none, .op (.pick (.tmp 11) (.tmp 17) (.const (.bool false)))⟩])
    (.cond (.tmp 18) .skip (.exit 0)))
    (.seq (.block 1 (.seq (.region [⟨(some 21), none, .op (.move (.tmp 7))⟩,
      ⟨(some 22), none, .op (.move (.tmp 0))⟩,
      ⟨(some 23), none, .op (.move (.tmp 1))⟩,
      ⟨(some 24), none, .op (.move (.tmp 8))⟩,
      ⟨(some 25), none, .op (.bin .add (.tmp 23) (.tmp 24))⟩,
      ⟨(some 26), none, .op (.idxA 1 (.tmp 22) (.tmp 25))⟩,
      ⟨(some 27), none, .op (.load 1 false (.tmp 26))⟩,
      ⟨(some 28), none, .op (.bin .rem (.tmp 27) (.const (.int .u8 128)))⟩,
      ⟨(some 29), none, .op (.conv .u64 (.tmp 28))⟩,
      ⟨(some 30), none, .op (.move (.tmp 8))⟩,
      ⟨(some 31), none, .op (.bin .mul (.const (.int .i64 7)) (.tmp 30))⟩,
      ⟨(some 32), none, .op (.conv .u64 (.tmp 31))⟩,
      ⟨(some 33), none, .op (.bin .shl (.tmp 29) (.tmp 32))⟩,
      ⟨(some 34), none, .op (.bin .add (.tmp 21) (.tmp 33))⟩,
      ⟨(some 7), none, .op (.move (.tmp 34))⟩])
    (.seq (.region [⟨(some 35), none, .op (.move (.tmp 0))⟩,
      ⟨(some 36), none, .op (.move (.tmp 1))⟩,
      ⟨(some 37), none, .op (.move (.tmp 8))⟩,
      ⟨(some 38), none, .op (.bin .add (.tmp 36) (.tmp 37))⟩,
      ⟨(some 39), none, .op (.idxA 1 (.tmp 35) (.tmp 38))⟩,
      ⟨(some 40), none, .op (.load 1 false (.tmp 39))⟩,
      ⟨(some 41), none, .op (.bin .lss (.tmp 40) (.const (.int .u8 128)))⟩])
    (.cond (.tmp 41) (.seq (.region [⟨(some 42), none, .op (.move (.tmp 7))⟩,
      ⟨(some 43), none, .op (.move (.tmp 1))⟩,
      ⟨(some 44), none, .op (.move (.tmp 8))⟩,
      ⟨(some 45), none, .op (.bin .add (.tmp 43) (.tmp 44))⟩,
      ⟨(some 46), none, .op (.bin .add (.tmp 45) (.const (.int .i64 1)))⟩,
      ⟨(some 4), none, .op (.move (.tmp 42))⟩,
      ⟨(some 5), none, .op (.move (.tmp 46))⟩,
      ⟨(some 6), none, .op (.move (.const (.bool true)))⟩])
    .ret) .skip))))
    (.region [⟨(some 19), none, .op (.move (.tmp 8))⟩,
      ⟨(some 20), none, .op (.bin .add (.tmp 19) (.const (.int .i64 1)))⟩,
      ⟨(some 8), none, .op (.move (.tmp 20))⟩])))
def A36 : ACode :=
  (.seq (.region [⟨(some 4), none, .op (.move (.const (.int .u64 0)))⟩,
      ⟨(some 5), none, .op (.move (.const (.int .i64 0)))⟩,
      ⟨(some 6), none, .op (.move (.const (.bool false)))⟩])
    (.seq (.region [⟨(some 7), none, .op (.move (.const (.int .u64 0)))⟩])
    (.seq (.seq (.region [⟨(some 8), none, .op (.move (.const (.int .i64 0)))⟩])
    (.block 0 (.loop A36l0)))
    (.seq (.region [⟨(some 4), none, .op (.move (.const (.int .u64 0)))⟩,
      ⟨(some 5), none, .op (.move (.const (.int .i64 0)))⟩,
      ⟨(some 6), none, .op (.move (.const (.bool false)))⟩])
    .ret))))
def R36 : List RV := [.tmp 4, .tmp 5, .tmp 6]
theorem is36 : Is Try.prog (fun _ _ => false) 36 47 A36 R36 := ⟨Try.f36, Try.func36, rfl, by kernel_rfl, by kernel_rfl, Try.call36⟩
def A37 : ACode :=
  (.seq (.region [⟨(some 4), none, .op (.move (.const (.slice none 0 0)))⟩])
    (.seq (.seq (.region [⟨(some 5), none, .op (.move (.tmp 1))⟩,
      ⟨(some 6), none, .op (.bin .lss (.tmp 5) (.const (.int .i64 0)))⟩])
    (.cond (.tmp 6) (.region [⟨(some 7), none, .op (.mkif 9 (.const (.string ⟨#[99, 97, 110, 110, 111, 116, 32, 98, 101, 32, 110, 101, 103, 97, 116, 105, 118, 101]⟩)))⟩,
      ⟨none, none, .op (.bad)⟩]) .skip))
    (.seq (.seq (.region [⟨(some 8), none, .op (.move (.tmp 1))⟩,
      ⟨(some 9), none, .op (.move (.tmp 0))⟩,
      ⟨(some 10), none, .op (.cap (.tmp 9))⟩,
      ⟨(some 11), none, .op (.move (.tmp 0))⟩,
      ⟨(some 12), none, .op (.len (.tmp 11))⟩,
      ⟨(some 13), none, .op (.bin .sub (.tmp 10) (.tmp 12))⟩,
      ⟨(some 14), none, .op (.bin .sub (.tmp 8) (.tmp 13))⟩,
      ⟨(some 1), none, .op (.move (.tmp 14))⟩])
    (.seq (.region [⟨(some 15), none, .op (.move (.tmp 1))⟩,
      ⟨(some 16), none, .op (.bin .gtr (.tmp 15) (.const (.int .i64 0)))⟩])
    (.cond (.tmp 16) (.region [⟨(some 17), none, .op (.move (.tmp 0))⟩,
      ⟨(some 18), none, .op (.move (.tmp 0))⟩,
      ⟨(some 19), none, .op (.cap (.tmp 18))⟩,
      ⟨(some 20), none, .op (.slc 2 (.tmp 17) none (some (.tmp 19)) none)⟩,
      ⟨(some 21), none, .op (.move (.tmp 1))⟩,
      ⟨(some 22), none, .op (.appZ 40 [(.int .u64 0), (.int .i64 0)] 16 (.tmp 20) (.tmp 21))⟩,
      ⟨(some 23), none, .op (.move (.tmp 0))⟩,
      ⟨(some 24), none, .op (.len (.tmp 23))⟩,
      ⟨(some 25), none, .op (.slc 2 (.tmp 22) none (some (.tmp 24)) none)⟩,
      ⟨(some 0), none, .op (.move (.tmp 25))⟩]) .skip)))
    (.seq (.region [⟨(some 26), none, .op (.move (.tmp 0))⟩,
      ⟨(some 4), none, .op (.move (.tmp 26))⟩])
    .ret))))
def R37 : List RV := [.tmp 4]
theorem is37 : Is Try.prog (fun _ _ => false) 37 27 A37 R37 := ⟨Try.f37, Try.func37, rfl, by kernel_rfl, by kernel_rfl, Try.call37⟩
def A38l0 : ACode :=
  (.seq (.region [⟨(some 9), none, .op (.bin .lss (.tmp 8) (.tmp 7))⟩])
    (.seq (.cond (.tmp 9) .skip (.exit 0))
    (.seq (.block 1 (.seq (.region [⟨(some 10), none, .op (.idxA 2 (.tmp 6) (.tmp 8))⟩,
      ⟨(some 11), none, .op (.load 2 true (.tmp 10))⟩,
      ⟨(some 5), none, .op (.alloc [(.int .u64 0), (.int .i64 0)])⟩,
      ⟨none, none, .op (.store 2 (.tmp 5) (.tmp 11))⟩])
    (.seq (.seq (.region [⟨(some 12), none, .op (.move (.tmp 0))⟩,
      ⟨(some 13), none, .op (.fieldA 0 (.tmp 5))⟩,
      ⟨(some 14), none, .op (.load 1 false (.tmp 13))⟩,
      ⟨(some 15), none, .op (.fieldA 0 (.tmp 3))⟩,
      ⟨(some 16), none, .op (.load 1 false (.tmp 15))⟩,
      ⟨(some 17), none, .op (.bin .sub (.tmp 14) (.tmp 16))⟩,
      ⟨(some 18), none, .op (.fieldA 1 (.tmp 5))⟩,
      ⟨(some 19), none, .op (.load 1 false (.tmp 18))⟩,
      ⟨(some 20), none, .op (.fieldA 1 (.tmp 3))⟩,
      ⟨(some 21), none, .op (.load 1 false (.tmp 20))⟩,
      ⟨(some 22), none, .op (.bin .sub (.tmp 19) (.tmp 21))⟩,
      ⟨(some 23), none, .call (.tmp 12) [(.tmp 17), (.tmp 22)]⟩,
      ⟨(some 24), none, .op (.un .not (.tmp 23))⟩])
    (.cond (.tmp 24) .ret .skip))
    (.region [⟨(some 25), none, .op (.load 2 true (.tmp 5))⟩,
      ⟨none, none, .op (.store 2 (.tmp 3) (.tmp 25))⟩]))))
    (.region [⟨(some 26), none, .op (.bin .add (.tmp 8) (.const (.int .i64 1)))⟩,
      ⟨(some 8), none, .op (.move (.tmp 26))⟩]))))
def A38 : ACode :=
  (.seq (.region [⟨(some 3), none, .op (.alloc [(.int .u64 0), (.int .i64 0)])⟩])
    (.seq (.region [⟨(some 6), none, .op (.load 1 false (.tmp 1))⟩,
      ⟨(some 7), none, .op (.len (.tmp 6))⟩,
      ⟨(some 8), none, .op (.move (.const (.int .i64 0)))⟩])
    (.block 0 (.loop A38l0))))
def R38 : List RV := []
theorem is38 : Is Try.prog (fun _ _ => false) 38 27 A38 R38 := ⟨Try.f38, Try.func38, rfl, by kernel_rfl, by kernel_rfl, Try.call38⟩
end Go.Proofs.Ytmnlfgnpmpebmaa
