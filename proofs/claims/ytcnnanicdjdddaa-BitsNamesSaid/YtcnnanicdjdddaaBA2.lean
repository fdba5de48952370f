/- The abstract code of the functions that the statements reach: operations. -/
import Derived.Test.YtcnnanicdjdddaaBA1
namespace Go.Proofs.Ytcnnanicdjdddaa
open Go Go.Ab Go.Proofs
set_option maxRecDepth 100000
def A12l0 : ACode :=
  (.seq (.region [⟨(some 36), none, .op (.bin .lss (.tmp 35) (.tmp 34))⟩])
    (.seq (.cond (.tmp 36) .skip (.exit 0))
    (.seq (.block 1 (.seq (.region [⟨(some 37), none, .op (.move (.tmp 35))⟩,
      ⟨(some 9), none, .op (.move (.tmp 37))⟩])
    (.region [⟨(some 38), none, .op (.move (.tmp 7))⟩,
      ⟨(some 39), none, .op (.move (.tmp 1))⟩,
      ⟨(some 40), none, .op (.move (.tmp 8))⟩,
      ⟨(some 41), none, .op (.bin .sub (.tmp 40) (.const (.int .i64 1)))⟩,
      ⟨(some 42), none, .op (.move (.tmp 9))⟩,
      ⟨(some 43), none, .op (.bin .sub (.tmp 41) (.tmp 42))⟩,
      ⟨(some 44), none, .op (.bin .mul (.const (.int .i64 4)) (.tmp 43))⟩,
      ⟨(some 45), none, .op (.bin .shr (.tmp 39) (.tmp 44))⟩,
      ⟨(some 46), none, .op (.bin .and (.tmp 45) (.const (.int .u64 15)))⟩,
      ⟨(some 47), none, .op (.idxs (.const (.string ⟨#[48, 49, 50, 51, 52, 53, 54, 55, 56, 57, 97, 98, 99, 100, 101, 102]⟩)) (.tmp 46))⟩,
      ⟨(some 48), none, .op (.buildF [(.int .u8 0)] 1 [(0, (.tmp 47))])⟩,
      ⟨(some 49), none, .op (.app 5 1 1 (.tmp 38) (.tmp 48))⟩,
      ⟨(some 7), none, .op (.move (.tmp 49))⟩])))
    (.region [⟨(some 50), none, .op (.bin .add (.tmp 35) (.const (.int .i64 1)))⟩,
      ⟨(some 35), none, .op (.move (.tmp 50))⟩]))))
def A12 : ACode :=
  (.seq (.region [⟨(some 4), none, .op (.move (.const (.string ⟨#[]⟩)))⟩,
      ⟨(some 5), none, .op (.move (.const (.int .i64 0)))⟩])
    (.seq (.seq (.region [⟨(some 10), none, .op (.move (.tmp 0))⟩,
      ⟨(some 11), none, .op (.move (.tmp 1))⟩,
      ⟨(some 12), none, .op (.buildF [(.int .u64 0)] 1 [(0, (.tmp 11))])⟩,
      ⟨(some 13), none, .call (.func 44) [(.tmp 10), (.tmp 12)]⟩,
      ⟨(some 6), none, .op (.move (.tmp 13))⟩])
    (.seq (.region [⟨(some 14), none, .op (.move (.tmp 6))⟩,
      ⟨(some 15), none, .op (.bin .neq (.tmp 14) (.const (.int .i64 0)))⟩])
    (.cond (.tmp 15) (.seq (.region [⟨(some 16), none, .op (.move (.tmp 6))⟩,
      ⟨(some 4), none, .op (.move (.const (.string ⟨#[]⟩)))⟩,
      ⟨(some 5), none, .op (.move (.tmp 16))⟩])
    .ret) .skip)))
    (.seq (.region [⟨(some 7), none, .op (.move (.const (.slice none 0 0)))⟩])
    (.seq (.seq (.region [⟨(some 17), none, .op (.move (.tmp 0))⟩,
      ⟨(some 18), none, .op (.bin .gtr (.tmp 17) (.const (.int .i64 9)))⟩])
    (.cond (.tmp 18) (.region [⟨(some 19), none, .op (.move (.tmp 7))⟩,
      ⟨(some 20), none, .op (.move (.tmp 0))⟩,
      ⟨(some 21), none, .op (.bin .quo (.tmp 20) (.const (.int .i64 10)))⟩,
      ⟨(some 22), none, .op (.idxs (.const (.string ⟨#[48, 49, 50, 51, 52, 53, 54, 55, 56, 57, 97, 98, 99, 100, 101, 102]⟩)) (.tmp 21))⟩,
      ⟨(some 23), none, .op (.buildF [(.int .u8 0)] 1 [(0, (.tmp 22))])⟩,
      ⟨(some 24), none, .op (.app 5 1 1 (.tmp 19) (.tmp 23))⟩,
      ⟨(some 7), none, .op (.move (.tmp 24))⟩]) .skip))
    (.seq (.region [⟨(some 25), none, .op (.move (.tmp 7))⟩,
      ⟨(some 26), none, .op (.move (.tmp 0))⟩,
      ⟨(some 27), none, .op (.bin .rem (.tmp 26) (.const (.int .i64 10)))⟩,
      ⟨(some 28), none, .op (.idxs (.const (.string ⟨#[48, 49, 50, 51, 52, 53, 54, 55, 56, 57, 97, 98, 99, 100, 101, 102]⟩)) (.tmp 27))⟩,
      ⟨(some 29), none, .op (.buildF [(.int .u8 0)] 2 [(0, (.tmp 28)), (1, (.const (.int .u8 58)))])⟩,
      ⟨(some 30), none, .op (.app 5 1 1 (.tmp 25) (.tmp 29))⟩,
      ⟨(some 7), none, .op (.move (.tmp 30))⟩])
    (.seq (.region [⟨(some 31), none, .op (.move (.tmp 0))⟩,
      ⟨(some 32), none, .op (.bin .add (.tmp 31) (.const (.int .i64 3)))⟩,
      ⟨(some 33), none, .op (.bin .quo (.tmp 32) (.const (.int .i64 4)))⟩,
      ⟨(some 8), none, .op (.move (.tmp 33))⟩])
    (.seq (.seq (.region [⟨(some 34), none, .op (.move (.tmp 8))⟩,
      ⟨(some 35), none, .op (.move (.const (.int .i64 0)))⟩])
    (.block 0 (.loop A12l0)))
    (.seq (.region [⟨(some 51), none, .op (.move (.tmp 7))⟩,
      ⟨(some 52), none, .op (.convBS (.tmp 51))⟩,
      ⟨(some 4), none, .op (.move (.tmp 52))⟩,
      ⟨(some 5), none, .op (.move (.const (.int .i64 0)))⟩])
    .ret))))))))
def R12 : List RV := [.tmp 4, .tmp 5]
theorem is12 : Is Try.prog (fun _ _ => false) 12 53 A12 R12 := ⟨Try.f12, Try.func12, rfl, by kernel_rfl, by kernel_rfl, Try.call12⟩
def A36 : ACode :=
  (.seq (.region [⟨(some 4), none, .op (.move (.const (.int .i64 0)))⟩,
      ⟨(some 5), none, .op (.move (.const (.int .u64 0)))⟩])
    (.seq (.region [⟨(some 7), none, .op (.move (.tmp 0))⟩,
      ⟨(some 8), none, .op (.bin .rem (.tmp 7) (.const (.int .u8 64)))⟩,
      ⟨(some 9), none, .op (.conv .i64 (.tmp 8))⟩,
      ⟨(some 10), none, .op (.bin .add (.tmp 9) (.const (.int .i64 1)))⟩,
      ⟨(some 6), none, .op (.move (.tmp 10))⟩])
    (.seq (.region [⟨(some 11), none, .op (.move (.tmp 6))⟩,
      ⟨(some 12), none, .op (.move (.tmp 1))⟩,
      ⟨(some 13), none, .op (.move (.tmp 6))⟩,
      ⟨(some 14), none, .op (.conv .u64 (.tmp 13))⟩,
      ⟨(some 15), none, .op (.bin .sub (.const (.int .u64 64)) (.tmp 14))⟩,
      ⟨(some 16), none, .op (.bin .shr (.const (.int .u64 18446744073709551615)) (.tmp 15))⟩,
      ⟨(some 17), none, .op (.bin .and (.tmp 12) (.tmp 16))⟩,
      ⟨(some 4), none, .op (.move (.tmp 11))⟩,
      ⟨(some 5), none, .op (.move (.tmp 17))⟩])
    .ret)))
def R36 : List RV := [.tmp 4, .tmp 5]
theorem is36 : Is Try.prog (fun _ _ => false) 36 18 A36 R36 := ⟨Try.f36, Try.func36, rfl, by kernel_rfl, by kernel_rfl, Try.call36⟩
def A37 : ACode :=
  (.seq (.region [⟨(some 8), none, .op (.move (.const (.int .u64 0)))⟩])
    (.seq (.region [⟨(some 12), none, .op (.move (.tmp 0))⟩,
      ⟨(some 13), none, .op (.move (.tmp 1))⟩,
      ⟨(some 14), none, .op (.move (.tmp 2))⟩,
      ⟨(some 15), none, .op (.move (.tmp 3))⟩,
      ⟨(some 16), none, .call (.func 34) [(.tmp 12), (.tmp 13), (.tmp 14), (.tmp 15)]⟩,
      ⟨(some 11), none, .op (.move (.tmp 16))⟩,
      ⟨(some 17), none, .op (.ext (.tmp 11) 0)⟩,
      ⟨(some 18), none, .op (.ext (.tmp 11) 1)⟩,
      ⟨(some 9), none, .op (.move (.tmp 17))⟩,
      ⟨(some 10), none, .op (.move (.tmp 18))⟩])
    (.seq (.seq (.region [⟨(some 19), none, .op (.move (.tmp 10))⟩,
      ⟨(some 20), none, .op (.bin .neq (.tmp 19) (.const (.int .i64 0)))⟩])
    (.cond (.tmp 20) (.seq (.region [⟨(some 21), none, .op (.move (.tmp 1))⟩,
      ⟨(some 22), none, .call (.func 24) [(.tmp 21)]⟩,
      ⟨(some 23), none, .op (.bin .add (.tmp 22) (.const (.int .u64 1)))⟩,
      ⟨(some 8), none, .op (.move (.tmp 23))⟩])
    .ret) .skip))
    (.seq (.region [⟨(some 24), none, .op (.move (.tmp 9))⟩,
      ⟨(some 8), none, .op (.move (.tmp 24))⟩])
    .ret))))
def R37 : List RV := [.tmp 8]
theorem is37 : Is Try.prog (fun _ _ => false) 37 25 A37 R37 := ⟨Try.f37, Try.func37, rfl, by kernel_rfl, by kernel_rfl, Try.call37⟩
def A38 : ACode :=
  (.seq (.region [⟨(some 0), none, .op (.move (.const (.bool false)))⟩])
    (.seq (.region [⟨(some 6), none, .call (.func 18) [(.const (.int .i64 8)), (.const (.int .u64 200))]⟩,
      ⟨(some 5), none, .op (.move (.tmp 6))⟩,
      ⟨(some 7), none, .op (.ext (.tmp 5) 0)⟩,
      ⟨(some 8), none, .op (.ext (.tmp 5) 1)⟩,
      ⟨(some 1), none, .op (.move (.tmp 7))⟩,
      ⟨(some 2), none, .op (.move (.tmp 8))⟩])
    (.seq (.region [⟨(some 10), none, .call (.func 12) [(.const (.int .i64 8)), (.const (.int .u64 15))]⟩,
      ⟨(some 9), none, .op (.move (.tmp 10))⟩,
      ⟨(some 11), none, .op (.ext (.tmp 9) 0)⟩,
      ⟨(some 12), none, .op (.ext (.tmp 9) 1)⟩,
      ⟨(some 3), none, .op (.move (.tmp 11))⟩,
      ⟨(some 4), none, .op (.move (.tmp 12))⟩])
    (.seq (.region [⟨(some 13), none, .call (.func 37) [(.const (.int .u8 5)), (.const (.int .i64 8)), (.const (.int .u64 200)), (.const (.int .u64 100))]⟩,
      ⟨(some 14), none, .op (.bin .eql (.tmp 13) (.const (.int .u64 44)))⟩,
      ⟨(some 15), none, .op (.move (.tmp 14))⟩,
      ⟨(some 16), (some (15, true)), .call (.func 37) [(.const (.int .u8 13)), (.const (.int .i64 8)), (.const (.int .u64 200)), (.const (.int .u64 4))]⟩,
      ⟨(some 17), (some (15, true)), .op (.bin .eql (.tmp 16) (.const (.int .u64 252)))⟩,
      ⟨(some 18), none, .op (.pick (.tmp 15) (.tmp 17) (.const (.bool false)))⟩,
      ⟨(some 19), none, .op (.move (.tmp 18))⟩,
      ⟨(some 20), (some (19, true)), .call (.func 37) [(.const (.int .u8 14)), (.const (.int .i64 8)), (.const (.int .u64 7)), (.const (.int .u64 0))]⟩,
      ⟨(some 21), (some (19, true)), .op (.bin .eql (.tmp 20) (.const (.int .u64 255)))⟩,
      ⟨(some 22), none, .op (.pick (.tmp 19) (.tmp 21) (.const (.bool false)))⟩,
      ⟨(some 23), none, .op (.move (.tmp 22))⟩,
      ⟨(some 24), (some (23, true)), .op (.move (.tmp 2))⟩,
      ⟨(some 25), (some (23, true)), .op (.bin .eql (.tmp 24) (.const (.int .i64 0)))⟩,
      ⟨(some 26), none, .op (.pick (.tmp 23) (.tmp 25) (.const (.bool false)))⟩,
      ⟨(some 27), none, .op (.move (.tmp 26))⟩,
      ⟨(some 28), (some (27, true)), .op (.move (.tmp 1))⟩,
      ⟨(some 29), (some (27, true)), .op (.bin .eql (.tmp 28) (.const (.int .i64 (-56))))⟩,
      ⟨(some 30), none, .op (.pick (.tmp 27) (.tmp 29) (.const (.bool false)))⟩,
      ⟨(some 31), none, .op (.move (.tmp 30))⟩,
      ⟨(some 32), (some (31, true)), .op (.move (.tmp 4))⟩,
      ⟨(some 33), (some (31, true)), .op (.bin .eql (.tmp 32) (.const (.int .i64 0)))⟩,
      ⟨(some 34), none, .op (.pick (.tmp 31) (.tmp 33) (.const (.bool false)))⟩,
      ⟨(some 35), none, .op (.move (.tmp 34))⟩,
      ⟨(some 36), (some (35, true)), .op (.move (.tmp 3))⟩,
      ⟨(some 37), (some (35, true)), .op (.bin .eql (.tmp 36) (.const (.string ⟨#[56, 58, 48, 102]⟩)))⟩,
      ⟨(some 38), none, .op (.pick (.tmp 35) (.tmp 37) (.const (.bool false)))⟩,
      ⟨(some 0), none, .op (.move (.tmp 38))⟩])
    .ret))))
def R38 : List RV := [.tmp 0]
theorem is38 : Is Try.prog (fun _ _ => false) 38 39 A38 R38 := ⟨Try.f38, Try.func38, rfl, by kernel_rfl, by kernel_rfl, Try.call38⟩
def A34 : ACode :=
  (.seq (.region [⟨(some 8), none, .op (.move (.const (.int .u64 0)))⟩,
      ⟨(some 9), none, .op (.move (.const (.int .i64 0)))⟩])
    (.seq (.seq (.region [⟨(some 11), none, .op (.move (.tmp 1))⟩,
      ⟨(some 12), none, .call (.func 48) [(.tmp 11)]⟩,
      ⟨(some 13), none, .op (.un .not (.tmp 12))⟩])
    (.cond (.tmp 13) (.seq (.region [⟨(some 8), none, .op (.move (.const (.int .u64 0)))⟩,
      ⟨(some 9), none, .op (.move (.const (.int .i64 14)))⟩])
    .ret) .skip))
    (.seq (.seq (.region [⟨(some 14), none, .op (.move (.tmp 0))⟩,
      ⟨(some 15), none, .op (.bin .lss (.tmp 14) (.const (.int .u8 5)))⟩,
      ⟨(some 16), none, .op (.move (.tmp 15))⟩,
      ⟨(some 17), (some (16, false)), .op (.move (.tmp 0))⟩,
      ⟨(some 18), (some (16, false)), .op (.bin .gtr (.tmp 17) (.const (.int .u8 18)))⟩,
      ⟨(some 19), none, .op (.pick (.tmp 16) (.const (.bool true)) (.tmp 18))⟩])
    (.cond (.tmp 19) (.seq (.region [⟨(some 8), none, .op (.move (.const (.int .u64 0)))⟩,
      ⟨(some 9), none, .op (.move (.const (.int .i64 2)))⟩])
    .ret) .skip))
    (.seq (.seq (.region [⟨(some 20), none, .op (.move (.tmp 1))⟩,
      ⟨(some 21), none, .op (.move (.tmp 2))⟩,
      ⟨(some 22), none, .op (.move (.tmp 3))⟩,
      ⟨(some 23), none, .op (.buildF [(.int .u64 0)] 2 [(0, (.tmp 21)), (1, (.tmp 22))])⟩,
      ⟨(some 24), none, .call (.func 44) [(.tmp 20), (.tmp 23)]⟩,
      ⟨(some 10), none, .op (.move (.tmp 24))⟩])
    (.seq (.region [⟨(some 25), none, .op (.move (.tmp 10))⟩,
      ⟨(some 26), none, .op (.bin .neq (.tmp 25) (.const (.int .i64 0)))⟩])
    (.cond (.tmp 26) (.seq (.region [⟨(some 27), none, .op (.move (.tmp 10))⟩,
      ⟨(some 8), none, .op (.move (.const (.int .u64 0)))⟩,
      ⟨(some 9), none, .op (.move (.tmp 27))⟩])
    .ret) .skip)))
    (.seq (.region [⟨(some 28), none, .op (.move (.tmp 0))⟩,
      ⟨(some 29), none, .call (.func 55) [(.tmp 28)]⟩,
      ⟨(some 30), none, .op (.move (.tmp 1))⟩,
      ⟨(some 31), none, .op (.move (.tmp 2))⟩,
      ⟨(some 32), none, .op (.move (.tmp 3))⟩,
      ⟨(some 33), none, .call (.tmp 29) [(.tmp 30), (.tmp 31), (.tmp 32)]⟩,
      ⟨(some 34), none, .op (.move (.tmp 1))⟩,
      ⟨(some 35), none, .call (.func 24) [(.tmp 34)]⟩,
      ⟨(some 36), none, .op (.bin .and (.tmp 33) (.tmp 35))⟩,
      ⟨(some 8), none, .op (.move (.tmp 36))⟩,
      ⟨(some 9), none, .op (.move (.const (.int .i64 0)))⟩])
    .ret)))))
def R34 : List RV := [.tmp 8, .tmp 9]
theorem is34 : Is Try.prog (fun _ _ => false) 34 37 A34 R34 := ⟨Try.f34, Try.func34, rfl, by kernel_rfl, by kernel_rfl, Try.call34⟩
def A32 : ACode :=
  (.seq (.region [⟨(some 6), none, .op (.move (.const (.int .u64 0)))⟩,
      ⟨(some 7), none, .op (.move (.const (.int .i64 0)))⟩])
    (.seq (.seq (.region [⟨(some 9), none, .op (.move (.tmp 1))⟩,
      ⟨(some 10), none, .call (.func 48) [(.tmp 9)]⟩,
      ⟨(some 11), none, .op (.un .not (.tmp 10))⟩])
    (.cond (.tmp 11) (.seq (.region [⟨(some 6), none, .op (.move (.const (.int .u64 0)))⟩,
      ⟨(some 7), none, .op (.move (.const (.int .i64 14)))⟩])
    .ret) .skip))
    (.seq (.seq (.region [⟨(some 12), none, .op (.move (.tmp 0))⟩,
      ⟨(some 13), none, .op (.bin .neq (.tmp 12) (.const (.int .u8 3)))⟩,
      ⟨(some 14), none, .op (.move (.tmp 13))⟩,
      ⟨(some 15), (some (14, true)), .op (.move (.tmp 0))⟩,
      ⟨(some 16), (some (14, true)), .op (.bin .neq (.tmp 15) (.const (.int .u8 4)))⟩,
      ⟨(some 17), none, .op (.pick (.tmp 14) (.tmp 16) (.const (.bool false)))⟩])
    (.cond (.tmp 17) (.seq (.region [⟨(some 6), none, .op (.move (.const (.int .u64 0)))⟩,
      ⟨(some 7), none, .op (.move (.const (.int .i64 2)))⟩])
    .ret) .skip))
    (.seq (.seq (.region [⟨(some 18), none, .op (.move (.tmp 1))⟩,
      ⟨(some 19), none, .op (.move (.tmp 2))⟩,
      ⟨(some 20), none, .op (.buildF [(.int .u64 0)] 1 [(0, (.tmp 19))])⟩,
      ⟨(some 21), none, .call (.func 44) [(.tmp 18), (.tmp 20)]⟩,
      ⟨(some 8), none, .op (.move (.tmp 21))⟩])
    (.seq (.region [⟨(some 22), none, .op (.move (.tmp 8))⟩,
      ⟨(some 23), none, .op (.bin .neq (.tmp 22) (.const (.int .i64 0)))⟩])
    (.cond (.tmp 23) (.seq (.region [⟨(some 24), none, .op (.move (.tmp 8))⟩,
      ⟨(some 6), none, .op (.move (.const (.int .u64 0)))⟩,
      ⟨(some 7), none, .op (.move (.tmp 24))⟩])
    .ret) .skip)))
    (.seq (.seq (.region [⟨(some 25), none, .op (.move (.tmp 0))⟩,
      ⟨(some 26), none, .op (.bin .eql (.tmp 25) (.const (.int .u8 3)))⟩])
    (.cond (.tmp 26) (.seq (.region [⟨(some 27), none, .op (.move (.tmp 2))⟩,
      ⟨(some 28), none, .op (.un .xor (.tmp 27))⟩,
      ⟨(some 29), none, .op (.move (.tmp 1))⟩,
      ⟨(some 30), none, .call (.func 24) [(.tmp 29)]⟩,
      ⟨(some 31), none, .op (.bin .and (.tmp 28) (.tmp 30))⟩,
      ⟨(some 6), none, .op (.move (.tmp 31))⟩,
      ⟨(some 7), none, .op (.move (.const (.int .i64 0)))⟩])
    .ret) .skip))
    (.seq (.region [⟨(some 32), none, .op (.move (.tmp 2))⟩,
      ⟨(some 33), none, .op (.un .neg (.tmp 32))⟩,
      ⟨(some 34), none, .op (.move (.tmp 1))⟩,
      ⟨(some 35), none, .call (.func 24) [(.tmp 34)]⟩,
      ⟨(some 36), none, .op (.bin .and (.tmp 33) (.tmp 35))⟩,
      ⟨(some 6), none, .op (.move (.tmp 36))⟩,
      ⟨(some 7), none, .op (.move (.const (.int .i64 0)))⟩])
    .ret))))))
def R32 : List RV := [.tmp 6, .tmp 7]
theorem is32 : Is Try.prog (fun _ _ => false) 32 37 A32 R32 := ⟨Try.f32, Try.func32, rfl, by kernel_rfl, by kernel_rfl, Try.call32⟩
def A55 : ACode :=
  (.seq (.region [⟨(some 2), none, .op (.move (.const .nilFunc))⟩])
    (.seq (.region [⟨(some 4), none, .op (.build [.nilF, .nilF, .nilF, .nilF, .nilF, .nilF, .nilF, .nilF, .nilF, .nilF, .nilF, .nilF, .nilF, .nilF, .nilF, .nilF, .nilF, .nilF, .nilF] [(5, 1, (.func 62)), (6, 1, (.func 63)), (7, 1, (.func 64)), (8, 1, (.func 65)), (9, 1, (.func 66)), (10, 1, (.func 67)), (11, 1, (.func 68)), (12, 1, (.func 70)), (13, 1, (.func 71)), (14, 1, (.func 72)), (15, 1, (.func 73)), (16, 1, (.func 74)), (17, 1, (.func 76)), (18, 1, (.func 77))])⟩,
      ⟨(some 3), none, .op (.alloc [.nilF, .nilF, .nilF, .nilF, .nilF, .nilF, .nilF, .nilF, .nilF, .nilF, .nilF, .nilF, .nilF, .nilF, .nilF, .nilF, .nilF, .nilF, .nilF])⟩,
      ⟨none, none, .op (.store 19 (.tmp 3) (.tmp 4))⟩])
    (.seq (.region [⟨(some 5), none, .op (.move (.tmp 0))⟩,
      ⟨(some 6), none, .op (.idxR 19 1 (.tmp 3) (.tmp 5))⟩,
      ⟨(some 7), none, .op (.load 1 false (.tmp 6))⟩,
      ⟨(some 2), none, .op (.move (.tmp 7))⟩])
    .ret)))
def R55 : List RV := [.tmp 2]
theorem is55 : Is Try.prog (fun _ _ => false) 55 8 A55 R55 := ⟨Try.f55, Try.func55, rfl, by kernel_rfl, by kernel_rfl, Try.call55⟩
def A69 : ACode :=
  (.seq (.region [⟨(some 2), none, .op (.move (.const (.int .u64 0)))⟩])
    (.seq (.region [⟨(some 3), none, .op (.move (.tmp 0))⟩,
      ⟨(some 4), none, .op (.mn (.tmp 3) (.const (.int .u64 64)))⟩,
      ⟨(some 2), none, .op (.move (.tmp 4))⟩])
    .ret))
def R69 : List RV := [.tmp 2]
theorem is69 : Is Try.prog (fun _ _ => false) 69 5 A69 R69 := ⟨Try.f69, Try.func69, rfl, by kernel_rfl, by kernel_rfl, Try.call69⟩
def A75 : ACode :=
  (.seq (.region [⟨(some 2), none, .op (.move (.const (.int .u64 0)))⟩])
    (.seq (.seq (.region [⟨(some 3), none, .op (.move (.tmp 0))⟩])
    (.cond (.tmp 3) (.seq (.region [⟨(some 2), none, .op (.move (.const (.int .u64 1)))⟩])
    .ret) .skip))
    (.seq (.region [⟨(some 2), none, .op (.move (.const (.int .u64 0)))⟩])
    .ret)))
def R75 : List RV := [.tmp 2]
theorem is75 : Is Try.prog (fun _ _ => false) 75 4 A75 R75 := ⟨Try.f75, Try.func75, rfl, by kernel_rfl, by kernel_rfl, Try.call75⟩
def A62 : ACode :=
  (.seq (.region [⟨(some 6), none, .op (.move (.const (.int .u64 0)))⟩])
    (.seq (.region [⟨(some 7), none, .op (.move (.tmp 1))⟩,
      ⟨(some 8), none, .op (.move (.tmp 2))⟩,
      ⟨(some 9), none, .op (.bin .add (.tmp 7) (.tmp 8))⟩,
      ⟨(some 6), none, .op (.move (.tmp 9))⟩])
    .ret))
def R62 : List RV := [.tmp 6]
theorem is62 : Is Try.prog (fun _ _ => false) 62 10 A62 R62 := ⟨Try.f62, Try.func62, rfl, by kernel_rfl, by kernel_rfl, Try.call62⟩
def A63 : ACode :=
  (.seq (.region [⟨(some 6), none, .op (.move (.const (.int .u64 0)))⟩])
    (.seq (.region [⟨(some 7), none, .op (.move (.tmp 1))⟩,
      ⟨(some 8), none, .op (.move (.tmp 2))⟩,
      ⟨(some 9), none, .op (.bin .sub (.tmp 7) (.tmp 8))⟩,
      ⟨(some 6), none, .op (.move (.tmp 9))⟩])
    .ret))
def R63 : List RV := [.tmp 6]
theorem is63 : Is Try.prog (fun _ _ => false) 63 10 A63 R63 := ⟨Try.f63, Try.func63, rfl, by kernel_rfl, by kernel_rfl, Try.call63⟩
def A64 : ACode :=
  (.seq (.region [⟨(some 6), none, .op (.move (.const (.int .u64 0)))⟩])
    (.seq (.region [⟨(some 7), none, .op (.move (.tmp 1))⟩,
      ⟨(some 8), none, .op (.move (.tmp 2))⟩,
      ⟨(some 9), none, .op (.bin .mul (.tmp 7) (.tmp 8))⟩,
      ⟨(some 6), none, .op (.move (.tmp 9))⟩])
    .ret))
def R64 : List RV := [.tmp 6]
theorem is64 : Is Try.prog (fun _ _ => false) 64 10 A64 R64 := ⟨Try.f64, Try.func64, rfl, by kernel_rfl, by kernel_rfl, Try.call64⟩
def A65 : ACode :=
  (.seq (.region [⟨(some 6), none, .op (.move (.const (.int .u64 0)))⟩])
    (.seq (.region [⟨(some 7), none, .op (.move (.tmp 1))⟩,
      ⟨(some 8), none, .op (.move (.tmp 2))⟩,
      ⟨(some 9), none, .op (.bin .and (.tmp 7) (.tmp 8))⟩,
      ⟨(some 6), none, .op (.move (.tmp 9))⟩])
    .ret))
def R65 : List RV := [.tmp 6]
theorem is65 : Is Try.prog (fun _ _ => false) 65 10 A65 R65 := ⟨Try.f65, Try.func65, rfl, by kernel_rfl, by kernel_rfl, Try.call65⟩
def A66 : ACode :=
  (.seq (.region [⟨(some 6), none, .op (.move (.const (.int .u64 0)))⟩])
    (.seq (.region [⟨(some 7), none, .op (.move (.tmp 1))⟩,
      ⟨(some 8), none, .op (.move (.tmp 2))⟩,
      ⟨(some 9), none, .op (.bin .or (.tmp 7) (.tmp 8))⟩,
      ⟨(some 6), none, .op (.move (.tmp 9))⟩])
    .ret))
def R66 : List RV := [.tmp 6]
theorem is66 : Is Try.prog (fun _ _ => false) 66 10 A66 R66 := ⟨Try.f66, Try.func66, rfl, by kernel_rfl, by kernel_rfl, Try.call66⟩
def A67 : ACode :=
  (.seq (.region [⟨(some 6), none, .op (.move (.const (.int .u64 0)))⟩])
    (.seq (.region [⟨(some 7), none, .op (.move (.tmp 1))⟩,
      ⟨(some 8), none, .op (.move (.tmp 2))⟩,
      ⟨(some 9), none, .op (.bin .xor (.tmp 7) (.tmp 8))⟩,
      ⟨(some 6), none, .op (.move (.tmp 9))⟩])
    .ret))
def R67 : List RV := [.tmp 6]
theorem is67 : Is Try.prog (fun _ _ => false) 67 10 A67 R67 := ⟨Try.f67, Try.func67, rfl, by kernel_rfl, by kernel_rfl, Try.call67⟩
def A68 : ACode :=
  (.seq (.region [⟨(some 6), none, .op (.move (.const (.int .u64 0)))⟩])
    (.seq (.region [⟨(some 7), none, .op (.move (.tmp 1))⟩,
      ⟨(some 8), none, .op (.move (.tmp 2))⟩,
      ⟨(some 9), none, .call (.func 69) [(.tmp 8)]⟩,
      ⟨(some 10), none, .op (.bin .shl (.tmp 7) (.tmp 9))⟩,
      ⟨(some 6), none, .op (.move (.tmp 10))⟩])
    .ret))
def R68 : List RV := [.tmp 6]
theorem is68 : Is Try.prog (fun _ _ => false) 68 11 A68 R68 := ⟨Try.f68, Try.func68, rfl, by kernel_rfl, by kernel_rfl, Try.call68⟩
def A70 : ACode :=
  (.seq (.region [⟨(some 6), none, .op (.move (.const (.int .u64 0)))⟩])
    (.seq (.region [⟨(some 7), none, .op (.move (.tmp 1))⟩,
      ⟨(some 8), none, .op (.move (.tmp 2))⟩,
      ⟨(some 9), none, .call (.func 69) [(.tmp 8)]⟩,
      ⟨(some 10), none, .op (.bin .shr (.tmp 7) (.tmp 9))⟩,
      ⟨(some 6), none, .op (.move (.tmp 10))⟩])
    .ret))
def R70 : List RV := [.tmp 6]
theorem is70 : Is Try.prog (fun _ _ => false) 70 11 A70 R70 := ⟨Try.f70, Try.func70, rfl, by kernel_rfl, by kernel_rfl, Try.call70⟩
def A71 : ACode :=
  (.seq (.region [⟨(some 6), none, .op (.move (.const (.int .u64 0)))⟩])
    (.seq (.region [⟨(some 7), none, .op (.move (.tmp 0))⟩,
      ⟨(some 8), none, .op (.move (.tmp 1))⟩,
      ⟨(some 9), none, .call (.func 46) [(.tmp 7), (.tmp 8)]⟩,
      ⟨(some 10), none, .op (.move (.tmp 2))⟩,
      ⟨(some 11), none, .call (.func 69) [(.tmp 10)]⟩,
      ⟨(some 12), none, .op (.bin .shr (.tmp 9) (.tmp 11))⟩,
      ⟨(some 13), none, .op (.conv .u64 (.tmp 12))⟩,
      ⟨(some 6), none, .op (.move (.tmp 13))⟩])
    .ret))
def R71 : List RV := [.tmp 6]
theorem is71 : Is Try.prog (fun _ _ => false) 71 14 A71 R71 := ⟨Try.f71, Try.func71, rfl, by kernel_rfl, by kernel_rfl, Try.call71⟩
def A72 : ACode :=
  (.seq (.region [⟨(some 6), none, .op (.move (.const (.int .u64 0)))⟩])
    (.seq (.seq (.region [⟨(some 7), none, .op (.move (.tmp 2))⟩,
      ⟨(some 8), none, .op (.bin .eql (.tmp 7) (.const (.int .u64 0)))⟩])
    (.cond (.tmp 8) (.seq (.region [⟨(some 6), none, .op (.move (.const (.int .u64 18446744073709551615)))⟩])
    .ret) .skip))
    (.seq (.region [⟨(some 9), none, .op (.move (.tmp 1))⟩,
      ⟨(some 10), none, .op (.move (.tmp 2))⟩,
      ⟨(some 11), none, .op (.bin .quo (.tmp 9) (.tmp 10))⟩,
      ⟨(some 6), none, .op (.move (.tmp 11))⟩])
    .ret)))
def R72 : List RV := [.tmp 6]
theorem is72 : Is Try.prog (fun _ _ => false) 72 12 A72 R72 := ⟨Try.f72, Try.func72, rfl, by kernel_rfl, by kernel_rfl, Try.call72⟩
def A73 : ACode :=
  (.seq (.region [⟨(some 6), none, .op (.move (.const (.int .u64 0)))⟩])
    (.seq (.seq (.region [⟨(some 7), none, .op (.move (.tmp 2))⟩,
      ⟨(some 8), none, .op (.bin .eql (.tmp 7) (.const (.int .u64 0)))⟩])
    (.cond (.tmp 8) (.seq (.region [⟨(some 9), none, .op (.move (.tmp 1))⟩,
      ⟨(some 6), none, .op (.move (.tmp 9))⟩])
    .ret) .skip))
    (.seq (.region [⟨(some 10), none, .op (.move (.tmp 1))⟩,
      ⟨(some 11), none, .op (.move (.tmp 2))⟩,
      ⟨(some 12), none, .op (.bin .rem (.tmp 10) (.tmp 11))⟩,
      ⟨(some 6), none, .op (.move (.tmp 12))⟩])
    .ret)))
def R73 : List RV := [.tmp 6]
theorem is73 : Is Try.prog (fun _ _ => false) 73 13 A73 R73 := ⟨Try.f73, Try.func73, rfl, by kernel_rfl, by kernel_rfl, Try.call73⟩
def A74 : ACode :=
  (.seq (.region [⟨(some 6), none, .op (.move (.const (.int .u64 0)))⟩])
    (.seq (.region [⟨(some 7), none, .op (.move (.tmp 1))⟩,
      ⟨(some 8), none, .op (.move (.tmp 2))⟩,
      ⟨(some 9), none, .op (.bin .eql (.tmp 7) (.tmp 8))⟩,
      ⟨(some 10), none, .call (.func 75) [(.tmp 9)]⟩,
      ⟨(some 6), none, .op (.move (.tmp 10))⟩])
    .ret))
def R74 : List RV := [.tmp 6]
theorem is74 : Is Try.prog (fun _ _ => false) 74 11 A74 R74 := ⟨Try.f74, Try.func74, rfl, by kernel_rfl, by kernel_rfl, Try.call74⟩
def A76 : ACode :=
  (.seq (.region [⟨(some 6), none, .op (.move (.const (.int .u64 0)))⟩])
    (.seq (.region [⟨(some 7), none, .op (.move (.tmp 1))⟩,
      ⟨(some 8), none, .op (.move (.tmp 2))⟩,
      ⟨(some 9), none, .op (.bin .lss (.tmp 7) (.tmp 8))⟩,
      ⟨(some 10), none, .call (.func 75) [(.tmp 9)]⟩,
      ⟨(some 6), none, .op (.move (.tmp 10))⟩])
    .ret))
def R76 : List RV := [.tmp 6]
theorem is76 : Is Try.prog (fun _ _ => false) 76 11 A76 R76 := ⟨Try.f76, Try.func76, rfl, by kernel_rfl, by kernel_rfl, Try.call76⟩
def A77 : ACode :=
  (.seq (.region [⟨(some 6), none, .op (.move (.const (.int .u64 0)))⟩])
    (.seq (.region [⟨(some 7), none, .op (.move (.tmp 0))⟩,
      ⟨(some 8), none, .op (.move (.tmp 1))⟩,
      ⟨(some 9), none, .call (.func 46) [(.tmp 7), (.tmp 8)]⟩,
      ⟨(some 10), none, .op (.move (.tmp 0))⟩,
      ⟨(some 11), none, .op (.move (.tmp 2))⟩,
      ⟨(some 12), none, .call (.func 46) [(.tmp 10), (.tmp 11)]⟩,
      ⟨(some 13), none, .op (.bin .lss (.tmp 9) (.tmp 12))⟩,
      ⟨(some 14), none, .call (.func 75) [(.tmp 13)]⟩,
      ⟨(some 6), none, .op (.move (.tmp 14))⟩])
    .ret))
def R77 : List RV := [.tmp 6]
theorem is77 : Is Try.prog (fun _ _ => false) 77 15 A77 R77 := ⟨Try.f77, Try.func77, rfl, by kernel_rfl, by kernel_rfl, Try.call77⟩
def A6 : ACode :=
  (.seq (.region [⟨(some 6), none, .op (.move (.const (.bool false)))⟩])
    (.seq (.region [⟨(some 14), none, .op (.move (.tmp 0))⟩,
      ⟨(some 15), none, .op (.move (.tmp 1))⟩,
      ⟨(some 16), none, .call (.func 36) [(.tmp 14), (.tmp 15)]⟩,
      ⟨(some 13), none, .op (.move (.tmp 16))⟩,
      ⟨(some 17), none, .op (.ext (.tmp 13) 0)⟩,
      ⟨(some 18), none, .op (.ext (.tmp 13) 1)⟩,
      ⟨(some 7), none, .op (.move (.tmp 17))⟩,
      ⟨(some 8), none, .op (.move (.tmp 18))⟩])
    (.seq (.region [⟨(some 20), none, .op (.move (.tmp 0))⟩,
      ⟨(some 21), none, .op (.move (.tmp 2))⟩,
      ⟨(some 22), none, .call (.func 36) [(.tmp 20), (.tmp 21)]⟩,
      ⟨(some 19), none, .op (.move (.tmp 22))⟩,
      ⟨(some 23), none, .op (.ext (.tmp 19) 0)⟩,
      ⟨(some 24), none, .op (.ext (.tmp 19) 1)⟩,
      ⟨(some 9), none, .op (.move (.tmp 23))⟩,
      ⟨(some 10), none, .op (.move (.tmp 24))⟩])
    (.seq (.region [⟨(some 25), none, .op (.move (.tmp 7))⟩,
      ⟨(some 26), none, .op (.move (.tmp 8))⟩,
      ⟨(some 27), none, .op (.move (.tmp 10))⟩,
      ⟨(some 28), none, .call (.func 37) [(.const (.int .u8 14)), (.tmp 25), (.tmp 26), (.tmp 27)]⟩,
      ⟨(some 29), none, .op (.move (.tmp 7))⟩,
      ⟨(some 30), none, .op (.move (.tmp 8))⟩,
      ⟨(some 31), none, .op (.move (.tmp 10))⟩,
      ⟨(some 32), none, .call (.func 37) [(.const (.int .u8 15)), (.tmp 29), (.tmp 30), (.tmp 31)]⟩,
      ⟨(some 11), none, .op (.move (.tmp 28))⟩,
      ⟨(some 12), none, .op (.move (.tmp 32))⟩])
    (.seq (.seq (.region [⟨(some 33), none, .op (.move (.tmp 10))⟩,
      ⟨(some 34), none, .op (.bin .eql (.tmp 33) (.const (.int .u64 0)))⟩])
    (.cond (.tmp 34) (.seq (.region [⟨(some 35), none, .call (.func 38) []⟩,
      ⟨(some 36), none, .op (.move (.tmp 35))⟩,
      ⟨(some 37), (some (36, true)), .op (.move (.tmp 11))⟩,
      ⟨(some 38), (some (36, true)), .op (.move (.tmp 7))⟩,
      ⟨(some 39), (some (36, true)), .call (.func 24) [(.tmp 38)]⟩,
      ⟨(some 40), (some (36, true)), .op (.bin .eql (.tmp 37) (.tmp 39))⟩,
      ⟨(some 41), none, .op (.pick (.tmp 36) (.tmp 40) (.const (.bool false)))⟩,
      ⟨(some 42), none, .op (.move (.tmp 41))⟩,
      ⟨(some 43), (some (42, true)), .op (.move (.tmp 12))⟩,
      ⟨(some 44), (some (42, true)), .op (.move (.tmp 8))⟩,
      ⟨(some 45), (some (42, true)), .op (.bin .eql (.tmp 43) (.tmp 44))⟩,
      ⟨(some 46), none, .op (.pick (.tmp 42) (.tmp 45) (.const (.bool false)))⟩,
      ⟨(some 6), none, .op (.move (.tmp 46))⟩])
    .ret) .skip))
    (.seq (.region [⟨(some 47), none, .call (.func 38) []⟩,
      ⟨(some 48), none, .op (.move (.tmp 47))⟩,
      ⟨(some 49), (some (48, true)), .op (.move (.tmp 7))⟩,
      ⟨(some 50), (some (48, true)), .op (.move (.tmp 12))⟩,
      ⟨(some 51), (some (48, true)), .op (.move (.tmp 10))⟩,
      ⟨(some 52), (some (48, true)), .call (.func 37) [(.const (.int .u8 17)), (.tmp 49), (.tmp 50), (.tmp 51)]⟩,
      ⟨(some 53), (some (48, true)), .op (.bin .eql (.tmp 52) (.const (.int .u64 1)))⟩,
      ⟨(some 54), none, .op (.pick (.tmp 48) (.tmp 53) (.const (.bool false)))⟩,
      ⟨(some 55), none, .op (.move (.tmp 54))⟩,
      ⟨(some 56), (some (55, true)), .op (.move (.tmp 7))⟩,
      ⟨(some 57), (some (55, true)), .op (.move (.tmp 7))⟩,
      ⟨(some 58), (some (55, true)), .op (.move (.tmp 11))⟩,
      ⟨(some 59), (some (55, true)), .op (.move (.tmp 10))⟩,
      ⟨(some 60), (some (55, true)), .call (.func 37) [(.const (.int .u8 7)), (.tmp 57), (.tmp 58), (.tmp 59)]⟩,
      ⟨(some 61), (some (55, true)), .op (.move (.tmp 12))⟩,
      ⟨(some 62), (some (55, true)), .call (.func 37) [(.const (.int .u8 5)), (.tmp 56), (.tmp 60), (.tmp 61)]⟩,
      ⟨(some 63), (some (55, true)), .op (.move (.tmp 8))⟩,
      ⟨(some 64), (some (55, true)), .op (.bin .eql (.tmp 62) (.tmp 63))⟩,
      ⟨(some 65), none, .op (.pick (.tmp 55) (.tmp 64) (.const (.bool false)))⟩,
      ⟨(some 66), none, .op (.move (.tmp 65))⟩,
      ⟨(some 67), (some (66, true)), .op (.move (.tmp 11))⟩,
      ⟨(some 68), (some (66, true)), .op (.move (.tmp 8))⟩,
      ⟨(some 69), (some (66, true)), .op (.bin .leq (.tmp 67) (.tmp 68))⟩,
      ⟨(some 70), none, .op (.pick (.tmp 66) (.tmp 69) (.const (.bool false)))⟩,
      ⟨(some 6), none, .op (.move (.tmp 70))⟩])
    .ret))))))
def R6 : List RV := [.tmp 6]
theorem is6 : Is Try.prog (fun _ _ => false) 6 71 A6 R6 := ⟨Try.f6, Try.func6, rfl, by kernel_rfl, by kernel_rfl, Try.call6⟩
def A8 : ACode :=
  (.seq (.region [⟨(some 6), none, .op (.move (.const (.bool false)))⟩])
    (.seq (.region [⟨(some 19), none, .op (.move (.tmp 0))⟩,
      ⟨(some 20), none, .op (.move (.tmp 1))⟩,
      ⟨(some 21), none, .call (.func 36) [(.tmp 19), (.tmp 20)]⟩,
      ⟨(some 18), none, .op (.move (.tmp 21))⟩,
      ⟨(some 22), none, .op (.ext (.tmp 18) 0)⟩,
      ⟨(some 23), none, .op (.ext (.tmp 18) 1)⟩,
      ⟨(some 7), none, .op (.move (.tmp 22))⟩,
      ⟨(some 8), none, .op (.move (.tmp 23))⟩])
    (.seq (.region [⟨(some 25), none, .op (.move (.tmp 0))⟩,
      ⟨(some 26), none, .op (.move (.tmp 2))⟩,
      ⟨(some 27), none, .call (.func 36) [(.tmp 25), (.tmp 26)]⟩,
      ⟨(some 24), none, .op (.move (.tmp 27))⟩,
      ⟨(some 28), none, .op (.ext (.tmp 24) 0)⟩,
      ⟨(some 29), none, .op (.ext (.tmp 24) 1)⟩,
      ⟨(some 9), none, .op (.move (.tmp 28))⟩,
      ⟨(some 10), none, .op (.move (.tmp 29))⟩])
    (.seq (.region [⟨(some 31), none, .op (.move (.tmp 7))⟩,
      ⟨(some 32), none, .op (.move (.tmp 8))⟩,
      ⟨(some 33), none, .call (.func 18) [(.tmp 31), (.tmp 32)]⟩,
      ⟨(some 30), none, .op (.move (.tmp 33))⟩,
      ⟨(some 34), none, .op (.ext (.tmp 30) 0)⟩,
      ⟨(some 35), none, .op (.ext (.tmp 30) 1)⟩,
      ⟨(some 11), none, .op (.move (.tmp 34))⟩,
      ⟨(some 12), none, .op (.move (.tmp 35))⟩])
    (.seq (.region [⟨(some 37), none, .op (.move (.tmp 7))⟩,
      ⟨(some 38), none, .op (.move (.tmp 10))⟩,
      ⟨(some 39), none, .call (.func 18) [(.tmp 37), (.tmp 38)]⟩,
      ⟨(some 36), none, .op (.move (.tmp 39))⟩,
      ⟨(some 40), none, .op (.ext (.tmp 36) 0)⟩,
      ⟨(some 41), none, .op (.ext (.tmp 36) 1)⟩,
      ⟨(some 13), none, .op (.move (.tmp 40))⟩,
      ⟨(some 14), none, .op (.move (.tmp 41))⟩])
    (.seq (.region [⟨(some 43), none, .op (.move (.tmp 7))⟩,
      ⟨(some 44), none, .op (.move (.tmp 11))⟩,
      ⟨(some 45), none, .call (.func 20) [(.tmp 43), (.tmp 44)]⟩,
      ⟨(some 42), none, .op (.move (.tmp 45))⟩,
      ⟨(some 46), none, .op (.ext (.tmp 42) 0)⟩,
      ⟨(some 47), none, .op (.ext (.tmp 42) 1)⟩,
      ⟨(some 15), none, .op (.move (.tmp 46))⟩,
      ⟨(some 16), none, .op (.move (.tmp 47))⟩])
    (.seq (.region [⟨(some 17), none, .op (.move (.func 39))⟩])
    (.seq (.region [⟨(some 48), none, .call (.func 38) []⟩,
      ⟨(some 49), none, .op (.move (.tmp 48))⟩,
      ⟨(some 50), (some (49, true)), .op (.move (.tmp 12))⟩,
      ⟨(some 51), (some (49, true)), .op (.bin .eql (.tmp 50) (.const (.int .i64 0)))⟩,
      ⟨(some 52), none, .op (.pick (.tmp 49) (.tmp 51) (.const (.bool false)))⟩,
      ⟨(some 53), none, .op (.move (.tmp 52))⟩,
      ⟨(some 54), (some (53, true)), .op (.move (.tmp 14))⟩,
      ⟨(some 55), (some (53, true)), .op (.bin .eql (.tmp 54) (.const (.int .i64 0)))⟩,
      ⟨(some 56), none, .op (.pick (.tmp 53) (.tmp 55) (.const (.bool false)))⟩,
      ⟨(some 57), none, .op (.move (.tmp 56))⟩,
      ⟨(some 58), (some (57, true)), .op (.move (.tmp 16))⟩,
      ⟨(some 59), (some (57, true)), .op (.bin .eql (.tmp 58) (.const (.int .i64 0)))⟩,
      ⟨(some 60), none, .op (.pick (.tmp 57) (.tmp 59) (.const (.bool false)))⟩,
      ⟨(some 61), none, .op (.move (.tmp 60))⟩,
      ⟨(some 62), (some (61, true)), .op (.move (.tmp 15))⟩,
      ⟨(some 63), (some (61, true)), .op (.move (.tmp 8))⟩,
      ⟨(some 64), (some (61, true)), .op (.bin .eql (.tmp 62) (.tmp 63))⟩,
      ⟨(some 65), none, .op (.pick (.tmp 61) (.tmp 64) (.const (.bool false)))⟩,
      ⟨(some 66), none, .op (.move (.tmp 65))⟩,
      ⟨(some 67), (some (66, true)), .op (.move (.tmp 7))⟩,
      ⟨(some 68), (some (66, true)), .op (.move (.tmp 8))⟩,
      ⟨(some 69), (some (66, true)), .op (.move (.tmp 10))⟩,
      ⟨(some 70), (some (66, true)), .call (.func 37) [(.const (.int .u8 16)), (.tmp 67), (.tmp 68), (.tmp 69)]⟩,
      ⟨(some 71), (some (66, true)), .op (.move (.tmp 17))⟩,
      ⟨(some 72), (some (66, true)), .op (.move (.tmp 8))⟩,
      ⟨(some 73), (some (66, true)), .op (.move (.tmp 10))⟩,
      ⟨(some 74), (some (66, true)), .op (.bin .eql (.tmp 72) (.tmp 73))⟩,
      ⟨(some 75), (some (66, true)), .call (.tmp 71) [(.tmp 74)]⟩,
      ⟨(some 76), (some (66, true)), .op (.bin .eql (.tmp 70) (.tmp 75))⟩,
      ⟨(some 77), none, .op (.pick (.tmp 66) (.tmp 76) (.const (.bool false)))⟩,
      ⟨(some 78), none, .op (.move (.tmp 77))⟩,
      ⟨(some 79), (some (78, true)), .op (.move (.tmp 7))⟩,
      ⟨(some 80), (some (78, true)), .op (.move (.tmp 8))⟩,
      ⟨(some 81), (some (78, true)), .op (.move (.tmp 10))⟩,
      ⟨(some 82), (some (78, true)), .call (.func 37) [(.const (.int .u8 17)), (.tmp 79), (.tmp 80), (.tmp 81)]⟩,
      ⟨(some 83), (some (78, true)), .op (.move (.tmp 17))⟩,
      ⟨(some 84), (some (78, true)), .op (.move (.tmp 8))⟩,
      ⟨(some 85), (some (78, true)), .op (.move (.tmp 10))⟩,
      ⟨(some 86), (some (78, true)), .op (.bin .lss (.tmp 84) (.tmp 85))⟩,
      ⟨(some 87), (some (78, true)), .call (.tmp 83) [(.tmp 86)]⟩,
      ⟨(some 88), (some (78, true)), .op (.bin .eql (.tmp 82) (.tmp 87))⟩,
      ⟨(some 89), none, .op (.pick (.tmp 78) (.tmp 88) (.const (.bool false)))⟩,
      ⟨(some 90), none, .op (.move (.tmp 89))⟩,
      ⟨(some 91), (some (90, true)), .op (.move (.tmp 7))⟩,
      ⟨(some 92), (some (90, true)), .op (.move (.tmp 8))⟩,
      ⟨(some 93), (some (90, true)), .op (.move (.tmp 10))⟩,
      ⟨(some 94), (some (90, true)), .call (.func 37) [(.const (.int .u8 18)), (.tmp 91), (.tmp 92), (.tmp 93)]⟩,
      ⟨(some 95), (some (90, true)), .op (.move (.tmp 17))⟩,
      ⟨(some 96), (some (90, true)), .op (.move (.tmp 11))⟩,
      ⟨(some 97), (some (90, true)), .op (.move (.tmp 13))⟩,
      ⟨(some 98), (some (90, true)), .op (.bin .lss (.tmp 96) (.tmp 97))⟩,
      ⟨(some 99), (some (90, true)), .call (.tmp 95) [(.tmp 98)]⟩,
      ⟨(some 100), (some (90, true)), .op (.bin .eql (.tmp 94) (.tmp 99))⟩,
      ⟨(some 101), none, .op (.pick (.tmp 90) (.tmp 100) (.const (.bool false)))⟩,
      ⟨(some 6), none, .op (.move (.tmp 101))⟩])
    .ret))))))))
def R8 : List RV := [.tmp 6]
theorem is8 : Is Try.prog (fun _ _ => false) 8 102 A8 R8 := ⟨Try.f8, Try.func8, rfl, by kernel_rfl, by kernel_rfl, Try.call8⟩
def A39 : ACode :=
  (.seq (.region [⟨(some 2), none, .op (.move (.const (.int .u64 0)))⟩])
    (.seq (.seq (.region [⟨(some 3), none, .op (.move (.tmp 0))⟩])
    (.cond (.tmp 3) (.seq (.region [⟨(some 2), none, .op (.move (.const (.int .u64 1)))⟩])
    .ret) .skip))
    (.seq (.region [⟨(some 2), none, .op (.move (.const (.int .u64 0)))⟩])
    .ret)))
def R39 : List RV := [.tmp 2]
theorem is39 : Is Try.prog (fun _ _ => false) 39 4 A39 R39 := ⟨Try.f39, Try.func39, rfl, by kernel_rfl, by kernel_rfl, Try.call39⟩
end Go.Proofs.Ytcnnanicdjdddaa
