/- The abstract code of the functions that the statement InterpretStores reaches. -/
import Derived.Test.YtdmjloieldhlnaaCore29
import Derived.Test.YtdmjloieldhlnaaRows
import Derived.KernelRfl
namespace Go.Proofs.Ytdmjloieldhlnaa
open Go Go.Ab Go.Proofs
set_option maxRecDepth 100000
def A3l0 : ACode :=
  (.seq (.seq (.region [⟨(some 87), none, .op (.move (.tmp 19))⟩,
      ⟨(some 88), none, .op (.move (.tmp 14))⟩,
      ⟨(some 89), none, .op (.len (.tmp 88))⟩,
      ⟨(some 90), none, .op (.bin .lss (.tmp 87) (.tmp 89))⟩])
    (.cond (.tmp 90) .skip (.exit 0)))
    (.seq (.block 1 (.region [⟨(some 93), none, .op (.move (.tmp 14))⟩,
      ⟨(some 94), none, .op (.move (.tmp 19))⟩,
      ⟨(some 95), none, .op (.idxA 2 (.tmp 93) (.tmp 94))⟩,
      ⟨(some 96), none, .op (.fieldA 1 (.tmp 95))⟩,
      ⟨none, none, .op (.store 1 (.tmp 96) (.const (.int .u8 99)))⟩]))
    (.region [⟨(some 91), none, .op (.move (.tmp 19))⟩,
      ⟨(some 92), none, .op (.bin .add (.tmp 91) (.const (.int .i64 1)))⟩,
      ⟨(some 19), none, .op (.move (.tmp 92))⟩])))
def A3 : ACode :=
  (.seq (.region [⟨(some 10), none, .op (.box (.tmp 4))⟩,
      ⟨(some 11), none, .op (.box (.tmp 5))⟩,
      ⟨(some 12), none, .op (.move (.const (.bool false)))⟩])
    (.seq (.seq (.region [⟨(some 20), none, .op (.move (.tmp 0))⟩,
      ⟨(some 21), none, .op (.len (.tmp 20))⟩,
      ⟨(some 22), none, .op (.bin .gtr (.tmp 21) (.const (.int .i64 4200)))⟩,
      ⟨(some 23), none, .op (.move (.tmp 22))⟩,
      ⟨(some 24), (some (23, false)), .op (.fieldA 3 (.tmp 10))⟩,
      ⟨(some 25), (some (23, false)), .op (.load 1 false (.tmp 24))⟩,
      ⟨(some 26), (some (23, false)), .op (.len (.tmp 25))⟩,
      ⟨(some 27), (some (23, false)), .op (.bin .gtr (.tmp 26) (.const (.int .i64 4200)))⟩,
      ⟨(some 28), none, .op (.pick (.tmp 23) (.const (.bool true)) (.tmp 27))⟩,
      ⟨(some 29), none, .op (.move (.tmp 28))⟩,
      ⟨(some 30), (some (29, false)), .op (.fieldA 3 (.tmp 11))⟩,
      ⟨(some 31), (some (29, false)), .op (.load 1 false (.tmp 30))⟩,
      ⟨(some 32), (some (29, false)), .op (.len (.tmp 31))⟩,
      ⟨(some 33), (some (29, false)), .op (.bin .gtr (.tmp 32) (.const (.int .i64 4200)))⟩,
      ⟨(some 34), none, .op (.pick (.tmp 29) (.const (.bool true)) (.tmp 33))⟩,
      ⟨(some 35), none, .op (.move (.tmp 34))⟩,
      ⟨(some 36), (some (35, false)), .op (.fieldA 0 (.tmp 10))⟩,
      ⟨(some 37), (some (35, false)), .op (.load 1 false (.tmp 36))⟩,
      ⟨(some 38), (some (35, false)), .op (.len (.tmp 37))⟩,
      ⟨(some 39), (some (35, false)), .op (.bin .gtr (.tmp 38) (.const (.int .i64 4200)))⟩,
      ⟨(some 40), none, .op (.pick (.tmp 35) (.const (.bool true)) (.tmp 39))⟩,
      ⟨(some 41), none, .op (.move (.tmp 40))⟩,
      ⟨(some 42), (some (41, false)), .op (.fieldA 0 (.tmp 11))⟩,
      ⟨(some 43), (some (41, false)), .op (.load 1 false (.tmp 42))⟩,
      ⟨(some 44), (some (41, false)), .op (.len (.tmp 43))⟩,
      ⟨(some 45), (some (41, false)), .op (.bin .gtr (.tmp 44) (.const (.int .i64 4200)))⟩,
      ⟨(some 46), none, .op (.pick (.tmp 41) (.const (.bool true)) (.tmp 45))⟩])
    (.cond (.tmp 46) (.seq (.region [⟨(some 12), none, .op (.move (.const (.bool true)))⟩])
    .ret) .skip))
    (.seq (.region [⟨(some 47), none, .op (.move (.tmp 0))⟩,
      ⟨(some 48), none, .call (.func 4) [(.tmp 47)]⟩,
      ⟨(some 13), none, .op (.move (.tmp 48))⟩])
    (.seq (.region [⟨(some 50), none, .op (.move (.tmp 13))⟩,
      ⟨(some 51), none, .op (.move (.tmp 1))⟩,
      ⟨(some 52), none, .op (.move (.tmp 2))⟩,
      ⟨(some 53), none, .op (.move (.tmp 3))⟩,
      ⟨(some 54), none, .call (.func 5) [(.tmp 50), (.tmp 51), (.tmp 52), (.tmp 53)]⟩,
      ⟨(some 49), none, .op (.move (.tmp 54))⟩,
      ⟨(some 55), none, .op (.ext (.tmp 49) 0)⟩,
      ⟨(some 56), none, .op (.ext (.tmp 49) 1)⟩,
      ⟨(some 14), none, .op (.move (.tmp 55))⟩,
      ⟨(some 15), none, .op (.move (.tmp 56))⟩])
    (.seq (.region [⟨(some 58), none, .op (.move (.tmp 0))⟩,
      ⟨(some 59), none, .op (.move (.tmp 1))⟩,
      ⟨(some 60), none, .op (.move (.tmp 2))⟩,
      ⟨(some 61), none, .op (.move (.tmp 3))⟩,
      ⟨(some 62), none, .call (.func 6) [(.tmp 58), (.tmp 59), (.tmp 60), (.tmp 61)]⟩,
      ⟨(some 57), none, .op (.move (.tmp 62))⟩,
      ⟨(some 63), none, .op (.ext (.tmp 57) 0)⟩,
      ⟨(some 64), none, .op (.ext (.tmp 57) 1)⟩,
      ⟨(some 16), none, .op (.move (.tmp 63))⟩,
      ⟨(some 17), none, .op (.move (.tmp 64))⟩])
    (.seq (.dregion [⟨0, ⟨(some 65), none, .op (.move (.tmp 14))⟩, []⟩,
      ⟨1, ⟨(some 66), none, .op (.move (.tmp 16))⟩, []⟩,
      ⟨2, ⟨(some 67), none, .call (.func 7) [(.tmp 65), (.tmp 66)]⟩, []⟩,
      ⟨3, ⟨(some 68), none, .op (.move (.tmp 67))⟩, []⟩,
      ⟨4, ⟨(some 69), (some (68, true)), .op (.move (.tmp 15))⟩, []⟩,
      ⟨5, ⟨(some 70), (some (68, true)), .op (.move (.tmp 17))⟩, []⟩,
      ⟨6, ⟨(some 71), (some (68, true)), .op (.bin .eql (.tmp 69) (.tmp 70))⟩, []⟩,
      ⟨7, ⟨(some 72), none, .op (.pick (.tmp 68) (.tmp 71) (.const (.bool false)))⟩, []⟩,
      ⟨8, ⟨(some 73), none, .op (.move (.tmp 72))⟩, []⟩,
      ⟨9, ⟨(some 74), (some (73, true)), .op (.load 4 true (.tmp 10))⟩, []⟩,
      ⟨10, ⟨(some 75), (some (73, true)), .op (.load 4 true (.tmp 11))⟩, []⟩,
      ⟨12, ⟨(some 77), (some (73, true)), .op (.load 4 true (.tmp 10))⟩, []⟩,
      ⟨13, ⟨(some 78), (some (73, true)), .op (.load 4 true (.tmp 11))⟩, []⟩,
      ⟨11, ⟨(some 76), (some (73, true)), .call (.func 8) [(.tmp 74), (.tmp 75)]⟩, [12, 13]⟩,
      ⟨14, ⟨(some 79), (some (73, true)), .call (.func 9) [(.tmp 77), (.tmp 78)]⟩, []⟩,
      ⟨15, ⟨(some 80), (some (73, true)), .op (.eqB false (.tmp 76) (.tmp 79))⟩, []⟩,
      ⟨16, ⟨(some 81), none, .op (.pick (.tmp 73) (.tmp 80) (.const (.bool false)))⟩, []⟩,
      ⟨17, ⟨(some 82), none, .op (.move (.tmp 81))⟩, []⟩,
      ⟨18, ⟨(some 83), (some (82, true)), .op (.load 4 true (.tmp 10))⟩, []⟩,
      ⟨19, ⟨(some 84), (some (82, true)), .op (.load 4 true (.tmp 10))⟩, []⟩,
      ⟨20, ⟨(some 85), (some (82, true)), .call (.func 8) [(.tmp 83), (.tmp 84)]⟩, []⟩,
      ⟨21, ⟨(some 86), none, .op (.pick (.tmp 82) (.tmp 85) (.const (.bool false)))⟩, []⟩,
      ⟨22, ⟨(some 18), none, .op (.move (.tmp 86))⟩, []⟩])
    (.seq (.seq (.region [⟨(some 19), none, .op (.move (.const (.int .i64 0)))⟩])
    (.block 0 (.loop A3l0)))
    (.seq (.region [⟨(some 97), none, .op (.move (.tmp 18))⟩,
      ⟨(some 98), none, .op (.move (.tmp 97))⟩,
      ⟨(some 99), (some (98, true)), .op (.move (.tmp 13))⟩,
      ⟨(some 100), (some (98, true)), .op (.move (.tmp 0))⟩,
      ⟨(some 101), (some (98, true)), .call (.func 7) [(.tmp 99), (.tmp 100)]⟩,
      ⟨(some 102), none, .op (.pick (.tmp 98) (.tmp 101) (.const (.bool false)))⟩,
      ⟨(some 12), none, .op (.move (.tmp 102))⟩])
    .ret))))))))
def R3 : List RV := [.tmp 12]
theorem is3 : Is Try.prog (fun _ _ => false) 3 103 A3 R3 := ⟨Try.f3, Try.func3, rfl, by kernel_rfl, by kernel_rfl, Try.call3⟩
def A4 : ACode :=
  (.seq (.region [⟨(some 2), none, .op (.move (.const (.slice none 0 0)))⟩])
    (.seq (.region [⟨(some 3), none, .op (.move (.const (.slice none 0 0)))⟩])
    (.seq (.region [⟨(some 4), none, .op (.move (.tmp 3))⟩,
      ⟨(some 5), none, .op (.move (.tmp 0))⟩,
      ⟨(some 6), none, .op (.app 36 2 16 (.tmp 4) (.tmp 5))⟩,
      ⟨(some 2), none, .op (.move (.tmp 6))⟩])
    .ret)))
def R4 : List RV := [.tmp 2]
theorem is4 : Is Try.prog (fun _ _ => false) 4 7 A4 R4 := ⟨Try.f4, Try.func4, rfl, by kernel_rfl, by kernel_rfl, Try.call4⟩
def A5l0 : ACode :=
  (.seq (.seq (.region [⟨(some 38), none, .op (.move (.tmp 11))⟩,
      ⟨(some 39), none, .op (.move (.tmp 2))⟩,
      ⟨(some 40), none, .op (.bin .lss (.tmp 38) (.tmp 39))⟩])
    (.cond (.tmp 40) .skip (.exit 0)))
    (.seq (.block 1 (.seq (.region [⟨(some 43), none, .op (.move (.tmp 1))⟩,
      ⟨(some 44), none, .op (.move (.tmp 11))⟩,
      ⟨(some 45), none, .op (.bin .quo (.tmp 44) (.const (.int .i64 8)))⟩,
      ⟨(some 46), none, .op (.conv .u64 (.tmp 45))⟩,
      ⟨(some 47), none, .op (.bin .add (.tmp 43) (.tmp 46))⟩,
      ⟨(some 48), none, .op (.bin .and (.tmp 47) (.const (.int .u64 4294967295)))⟩,
      ⟨(some 12), none, .op (.move (.tmp 48))⟩])
    (.seq (.region [⟨(some 49), none, .op (.move (.tmp 3))⟩,
      ⟨(some 50), none, .op (.move (.tmp 11))⟩,
      ⟨(some 51), none, .op (.bin .shr (.tmp 49) (.tmp 50))⟩,
      ⟨(some 52), none, .op (.conv .u8 (.tmp 51))⟩,
      ⟨(some 13), none, .op (.move (.tmp 52))⟩])
    (.seq (.region [⟨(some 54), none, .op (.move (.tmp 10))⟩,
      ⟨(some 55), none, .op (.move (.tmp 12))⟩,
      ⟨(some 56), none, .call (.func 14) [(.tmp 54), (.tmp 55), (.func 15)]⟩,
      ⟨(some 53), none, .op (.move (.tmp 56))⟩,
      ⟨(some 57), none, .op (.ext (.tmp 53) 0)⟩,
      ⟨(some 58), none, .op (.ext (.tmp 53) 1)⟩,
      ⟨(some 14), none, .op (.move (.tmp 57))⟩,
      ⟨(some 15), none, .op (.move (.tmp 58))⟩])
    (.block 2 (.seq (.region [⟨(some 60), none, .op (.move (.tmp 15))⟩,
      ⟨(some 61), none, .op (.move (.tmp 60))⟩,
      ⟨(some 62), (some (61, true)), .op (.move (.tmp 13))⟩,
      ⟨(some 63), (some (61, true)), .op (.bin .eql (.tmp 62) (.const (.int .u8 0)))⟩,
      ⟨(some 64), none, .op (.pick (.tmp 61) (.tmp 63) (.const (.bool false)))⟩,
      ⟨(some 59), none, .op (.move (.tmp 64))⟩])
    (.cond (.tmp 59) (.region [⟨(some 65), none, .op (.move (.tmp 10))⟩,
      ⟨(some 66), none, .op (.move (.tmp 14))⟩,
      ⟨(some 67), none, .op (.move (.tmp 14))⟩,
      ⟨(some 68), none, .op (.bin .add (.tmp 67) (.const (.int .i64 1)))⟩,
      ⟨(some 69), none, .call (.func 16) [(.tmp 65), (.tmp 66), (.tmp 68)]⟩,
      ⟨(some 10), none, .op (.move (.tmp 69))⟩]) (.seq (.region [⟨(some 71), none, .op (.move (.tmp 15))⟩,
      ⟨(some 70), none, .op (.move (.tmp 71))⟩])
    (.cond (.tmp 70) (.region [⟨(some 72), none, .op (.move (.tmp 10))⟩,
      ⟨(some 73), none, .op (.move (.tmp 14))⟩,
      ⟨(some 74), none, .op (.move (.tmp 13))⟩,
      ⟨(some 75), none, .op (.idxA 2 (.tmp 72) (.tmp 73))⟩,
      ⟨(some 76), none, .op (.fieldA 1 (.tmp 75))⟩,
      ⟨none, none, .op (.store 1 (.tmp 76) (.tmp 74))⟩]) (.seq (.region [⟨(some 78), none, .op (.move (.tmp 13))⟩,
      ⟨(some 79), none, .op (.bin .neq (.tmp 78) (.const (.int .u8 0)))⟩,
      ⟨(some 77), none, .op (.move (.tmp 79))⟩])
    (.cond (.tmp 77) (.region [⟨(some 80), none, .op (.move (.tmp 10))⟩,
      ⟨(some 81), none, .op (.move (.tmp 14))⟩,
      ⟨(some 82), none, .op (.move (.tmp 12))⟩,
      ⟨(some 83), none, .op (.move (.tmp 13))⟩,
      ⟨(some 84), none, .op (.build [(.int .u64 0), (.int .u8 0)] [(0, 1, (.tmp 82)), (1, 1, (.tmp 83))])⟩,
      ⟨(some 85), none, .op (.buildO 36 [(.int .u64 0), (.int .u8 0)] 1 [(0, (.tmp 84))])⟩,
      ⟨(some 86), none, .call (.func 17) [(.tmp 80), (.tmp 81), (.tmp 85)]⟩,
      ⟨(some 10), none, .op (.move (.tmp 86))⟩]) .skip)))))))))))
    (.region [⟨(some 41), none, .op (.move (.tmp 11))⟩,
      ⟨(some 42), none, .op (.bin .add (.tmp 41) (.const (.int .i64 8)))⟩,
      ⟨(some 11), none, .op (.move (.tmp 42))⟩])))
def A5 : ACode :=
  (.seq (.region [⟨(some 8), none, .op (.move (.const (.slice none 0 0)))⟩,
      ⟨(some 9), none, .op (.move (.const (.int .i64 0)))⟩])
    (.seq (.seq (.region [⟨(some 16), none, .op (.move (.tmp 0))⟩,
      ⟨(some 17), none, .call (.func 10) [(.tmp 16)]⟩,
      ⟨(some 18), none, .op (.un .not (.tmp 17))⟩,
      ⟨(some 19), none, .op (.move (.tmp 18))⟩,
      ⟨(some 20), (some (19, false)), .op (.move (.tmp 1))⟩,
      ⟨(some 21), (some (19, false)), .call (.func 11) [(.tmp 20), (.const (.int .i64 32))]⟩,
      ⟨(some 22), (some (19, false)), .op (.un .not (.tmp 21))⟩,
      ⟨(some 23), none, .op (.pick (.tmp 19) (.const (.bool true)) (.tmp 22))⟩,
      ⟨(some 24), none, .op (.move (.tmp 23))⟩,
      ⟨(some 25), (some (24, false)), .op (.buildF [(.int .i64 0)] 4 [(0, (.const (.int .i64 8))), (1, (.const (.int .i64 16))), (2, (.const (.int .i64 32))), (3, (.const (.int .i64 64)))])⟩,
      ⟨(some 26), (some (24, false)), .op (.move (.tmp 2))⟩,
      ⟨(some 27), (some (24, false)), .call (.func 12) [(.tmp 25), (.tmp 26)]⟩,
      ⟨(some 28), (some (24, false)), .op (.un .not (.tmp 27))⟩,
      ⟨(some 29), none, .op (.pick (.tmp 24) (.const (.bool true)) (.tmp 28))⟩,
      ⟨(some 30), none, .op (.move (.tmp 29))⟩,
      ⟨(some 31), (some (30, false)), .op (.move (.tmp 3))⟩,
      ⟨(some 32), (some (30, false)), .op (.move (.tmp 2))⟩,
      ⟨(some 33), (some (30, false)), .call (.func 11) [(.tmp 31), (.tmp 32)]⟩,
      ⟨(some 34), (some (30, false)), .op (.un .not (.tmp 33))⟩,
      ⟨(some 35), none, .op (.pick (.tmp 30) (.const (.bool true)) (.tmp 34))⟩])
    (.cond (.tmp 35) (.seq (.region [⟨(some 8), none, .op (.move (.const (.slice none 0 0)))⟩,
      ⟨(some 9), none, .op (.move (.const (.int .i64 2)))⟩])
    .ret) .skip))
    (.seq (.region [⟨(some 36), none, .op (.move (.tmp 0))⟩,
      ⟨(some 37), none, .call (.func 13) [(.tmp 36)]⟩,
      ⟨(some 10), none, .op (.move (.tmp 37))⟩])
    (.seq (.seq (.region [⟨(some 11), none, .op (.move (.const (.int .i64 0)))⟩])
    (.block 0 (.loop A5l0)))
    (.seq (.seq (.region [⟨(some 87), none, .op (.move (.tmp 10))⟩,
      ⟨(some 88), none, .op (.len (.tmp 87))⟩,
      ⟨(some 89), none, .op (.bin .gtr (.tmp 88) (.const (.int .i64 4096)))⟩])
    (.cond (.tmp 89) (.seq (.region [⟨(some 8), none, .op (.move (.const (.slice none 0 0)))⟩,
      ⟨(some 9), none, .op (.move (.const (.int .i64 20)))⟩])
    .ret) .skip))
    (.seq (.region [⟨(some 90), none, .op (.move (.tmp 10))⟩,
      ⟨(some 8), none, .op (.move (.tmp 90))⟩,
      ⟨(some 9), none, .op (.move (.const (.int .i64 0)))⟩])
    .ret))))))
def R5 : List RV := [.tmp 8, .tmp 9]
theorem is5 : Is Try.prog (fun r i => [(15, 5)].contains (r, i)) 5 91 A5 R5 := ⟨Try.f5, Try.func5, rfl, by kernel_rfl, by kernel_rfl, Try.call5⟩
def A6l0 : ACode :=
  (.seq (.seq (.region [⟨(some 44), none, .op (.move (.tmp 11))⟩,
      ⟨(some 45), none, .op (.move (.tmp 2))⟩,
      ⟨(some 46), none, .op (.bin .quo (.tmp 45) (.const (.int .i64 8)))⟩,
      ⟨(some 47), none, .op (.bin .lss (.tmp 44) (.tmp 46))⟩])
    (.cond (.tmp 47) .skip (.exit 0)))
    (.seq (.block 1 (.seq (.region [⟨(some 50), none, .op (.move (.tmp 10))⟩,
      ⟨(some 51), none, .op (.move (.tmp 1))⟩,
      ⟨(some 52), none, .op (.move (.tmp 3))⟩,
      ⟨(some 53), none, .op (.bin .rem (.tmp 52) (.const (.int .u64 256)))⟩,
      ⟨(some 54), none, .op (.conv .u8 (.tmp 53))⟩,
      ⟨(some 55), none, .call (.func 20) [(.tmp 50), (.tmp 51), (.tmp 54)]⟩,
      ⟨(some 10), none, .op (.move (.tmp 55))⟩])
    (.seq (.region [⟨(some 56), none, .op (.move (.tmp 3))⟩,
      ⟨(some 57), none, .op (.bin .quo (.tmp 56) (.const (.int .u64 256)))⟩,
      ⟨(some 3), none, .op (.move (.tmp 57))⟩])
    (.seq (.region [⟨(some 58), none, .op (.move (.tmp 1))⟩,
      ⟨(some 59), none, .op (.bin .eql (.tmp 58) (.const (.int .u64 4294967295)))⟩])
    (.cond (.tmp 59) (.region [⟨(some 1), none, .op (.move (.const (.int .u64 0)))⟩]) (.region [⟨(some 60), none, .op (.move (.tmp 1))⟩,
      ⟨(some 61), none, .op (.bin .add (.tmp 60) (.const (.int .u64 1)))⟩,
      ⟨(some 1), none, .op (.move (.tmp 61))⟩]))))))
    (.region [⟨(some 48), none, .op (.move (.tmp 11))⟩,
      ⟨(some 49), none, .op (.bin .add (.tmp 48) (.const (.int .i64 1)))⟩,
      ⟨(some 11), none, .op (.move (.tmp 49))⟩])))
def A6 : ACode :=
  (.seq (.region [⟨(some 8), none, .op (.move (.const (.slice none 0 0)))⟩,
      ⟨(some 9), none, .op (.move (.const (.int .i64 0)))⟩])
    (.seq (.seq (.region [⟨(some 12), none, .op (.move (.tmp 0))⟩,
      ⟨(some 13), none, .call (.func 18) [(.tmp 12)]⟩,
      ⟨(some 14), none, .op (.un .not (.tmp 13))⟩,
      ⟨(some 15), none, .op (.move (.tmp 14))⟩,
      ⟨(some 16), (some (15, false)), .op (.move (.tmp 1))⟩,
      ⟨(some 17), (some (15, false)), .op (.bin .gtr (.tmp 16) (.const (.int .u64 4294967295)))⟩,
      ⟨(some 18), none, .op (.pick (.tmp 15) (.const (.bool true)) (.tmp 17))⟩,
      ⟨(some 19), none, .op (.move (.tmp 18))⟩,
      ⟨(some 20), (some (19, false)), .op (.move (.tmp 2))⟩,
      ⟨(some 21), (some (19, false)), .op (.bin .neq (.tmp 20) (.const (.int .i64 8)))⟩,
      ⟨(some 22), (some (19, false)), .op (.move (.tmp 21))⟩,
      ⟨(some 23), (some (22, true)), .op (.move (.tmp 2))⟩,
      ⟨(some 24), (some (22, true)), .op (.bin .neq (.tmp 23) (.const (.int .i64 16)))⟩,
      ⟨(some 25), (some (19, false)), .op (.pick (.tmp 22) (.tmp 24) (.const (.bool false)))⟩,
      ⟨(some 26), (some (19, false)), .op (.move (.tmp 25))⟩,
      ⟨(some 27), (some (26, true)), .op (.move (.tmp 2))⟩,
      ⟨(some 28), (some (26, true)), .op (.bin .neq (.tmp 27) (.const (.int .i64 32)))⟩,
      ⟨(some 29), (some (19, false)), .op (.pick (.tmp 26) (.tmp 28) (.const (.bool false)))⟩,
      ⟨(some 30), (some (19, false)), .op (.move (.tmp 29))⟩,
      ⟨(some 31), (some (30, true)), .op (.move (.tmp 2))⟩,
      ⟨(some 32), (some (30, true)), .op (.bin .neq (.tmp 31) (.const (.int .i64 64)))⟩,
      ⟨(some 33), (some (19, false)), .op (.pick (.tmp 30) (.tmp 32) (.const (.bool false)))⟩,
      ⟨(some 34), none, .op (.pick (.tmp 19) (.const (.bool true)) (.tmp 33))⟩,
      ⟨(some 35), none, .op (.move (.tmp 34))⟩,
      ⟨(some 36), (some (35, false)), .op (.move (.tmp 2))⟩,
      ⟨(some 37), (some (35, false)), .op (.move (.tmp 3))⟩,
      ⟨(some 38), (some (35, false)), .call (.func 19) [(.tmp 36), (.tmp 37)]⟩,
      ⟨(some 39), (some (35, false)), .op (.un .not (.tmp 38))⟩,
      ⟨(some 40), none, .op (.pick (.tmp 35) (.const (.bool true)) (.tmp 39))⟩])
    (.cond (.tmp 40) (.seq (.region [⟨(some 8), none, .op (.move (.const (.slice none 0 0)))⟩,
      ⟨(some 9), none, .op (.move (.const (.int .i64 2)))⟩])
    .ret) .skip))
    (.seq (.region [⟨(some 10), none, .op (.move (.const (.slice none 0 0)))⟩])
    (.seq (.region [⟨(some 41), none, .op (.move (.tmp 10))⟩,
      ⟨(some 42), none, .op (.move (.tmp 0))⟩,
      ⟨(some 43), none, .op (.app 36 2 16 (.tmp 41) (.tmp 42))⟩,
      ⟨(some 10), none, .op (.move (.tmp 43))⟩])
    (.seq (.seq (.region [⟨(some 11), none, .op (.move (.const (.int .i64 0)))⟩])
    (.block 0 (.loop A6l0)))
    (.seq (.seq (.region [⟨(some 62), none, .op (.move (.tmp 10))⟩,
      ⟨(some 63), none, .op (.len (.tmp 62))⟩,
      ⟨(some 64), none, .op (.bin .gtr (.tmp 63) (.const (.int .i64 4096)))⟩])
    (.cond (.tmp 64) (.seq (.region [⟨(some 8), none, .op (.move (.const (.slice none 0 0)))⟩,
      ⟨(some 9), none, .op (.move (.const (.int .i64 20)))⟩])
    .ret) .skip))
    (.seq (.region [⟨(some 65), none, .op (.move (.tmp 10))⟩,
      ⟨(some 8), none, .op (.move (.tmp 65))⟩,
      ⟨(some 9), none, .op (.move (.const (.int .i64 0)))⟩])
    .ret)))))))
def R6 : List RV := [.tmp 8, .tmp 9]
theorem is6 : Is Try.prog (fun _ _ => false) 6 66 A6 R6 := ⟨Try.f6, Try.func6, rfl, by kernel_rfl, by kernel_rfl, Try.call6⟩
def A7l0 : ACode :=
  (.seq (.seq (.region [⟨(some 11), none, .op (.move (.tmp 5))⟩,
      ⟨(some 12), none, .op (.move (.tmp 0))⟩,
      ⟨(some 13), none, .op (.len (.tmp 12))⟩,
      ⟨(some 14), none, .op (.bin .lss (.tmp 11) (.tmp 13))⟩])
    (.cond (.tmp 14) .skip (.exit 0)))
    (.seq (.block 1 (.seq (.dregion [⟨0, ⟨(some 17), none, .op (.move (.tmp 0))⟩, []⟩,
      ⟨1, ⟨(some 18), none, .op (.move (.tmp 5))⟩, []⟩,
      ⟨2, ⟨(some 19), none, .op (.idxA 2 (.tmp 17) (.tmp 18))⟩, []⟩,
      ⟨3, ⟨(some 20), none, .op (.load 2 true (.tmp 19))⟩, []⟩,
      ⟨4, ⟨(some 21), none, .op (.move (.tmp 1))⟩, []⟩,
      ⟨5, ⟨(some 22), none, .op (.move (.tmp 5))⟩, []⟩,
      ⟨6, ⟨(some 23), none, .op (.idxA 2 (.tmp 21) (.tmp 22))⟩, []⟩,
      ⟨7, ⟨(some 24), none, .op (.load 2 true (.tmp 23))⟩, []⟩,
      ⟨8, ⟨(some 25), none, .op (.eqS true [.int, .int] (.tmp 20) (.tmp 24))⟩, []⟩])
    (.cond (.tmp 25) (.seq (.region [⟨(some 4), none, .op (.move (.const (.bool false)))⟩])
    .ret) .skip)))
    (.region [⟨(some 15), none, .op (.move (.tmp 5))⟩,
      ⟨(some 16), none, .op (.bin .add (.tmp 15) (.const (.int .i64 1)))⟩,
      ⟨(some 5), none, .op (.move (.tmp 16))⟩])))
def A7 : ACode :=
  (.seq (.region [⟨(some 4), none, .op (.move (.const (.bool false)))⟩])
    (.seq (.seq (.region [⟨(some 6), none, .op (.move (.tmp 0))⟩,
      ⟨(some 7), none, .op (.len (.tmp 6))⟩,
      ⟨(some 8), none, .op (.move (.tmp 1))⟩,
      ⟨(some 9), none, .op (.len (.tmp 8))⟩,
      ⟨(some 10), none, .op (.bin .neq (.tmp 7) (.tmp 9))⟩])
    (.cond (.tmp 10) (.seq (.region [⟨(some 4), none, .op (.move (.const (.bool false)))⟩])
    .ret) .skip))
    (.seq (.seq (.region [⟨(some 5), none, .op (.move (.const (.int .i64 0)))⟩])
    (.block 0 (.loop A7l0)))
    (.seq (.region [⟨(some 4), none, .op (.move (.const (.bool true)))⟩])
    .ret))))
def R7 : List RV := [.tmp 4]
theorem is7 : Is Try.prog (fun _ _ => false) 7 26 A7 R7 := ⟨Try.f7, Try.func7, rfl, by kernel_rfl, by kernel_rfl, Try.call7⟩
def A8 : ACode :=
  (.seq (.region [⟨(some 2), none, .op (.box (.tmp 0))⟩,
      ⟨(some 3), none, .op (.box (.tmp 1))⟩,
      ⟨(some 4), none, .op (.move (.const (.bool false)))⟩])
    (.seq (.region [⟨(some 5), none, .op (.fieldA 0 (.tmp 2))⟩,
      ⟨(some 6), none, .op (.load 1 false (.tmp 5))⟩,
      ⟨(some 7), none, .op (.fieldA 0 (.tmp 3))⟩,
      ⟨(some 8), none, .op (.load 1 false (.tmp 7))⟩,
      ⟨(some 9), none, .call (.func 21) [(.tmp 6), (.tmp 8)]⟩,
      ⟨(some 10), none, .op (.move (.tmp 9))⟩,
      ⟨(some 11), (some (10, true)), .op (.fieldA 1 (.tmp 2))⟩,
      ⟨(some 12), (some (10, true)), .op (.load 1 false (.tmp 11))⟩,
      ⟨(some 13), (some (10, true)), .op (.fieldA 1 (.tmp 3))⟩,
      ⟨(some 14), (some (10, true)), .op (.load 1 false (.tmp 13))⟩,
      ⟨(some 15), (some (10, true)), .op (.bin .eql (.tmp 12) (.tmp 14))⟩,
      ⟨(some 16), none, .op (.pick (.tmp 10) (.tmp 15) (.const (.bool false)))⟩,
      ⟨(some 17), none, .op (.move (.tmp 16))⟩,
      ⟨(some 18), (some (17, true)), .op (.fieldA 2 (.tmp 2))⟩,
      ⟨(some 19), (some (17, true)), .op (.load 1 false (.tmp 18))⟩,
      ⟨(some 20), (some (17, true)), .op (.fieldA 2 (.tmp 3))⟩,
      ⟨(some 21), (some (17, true)), .op (.load 1 false (.tmp 20))⟩,
      ⟨(some 22), (some (17, true)), .op (.bin .eql (.tmp 19) (.tmp 21))⟩,
      ⟨(some 23), none, .op (.pick (.tmp 17) (.tmp 22) (.const (.bool false)))⟩,
      ⟨(some 24), none, .op (.move (.tmp 23))⟩,
      ⟨(some 25), (some (24, true)), .op (.fieldA 3 (.tmp 2))⟩,
      ⟨(some 26), (some (24, true)), .op (.load 1 false (.tmp 25))⟩,
      ⟨(some 27), (some (24, true)), .op (.fieldA 3 (.tmp 3))⟩,
      ⟨(some 28), (some (24, true)), .op (.load 1 false (.tmp 27))⟩,
      ⟨(some 29), (some (24, true)), .call (.func 22) [(.tmp 26), (.tmp 28)]⟩,
      ⟨(some 30), none, .op (.pick (.tmp 24) (.tmp 29) (.const (.bool false)))⟩,
      ⟨(some 4), none, .op (.move (.tmp 30))⟩])
    .ret))
def R8 : List RV := [.tmp 4]
theorem is8 : Is Try.prog (fun _ _ => false) 8 31 A8 R8 := ⟨Try.f8, Try.func8, rfl, by kernel_rfl, by kernel_rfl, Try.call8⟩
def A9 : ACode :=
  (.seq (.region [⟨(some 2), none, .op (.box (.tmp 0))⟩,
      ⟨(some 3), none, .op (.box (.tmp 1))⟩,
      ⟨(some 4), none, .op (.move (.const (.bool false)))⟩])
    (.seq (.region [⟨(some 5), none, .op (.fieldA 0 (.tmp 2))⟩,
      ⟨(some 6), none, .op (.load 1 false (.tmp 5))⟩,
      ⟨(some 7), none, .op (.fieldA 0 (.tmp 3))⟩,
      ⟨(some 8), none, .op (.load 1 false (.tmp 7))⟩,
      ⟨(some 9), none, .call (.func 23) [(.tmp 6), (.tmp 8)]⟩,
      ⟨(some 10), none, .op (.move (.tmp 9))⟩,
      ⟨(some 11), (some (10, true)), .op (.fieldA 1 (.tmp 2))⟩,
      ⟨(some 12), (some (10, true)), .op (.load 1 false (.tmp 11))⟩,
      ⟨(some 13), (some (10, true)), .op (.fieldA 1 (.tmp 3))⟩,
      ⟨(some 14), (some (10, true)), .op (.load 1 false (.tmp 13))⟩,
      ⟨(some 15), (some (10, true)), .op (.bin .eql (.tmp 12) (.tmp 14))⟩,
      ⟨(some 16), none, .op (.pick (.tmp 10) (.tmp 15) (.const (.bool false)))⟩,
      ⟨(some 17), none, .op (.move (.tmp 16))⟩,
      ⟨(some 18), (some (17, true)), .op (.fieldA 2 (.tmp 2))⟩,
      ⟨(some 19), (some (17, true)), .op (.load 1 false (.tmp 18))⟩,
      ⟨(some 20), (some (17, true)), .op (.fieldA 2 (.tmp 3))⟩,
      ⟨(some 21), (some (17, true)), .op (.load 1 false (.tmp 20))⟩,
      ⟨(some 22), (some (17, true)), .op (.bin .eql (.tmp 19) (.tmp 21))⟩,
      ⟨(some 23), none, .op (.pick (.tmp 17) (.tmp 22) (.const (.bool false)))⟩,
      ⟨(some 24), none, .op (.move (.tmp 23))⟩,
      ⟨(some 25), (some (24, true)), .op (.fieldA 3 (.tmp 2))⟩,
      ⟨(some 26), (some (24, true)), .op (.load 1 false (.tmp 25))⟩,
      ⟨(some 27), (some (24, true)), .op (.fieldA 3 (.tmp 3))⟩,
      ⟨(some 28), (some (24, true)), .op (.load 1 false (.tmp 27))⟩,
      ⟨(some 29), (some (24, true)), .call (.func 7) [(.tmp 26), (.tmp 28)]⟩,
      ⟨(some 30), none, .op (.pick (.tmp 24) (.tmp 29) (.const (.bool false)))⟩,
      ⟨(some 4), none, .op (.move (.tmp 30))⟩])
    .ret))
def R9 : List RV := [.tmp 4]
theorem is9 : Is Try.prog (fun _ _ => false) 9 31 A9 R9 := ⟨Try.f9, Try.func9, rfl, by kernel_rfl, by kernel_rfl, Try.call9⟩
def A10 : ACode :=
  (.seq (.region [⟨(some 2), none, .op (.move (.const (.bool false)))⟩])
    (.seq (.region [⟨(some 3), none, .op (.move (.tmp 0))⟩,
      ⟨(some 4), none, .op (.len (.tmp 3))⟩,
      ⟨(some 5), none, .op (.bin .leq (.tmp 4) (.const (.int .i64 4096)))⟩,
      ⟨(some 6), none, .op (.move (.tmp 5))⟩,
      ⟨(some 7), (some (6, true)), .op (.move (.tmp 0))⟩,
      ⟨(some 8), (some (6, true)), .call (.func 24) [(.tmp 7)]⟩,
      ⟨(some 9), (some (6, true)), .op (.bin .eql (.tmp 8) (.const (.int .i64 0)))⟩,
      ⟨(some 10), none, .op (.pick (.tmp 6) (.tmp 9) (.const (.bool false)))⟩,
      ⟨(some 11), none, .op (.move (.tmp 10))⟩,
      ⟨(some 12), (some (11, true)), .op (.move (.tmp 0))⟩,
      ⟨(some 13), (some (11, true)), .op (.len (.tmp 12))⟩,
      ⟨(some 14), (some (11, true)), .op (.bin .eql (.tmp 13) (.const (.int .i64 0)))⟩,
      ⟨(some 15), (some (11, true)), .op (.move (.tmp 14))⟩,
      ⟨(some 16), (some (15, false)), .op (.move (.tmp 0))⟩,
      ⟨(some 17), (some (15, false)), .op (.move (.tmp 0))⟩,
      ⟨(some 18), (some (15, false)), .op (.len (.tmp 17))⟩,
      ⟨(some 19), (some (15, false)), .op (.bin .sub (.tmp 18) (.const (.int .i64 1)))⟩,
      ⟨(some 20), (some (15, false)), .op (.idxA 2 (.tmp 16) (.tmp 19))⟩,
      ⟨(some 21), (some (15, false)), .op (.fieldA 0 (.tmp 20))⟩,
      ⟨(some 22), (some (15, false)), .op (.load 1 false (.tmp 21))⟩,
      ⟨(some 23), (some (15, false)), .op (.bin .shr (.tmp 22) (.const (.int .u64 32)))⟩,
      ⟨(some 24), (some (15, false)), .op (.bin .eql (.tmp 23) (.const (.int .u64 0)))⟩,
      ⟨(some 25), (some (11, true)), .op (.pick (.tmp 15) (.const (.bool true)) (.tmp 24))⟩,
      ⟨(some 26), none, .op (.pick (.tmp 11) (.tmp 25) (.const (.bool false)))⟩,
      ⟨(some 2), none, .op (.move (.tmp 26))⟩])
    .ret))
def R10 : List RV := [.tmp 2]
theorem is10 : Is Try.prog (fun _ _ => false) 10 27 A10 R10 := ⟨Try.f10, Try.func10, rfl, by kernel_rfl, by kernel_rfl, Try.call10⟩
def A11 : ACode :=
  (.seq (.region [⟨(some 4), none, .op (.move (.const (.bool false)))⟩])
    (.seq (.region [⟨(some 5), none, .op (.move (.tmp 0))⟩,
      ⟨(some 6), none, .op (.bin .shr (.tmp 5) (.const (.int .u64 1)))⟩,
      ⟨(some 7), none, .op (.move (.tmp 1))⟩,
      ⟨(some 8), none, .op (.bin .sub (.tmp 7) (.const (.int .i64 1)))⟩,
      ⟨(some 9), none, .op (.bin .shr (.tmp 6) (.tmp 8))⟩,
      ⟨(some 10), none, .op (.bin .eql (.tmp 9) (.const (.int .u64 0)))⟩,
      ⟨(some 4), none, .op (.move (.tmp 10))⟩])
    .ret))
def R11 : List RV := [.tmp 4]
theorem is11 : Is Try.prog (fun _ _ => false) 11 11 A11 R11 := ⟨Try.f11, Try.func11, rfl, by kernel_rfl, by kernel_rfl, Try.call11⟩
def A12 : ACode :=
  (.seq (.region [⟨(some 4), none, .op (.move (.const (.bool false)))⟩])
    (.seq (.region [⟨(some 5), none, .op (.move (.tmp 0))⟩,
      ⟨(some 6), none, .op (.move (.tmp 1))⟩,
      ⟨(some 7), none, .call (.func 25) [(.tmp 5), (.tmp 6)]⟩,
      ⟨(some 8), none, .op (.bin .geq (.tmp 7) (.const (.int .i64 0)))⟩,
      ⟨(some 4), none, .op (.move (.tmp 8))⟩])
    .ret))
def R12 : List RV := [.tmp 4]
theorem is12 : Is Try.prog (fun _ _ => false) 12 9 A12 R12 := ⟨Try.f12, Try.func12, rfl, by kernel_rfl, by kernel_rfl, Try.call12⟩
def A13 : ACode :=
  (.seq (.region [⟨(some 2), none, .op (.move (.const (.slice none 0 0)))⟩])
    (.seq (.seq (.region [⟨(some 3), none, .op (.move (.tmp 0))⟩,
      ⟨(some 4), none, .op (.eqN false .sl (.tmp 3))⟩])
    (.cond (.tmp 4) (.seq (.region [⟨(some 2), none, .op (.move (.const (.slice none 0 0)))⟩])
    .ret) .skip))
    (.seq (.region [⟨(some 5), none, .op (.buildO 36 [(.int .u64 0), (.int .u8 0)] 0 [])⟩,
      ⟨(some 6), none, .op (.move (.tmp 0))⟩,
      ⟨(some 7), none, .op (.app 36 2 16 (.tmp 5) (.tmp 6))⟩,
      ⟨(some 2), none, .op (.move (.tmp 7))⟩])
    .ret)))
def R13 : List RV := [.tmp 2]
theorem is13 : Is Try.prog (fun r i => [(3, 0)].contains (r, i)) 13 8 A13 R13 := ⟨Try.f13, Try.func13, rfl, by kernel_rfl, by kernel_rfl, Try.call13⟩
def A14l0 : ACode :=
  (.seq (.seq (.region [⟨(some 15), none, .op (.move (.tmp 9))⟩,
      ⟨(some 16), none, .op (.move (.tmp 10))⟩,
      ⟨(some 17), none, .op (.bin .lss (.tmp 15) (.tmp 16))⟩])
    (.cond (.tmp 17) .skip (.exit 0)))
    (.block 1 (.seq (.region [⟨(some 18), none, .op (.move (.tmp 9))⟩,
      ⟨(some 19), none, .op (.move (.tmp 10))⟩,
      ⟨(some 20), none, .op (.bin .add (.tmp 18) (.tmp 19))⟩,
      ⟨(some 21), none, .op (.conv .u64 (.tmp 20))⟩,
      ⟨(some 22), none, .op (.bin .shr (.tmp 21) (.const (.int .u64 1)))⟩,
      ⟨(some 23), none, .op (.conv .i64 (.tmp 22))⟩,
      ⟨(some 11), none, .op (.move (.tmp 23))⟩])
    (.seq (.region [⟨(some 24), none, .op (.move (.tmp 2))⟩,
      ⟨(some 25), none, .op (.move (.tmp 0))⟩,
      ⟨(some 26), none, .op (.move (.tmp 11))⟩,
      ⟨(some 27), none, .op (.idxA 2 (.tmp 25) (.tmp 26))⟩,
      ⟨(some 28), none, .op (.load 2 true (.tmp 27))⟩,
      ⟨(some 29), none, .op (.move (.tmp 1))⟩,
      ⟨(some 30), none, .call (.tmp 24) [(.tmp 28), (.tmp 29)]⟩,
      ⟨(some 31), none, .op (.bin .lss (.tmp 30) (.const (.int .i64 0)))⟩])
    (.cond (.tmp 31) (.region [⟨(some 32), none, .op (.move (.tmp 11))⟩,
      ⟨(some 33), none, .op (.bin .add (.tmp 32) (.const (.int .i64 1)))⟩,
      ⟨(some 9), none, .op (.move (.tmp 33))⟩]) (.region [⟨(some 34), none, .op (.move (.tmp 11))⟩,
      ⟨(some 10), none, .op (.move (.tmp 34))⟩]))))))
def A14 : ACode :=
  (.seq (.region [⟨(some 6), none, .op (.move (.const (.int .i64 0)))⟩,
      ⟨(some 7), none, .op (.move (.const (.bool false)))⟩])
    (.seq (.region [⟨(some 12), none, .op (.move (.tmp 0))⟩,
      ⟨(some 13), none, .op (.len (.tmp 12))⟩,
      ⟨(some 8), none, .op (.move (.tmp 13))⟩])
    (.seq (.region [⟨(some 14), none, .op (.move (.tmp 8))⟩,
      ⟨(some 9), none, .op (.move (.const (.int .i64 0)))⟩,
      ⟨(some 10), none, .op (.move (.tmp 14))⟩])
    (.seq (.block 0 (.loop A14l0))
    (.seq (.region [⟨(some 35), none, .op (.move (.tmp 9))⟩,
      ⟨(some 36), none, .op (.move (.tmp 9))⟩,
      ⟨(some 37), none, .op (.move (.tmp 8))⟩,
      ⟨(some 38), none, .op (.bin .lss (.tmp 36) (.tmp 37))⟩,
      ⟨(some 39), none, .op (.move (.tmp 38))⟩,
      ⟨(some 40), (some (39, true)), .op (.move (.tmp 2))⟩,
      ⟨(some 41), (some (39, true)), .op (.move (.tmp 0))⟩,
      ⟨(some 42), (some (39, true)), .op (.move (.tmp 9))⟩,
      ⟨(some 43), (some (39, true)), .op (.idxA 2 (.tmp 41) (.tmp 42))⟩,
      ⟨(some 44), (some (39, true)), .op (.load 2 true (.tmp 43))⟩,
      ⟨(some 45), (some (39, true)), .op (.move (.tmp 1))⟩,
      ⟨(some 46), (some (39, true)), .call (.tmp 40) [(.tmp 44), (.tmp 45)]⟩,
      ⟨(some 47), (some (39, true)), .op (.bin .eql (.tmp 46) (.const (.int .i64 0)))⟩,
      ⟨(some 48), none, .op (.pick (.tmp 39) (.tmp 47) (.const (.bool false)))⟩,
      ⟨(some 6), none, .op (.move (.tmp 35))⟩,
      ⟨(some 7), none, .op (.move (.tmp 48))⟩])
    .ret)))))
def R14 : List RV := [.tmp 6, .tmp 7]
theorem is14 : Is Try.prog (fun _ _ => false) 14 49 A14 R14 := ⟨Try.f14, Try.func14, rfl, by kernel_rfl, by kernel_rfl, Try.call14⟩
def A15 : ACode :=
  (.seq (.region [⟨(some 2), none, .op (.box (.tmp 0))⟩,
      ⟨(some 4), none, .op (.move (.const (.int .i64 0)))⟩])
    (.seq (.block 0 (.seq (.region [⟨(some 6), none, .op (.fieldA 0 (.tmp 2))⟩,
      ⟨(some 7), none, .op (.load 1 false (.tmp 6))⟩,
      ⟨(some 8), none, .op (.move (.tmp 1))⟩,
      ⟨(some 9), none, .op (.bin .lss (.tmp 7) (.tmp 8))⟩,
      ⟨(some 5), none, .op (.move (.tmp 9))⟩])
    (.cond (.tmp 5) (.seq (.region [⟨(some 4), none, .op (.move (.const (.int .i64 (-1))))⟩])
    .ret) (.seq (.region [⟨(some 11), none, .op (.fieldA 0 (.tmp 2))⟩,
      ⟨(some 12), none, .op (.load 1 false (.tmp 11))⟩,
      ⟨(some 13), none, .op (.move (.tmp 1))⟩,
      ⟨(some 14), none, .op (.bin .gtr (.tmp 12) (.tmp 13))⟩,
      ⟨(some 10), none, .op (.move (.tmp 14))⟩])
    (.cond (.tmp 10) (.seq (.region [⟨(some 4), none, .op (.move (.const (.int .i64 1)))⟩])
    .ret) .skip)))))
    (.seq (.region [⟨(some 4), none, .op (.move (.const (.int .i64 0)))⟩])
    .ret)))
def R15 : List RV := [.tmp 4]
theorem is15 : Is Try.prog (fun _ _ => false) 15 15 A15 R15 := ⟨Try.f15, Try.func15, rfl, by kernel_rfl, by kernel_rfl, Try.call15⟩
def A16 : ACode :=
  (.seq (.region [⟨(some 6), none, .op (.move (.const (.slice none 0 0)))⟩])
    (.seq (.region [⟨(some 8), none, .op (.move (.tmp 0))⟩,
      ⟨(some 9), none, .op (.move (.tmp 1))⟩,
      ⟨(some 10), none, .op (.move (.tmp 2))⟩,
      ⟨(some 11), none, .op (.move (.tmp 0))⟩,
      ⟨(some 12), none, .op (.len (.tmp 11))⟩,
      ⟨(some 13), none, .op (.slc 2 (.tmp 8) (some (.tmp 9)) (some (.tmp 10)) (some (.tmp 12)))⟩])
    (.seq (.seq (.region [⟨(some 14), none, .op (.move (.tmp 1))⟩,
      ⟨(some 15), none, .op (.move (.tmp 2))⟩,
      ⟨(some 16), none, .op (.bin .eql (.tmp 14) (.tmp 15))⟩])
    (.cond (.tmp 16) (.seq (.region [⟨(some 17), none, .op (.move (.tmp 0))⟩,
      ⟨(some 6), none, .op (.move (.tmp 17))⟩])
    .ret) .skip))
    (.seq (.region [⟨(some 18), none, .op (.move (.tmp 0))⟩,
      ⟨(some 19), none, .op (.len (.tmp 18))⟩,
      ⟨(some 7), none, .op (.move (.tmp 19))⟩])
    (.seq (.dregion [⟨0, ⟨(some 20), none, .op (.move (.tmp 0))⟩, []⟩,
      ⟨1, ⟨(some 21), none, .op (.move (.tmp 1))⟩, []⟩,
      ⟨2, ⟨(some 22), none, .op (.slc 2 (.tmp 20) none (some (.tmp 21)) none)⟩, []⟩,
      ⟨3, ⟨(some 23), none, .op (.move (.tmp 0))⟩, []⟩,
      ⟨4, ⟨(some 24), none, .op (.move (.tmp 2))⟩, []⟩,
      ⟨5, ⟨(some 25), none, .op (.slc 2 (.tmp 23) (some (.tmp 24)) none none)⟩, []⟩,
      ⟨6, ⟨(some 26), none, .op (.app 36 2 16 (.tmp 22) (.tmp 25))⟩, []⟩,
      ⟨7, ⟨(some 0), none, .op (.move (.tmp 26))⟩, []⟩])
    (.seq (.region [⟨(some 27), none, .op (.move (.tmp 0))⟩,
      ⟨(some 28), none, .op (.move (.tmp 0))⟩,
      ⟨(some 29), none, .op (.len (.tmp 28))⟩,
      ⟨(some 30), none, .op (.move (.tmp 7))⟩,
      ⟨(some 31), none, .op (.slc 2 (.tmp 27) (some (.tmp 29)) (some (.tmp 30)) none)⟩,
      ⟨none, none, .op (.clear [(.int .u64 0), (.int .u8 0)] (.tmp 31))⟩])
    (.seq (.region [⟨(some 32), none, .op (.move (.tmp 0))⟩,
      ⟨(some 6), none, .op (.move (.tmp 32))⟩])
    .ret)))))))
def R16 : List RV := [.tmp 6]
theorem is16 : Is Try.prog (fun _ _ => false) 16 33 A16 R16 := ⟨Try.f16, Try.func16, rfl, by kernel_rfl, by kernel_rfl, Try.call16⟩
def A17 : ACode :=
  (.seq (.region [⟨(some 6), none, .op (.move (.const (.slice none 0 0)))⟩])
    (.seq (.region [⟨(some 10), none, .op (.move (.tmp 0))⟩,
      ⟨(some 11), none, .op (.move (.tmp 1))⟩,
      ⟨(some 12), none, .op (.slc 2 (.tmp 10) (some (.tmp 11)) none none)⟩])
    (.seq (.region [⟨(some 13), none, .op (.move (.tmp 2))⟩,
      ⟨(some 14), none, .op (.len (.tmp 13))⟩,
      ⟨(some 7), none, .op (.move (.tmp 14))⟩])
    (.seq (.seq (.region [⟨(some 15), none, .op (.move (.tmp 7))⟩,
      ⟨(some 16), none, .op (.bin .eql (.tmp 15) (.const (.int .i64 0)))⟩])
    (.cond (.tmp 16) (.seq (.region [⟨(some 17), none, .op (.move (.tmp 0))⟩,
      ⟨(some 6), none, .op (.move (.tmp 17))⟩])
    .ret) .skip))
    (.seq (.region [⟨(some 18), none, .op (.move (.tmp 0))⟩,
      ⟨(some 19), none, .op (.len (.tmp 18))⟩,
      ⟨(some 8), none, .op (.move (.tmp 19))⟩])
    (.seq (.seq (.region [⟨(some 20), none, .op (.move (.tmp 1))⟩,
      ⟨(some 21), none, .op (.move (.tmp 8))⟩,
      ⟨(some 22), none, .op (.bin .eql (.tmp 20) (.tmp 21))⟩])
    (.cond (.tmp 22) (.seq (.region [⟨(some 23), none, .op (.move (.tmp 0))⟩,
      ⟨(some 24), none, .op (.move (.tmp 2))⟩,
      ⟨(some 25), none, .op (.app 36 2 16 (.tmp 23) (.tmp 24))⟩,
      ⟨(some 6), none, .op (.move (.tmp 25))⟩])
    .ret) .skip))
    (.seq (.seq (.region [⟨(some 26), none, .op (.move (.tmp 8))⟩,
      ⟨(some 27), none, .op (.move (.tmp 7))⟩,
      ⟨(some 28), none, .op (.bin .add (.tmp 26) (.tmp 27))⟩,
      ⟨(some 29), none, .op (.move (.tmp 0))⟩,
      ⟨(some 30), none, .op (.cap (.tmp 29))⟩,
      ⟨(some 31), none, .op (.bin .gtr (.tmp 28) (.tmp 30))⟩])
    (.cond (.tmp 31) (.seq (.region [⟨(some 32), none, .op (.move (.tmp 0))⟩,
      ⟨(some 33), none, .op (.move (.tmp 1))⟩,
      ⟨(some 34), none, .op (.slc 2 (.tmp 32) none (some (.tmp 33)) none)⟩,
      ⟨(some 35), none, .op (.move (.tmp 8))⟩,
      ⟨(some 36), none, .op (.move (.tmp 7))⟩,
      ⟨(some 37), none, .op (.bin .add (.tmp 35) (.tmp 36))⟩,
      ⟨(some 38), none, .op (.move (.tmp 1))⟩,
      ⟨(some 39), none, .op (.bin .sub (.tmp 37) (.tmp 38))⟩,
      ⟨(some 40), none, .op (.appZ 36 [(.int .u64 0), (.int .u8 0)] 16 (.tmp 34) (.tmp 39))⟩,
      ⟨(some 9), none, .op (.move (.tmp 40))⟩])
    (.seq (.region [⟨(some 41), none, .op (.move (.tmp 9))⟩,
      ⟨(some 42), none, .op (.move (.tmp 1))⟩,
      ⟨(some 43), none, .op (.slc 2 (.tmp 41) (some (.tmp 42)) none none)⟩,
      ⟨(some 44), none, .op (.move (.tmp 2))⟩,
      ⟨(some 45), none, .op (.copy 2 (.tmp 43) (.tmp 44))⟩])
    (.seq (.dregion [⟨0, ⟨(some 46), none, .op (.move (.tmp 9))⟩, []⟩,
      ⟨1, ⟨(some 47), none, .op (.move (.tmp 1))⟩, []⟩,
      ⟨2, ⟨(some 48), none, .op (.move (.tmp 7))⟩, []⟩,
      ⟨3, ⟨(some 49), none, .op (.bin .add (.tmp 47) (.tmp 48))⟩, []⟩,
      ⟨4, ⟨(some 50), none, .op (.slc 2 (.tmp 46) (some (.tmp 49)) none none)⟩, []⟩,
      ⟨5, ⟨(some 51), none, .op (.move (.tmp 0))⟩, []⟩,
      ⟨6, ⟨(some 52), none, .op (.move (.tmp 1))⟩, []⟩,
      ⟨7, ⟨(some 53), none, .op (.slc 2 (.tmp 51) (some (.tmp 52)) none none)⟩, []⟩,
      ⟨8, ⟨(some 54), none, .op (.copy 2 (.tmp 50) (.tmp 53))⟩, []⟩])
    (.seq (.region [⟨(some 55), none, .op (.move (.tmp 9))⟩,
      ⟨(some 6), none, .op (.move (.tmp 55))⟩])
    .ret)))) .skip))
    (.seq (.region [⟨(some 56), none, .op (.move (.tmp 0))⟩,
      ⟨(some 57), none, .op (.move (.tmp 8))⟩,
      ⟨(some 58), none, .op (.move (.tmp 7))⟩,
      ⟨(some 59), none, .op (.bin .add (.tmp 57) (.tmp 58))⟩,
      ⟨(some 60), none, .op (.slc 2 (.tmp 56) none (some (.tmp 59)) none)⟩,
      ⟨(some 0), none, .op (.move (.tmp 60))⟩])
    (.seq (.seq (.region [⟨(some 61), none, .op (.move (.tmp 2))⟩,
      ⟨(some 62), none, .op (.move (.tmp 0))⟩,
      ⟨(some 63), none, .op (.move (.tmp 1))⟩,
      ⟨(some 64), none, .op (.move (.tmp 7))⟩,
      ⟨(some 65), none, .op (.bin .add (.tmp 63) (.tmp 64))⟩,
      ⟨(some 66), none, .op (.slc 2 (.tmp 62) (some (.tmp 65)) none none)⟩,
      ⟨(some 67), none, .op (.ovl (.tmp 61) (.tmp 66))⟩,
      ⟨(some 68), none, .op (.un .not (.tmp 67))⟩])
    (.cond (.tmp 68) (.seq (.dregion [⟨0, ⟨(some 69), none, .op (.move (.tmp 0))⟩, []⟩,
      ⟨1, ⟨(some 70), none, .op (.move (.tmp 1))⟩, []⟩,
      ⟨2, ⟨(some 71), none, .op (.move (.tmp 7))⟩, []⟩,
      ⟨3, ⟨(some 72), none, .op (.bin .add (.tmp 70) (.tmp 71))⟩, []⟩,
      ⟨4, ⟨(some 73), none, .op (.slc 2 (.tmp 69) (some (.tmp 72)) none none)⟩, []⟩,
      ⟨5, ⟨(some 74), none, .op (.move (.tmp 0))⟩, []⟩,
      ⟨6, ⟨(some 75), none, .op (.move (.tmp 1))⟩, []⟩,
      ⟨7, ⟨(some 76), none, .op (.slc 2 (.tmp 74) (some (.tmp 75)) none none)⟩, []⟩,
      ⟨8, ⟨(some 77), none, .op (.copy 2 (.tmp 73) (.tmp 76))⟩, []⟩])
    (.seq (.region [⟨(some 78), none, .op (.move (.tmp 0))⟩,
      ⟨(some 79), none, .op (.move (.tmp 1))⟩,
      ⟨(some 80), none, .op (.slc 2 (.tmp 78) (some (.tmp 79)) none none)⟩,
      ⟨(some 81), none, .op (.move (.tmp 2))⟩,
      ⟨(some 82), none, .op (.copy 2 (.tmp 80) (.tmp 81))⟩])
    (.seq (.region [⟨(some 83), none, .op (.move (.tmp 0))⟩,
      ⟨(some 6), none, .op (.move (.tmp 83))⟩])
    .ret))) .skip))
    (.seq (.region [⟨(some 84), none, .op (.move (.tmp 0))⟩,
      ⟨(some 85), none, .op (.move (.tmp 8))⟩,
      ⟨(some 86), none, .op (.slc 2 (.tmp 84) (some (.tmp 85)) none none)⟩,
      ⟨(some 87), none, .op (.move (.tmp 2))⟩,
      ⟨(some 88), none, .op (.copy 2 (.tmp 86) (.tmp 87))⟩])
    (.seq (.region [⟨(some 89), none, .op (.move (.tmp 0))⟩,
      ⟨(some 90), none, .op (.move (.tmp 1))⟩,
      ⟨(some 91), none, .op (.slc 2 (.tmp 89) (some (.tmp 90)) none none)⟩,
      ⟨(some 92), none, .op (.move (.tmp 7))⟩,
      ⟨(some 93), none, .call (.func 27) [(.tmp 91), (.tmp 92)]⟩])
    (.seq (.region [⟨(some 94), none, .op (.move (.tmp 0))⟩,
      ⟨(some 6), none, .op (.move (.tmp 94))⟩])
    .ret))))))))))))
def R17 : List RV := [.tmp 6]
theorem is17 : Is Try.prog (fun _ _ => false) 17 95 A17 R17 := ⟨Try.f17, Try.func17, rfl, by kernel_rfl, by kernel_rfl, Try.call17⟩
def A18 : ACode :=
  (.seq (.region [⟨(some 2), none, .op (.move (.const (.bool false)))⟩])
    (.seq (.region [⟨(some 3), none, .op (.move (.tmp 0))⟩,
      ⟨(some 4), none, .op (.len (.tmp 3))⟩,
      ⟨(some 5), none, .op (.bin .leq (.tmp 4) (.const (.int .i64 4096)))⟩,
      ⟨(some 6), none, .op (.move (.tmp 5))⟩,
      ⟨(some 7), (some (6, true)), .op (.move (.tmp 0))⟩,
      ⟨(some 8), (some (6, true)), .call (.func 28) [(.tmp 7)]⟩,
      ⟨(some 9), (some (6, true)), .op (.bin .eql (.tmp 8) (.const (.int .i64 0)))⟩,
      ⟨(some 10), none, .op (.pick (.tmp 6) (.tmp 9) (.const (.bool false)))⟩,
      ⟨(some 11), none, .op (.move (.tmp 10))⟩,
      ⟨(some 12), (some (11, true)), .op (.move (.tmp 0))⟩,
      ⟨(some 13), (some (11, true)), .op (.len (.tmp 12))⟩,
      ⟨(some 14), (some (11, true)), .op (.bin .eql (.tmp 13) (.const (.int .i64 0)))⟩,
      ⟨(some 15), (some (11, true)), .op (.move (.tmp 14))⟩,
      ⟨(some 16), (some (15, false)), .op (.move (.tmp 0))⟩,
      ⟨(some 17), (some (15, false)), .op (.move (.tmp 0))⟩,
      ⟨(some 18), (some (15, false)), .op (.len (.tmp 17))⟩,
      ⟨(some 19), (some (15, false)), .op (.bin .sub (.tmp 18) (.const (.int .i64 1)))⟩,
      ⟨(some 20), (some (15, false)), .op (.idxA 2 (.tmp 16) (.tmp 19))⟩,
      ⟨(some 21), (some (15, false)), .op (.fieldA 0 (.tmp 20))⟩,
      ⟨(some 22), (some (15, false)), .op (.load 1 false (.tmp 21))⟩,
      ⟨(some 23), (some (15, false)), .op (.bin .leq (.tmp 22) (.const (.int .u64 4294967295)))⟩,
      ⟨(some 24), (some (11, true)), .op (.pick (.tmp 15) (.const (.bool true)) (.tmp 23))⟩,
      ⟨(some 25), none, .op (.pick (.tmp 11) (.tmp 24) (.const (.bool false)))⟩,
      ⟨(some 2), none, .op (.move (.tmp 25))⟩])
    .ret))
def R18 : List RV := [.tmp 2]
theorem is18 : Is Try.prog (fun _ _ => false) 18 26 A18 R18 := ⟨Try.f18, Try.func18, rfl, by kernel_rfl, by kernel_rfl, Try.call18⟩
def A19 : ACode :=
  (.seq (.region [⟨(some 4), none, .op (.move (.const (.bool false)))⟩])
    (.seq (.region [⟨(some 5), none, .op (.move (.tmp 0))⟩,
      ⟨(some 6), none, .call (.func 29) [(.tmp 5)]⟩,
      ⟨(some 7), none, .op (.move (.tmp 6))⟩,
      ⟨(some 8), (some (7, true)), .op (.move (.tmp 0))⟩,
      ⟨(some 9), (some (7, true)), .op (.bin .eql (.tmp 8) (.const (.int .i64 64)))⟩,
      ⟨(some 10), (some (7, true)), .op (.move (.tmp 9))⟩,
      ⟨(some 11), (some (10, false)), .op (.move (.tmp 1))⟩,
      ⟨(some 12), (some (10, false)), .op (.move (.tmp 0))⟩,
      ⟨(some 13), (some (10, false)), .call (.func 30) [(.tmp 12)]⟩,
      ⟨(some 14), (some (10, false)), .op (.bin .lss (.tmp 11) (.tmp 13))⟩,
      ⟨(some 15), (some (7, true)), .op (.pick (.tmp 10) (.const (.bool true)) (.tmp 14))⟩,
      ⟨(some 16), none, .op (.pick (.tmp 7) (.tmp 15) (.const (.bool false)))⟩,
      ⟨(some 4), none, .op (.move (.tmp 16))⟩])
    .ret))
def R19 : List RV := [.tmp 4]
theorem is19 : Is Try.prog (fun _ _ => false) 19 17 A19 R19 := ⟨Try.f19, Try.func19, rfl, by kernel_rfl, by kernel_rfl, Try.call19⟩
def A20l0 : ACode :=
  (.seq (.seq (.region [⟨(some 10), none, .op (.move (.tmp 8))⟩,
      ⟨(some 11), none, .op (.move (.tmp 0))⟩,
      ⟨(some 12), none, .op (.len (.tmp 11))⟩,
      ⟨(some 13), none, .op (.bin .lss (.tmp 10) (.tmp 12))⟩,
      ⟨(some 14), none, .op (.move (.tmp 13))⟩,
      ⟨(some 15), (some (14, true)), .op (.move (.tmp 0))⟩,
      ⟨(some 16), (some (14, true)), .op (.move (.tmp 8))⟩,
      ⟨(some 17), (some (14, true)), .op (.idxA 2 (.tmp 15) (.tmp 16))⟩,
      ⟨(some 18), (some (14, true)), .op (.fieldA 0 (.tmp 17))⟩,
      ⟨(some 19), (some (14, true)), .op (.load 1 false (.tmp 18))⟩,
      ⟨(some 20), (some (14, true)), .op (.move (.tmp 1))⟩,
      ⟨(some 21), (some (14, true)), .op (.bin .lss (.tmp 19) (.tmp 20))⟩,
      ⟨(some 22), none, .op (.pick (.tmp 14) (.tmp 21) (.const (.bool false)))⟩])
    (.cond (.tmp 22) .skip (.exit 0)))
    (.seq (.block 1 (.region [⟨(some 25), none, .op (.move (.tmp 7))⟩,
      ⟨(some 26), none, .op (.move (.tmp 0))⟩,
      ⟨(some 27), none, .op (.move (.tmp 8))⟩,
      ⟨(some 28), none, .op (.idxA 2 (.tmp 26) (.tmp 27))⟩,
      ⟨(some 29), none, .op (.load 2 true (.tmp 28))⟩,
      ⟨(some 30), none, .op (.buildF [(.int .u64 0), (.int .u8 0)] 1 [(0, (.tmp 29))])⟩,
      ⟨(some 31), none, .op (.app 36 2 16 (.tmp 25) (.tmp 30))⟩,
      ⟨(some 7), none, .op (.move (.tmp 31))⟩]))
    (.region [⟨(some 23), none, .op (.move (.tmp 8))⟩,
      ⟨(some 24), none, .op (.bin .add (.tmp 23) (.const (.int .i64 1)))⟩,
      ⟨(some 8), none, .op (.move (.tmp 24))⟩])))
def A20l1 : ACode :=
  (.seq (.seq (.region [⟨(some 40), none, .op (.move (.tmp 9))⟩,
      ⟨(some 41), none, .op (.move (.tmp 0))⟩,
      ⟨(some 42), none, .op (.len (.tmp 41))⟩,
      ⟨(some 43), none, .op (.bin .lss (.tmp 40) (.tmp 42))⟩])
    (.cond (.tmp 43) .skip (.exit 2)))
    (.seq (.block 3 (.seq (.region [⟨(some 46), none, .op (.move (.tmp 0))⟩,
      ⟨(some 47), none, .op (.move (.tmp 9))⟩,
      ⟨(some 48), none, .op (.idxA 2 (.tmp 46) (.tmp 47))⟩,
      ⟨(some 49), none, .op (.fieldA 0 (.tmp 48))⟩,
      ⟨(some 50), none, .op (.load 1 false (.tmp 49))⟩,
      ⟨(some 51), none, .op (.move (.tmp 1))⟩,
      ⟨(some 52), none, .op (.bin .gtr (.tmp 50) (.tmp 51))⟩])
    (.cond (.tmp 52) (.region [⟨(some 53), none, .op (.move (.tmp 7))⟩,
      ⟨(some 54), none, .op (.move (.tmp 0))⟩,
      ⟨(some 55), none, .op (.move (.tmp 9))⟩,
      ⟨(some 56), none, .op (.idxA 2 (.tmp 54) (.tmp 55))⟩,
      ⟨(some 57), none, .op (.load 2 true (.tmp 56))⟩,
      ⟨(some 58), none, .op (.buildF [(.int .u64 0), (.int .u8 0)] 1 [(0, (.tmp 57))])⟩,
      ⟨(some 59), none, .op (.app 36 2 16 (.tmp 53) (.tmp 58))⟩,
      ⟨(some 7), none, .op (.move (.tmp 59))⟩]) .skip)))
    (.region [⟨(some 44), none, .op (.move (.tmp 9))⟩,
      ⟨(some 45), none, .op (.bin .add (.tmp 44) (.const (.int .i64 1)))⟩,
      ⟨(some 9), none, .op (.move (.tmp 45))⟩])))
def A20 : ACode :=
  (.seq (.region [⟨(some 6), none, .op (.move (.const (.slice none 0 0)))⟩])
    (.seq (.region [⟨(some 7), none, .op (.move (.const (.slice none 0 0)))⟩])
    (.seq (.seq (.region [⟨(some 8), none, .op (.move (.const (.int .i64 0)))⟩])
    (.block 0 (.loop A20l0)))
    (.seq (.seq (.region [⟨(some 32), none, .op (.move (.tmp 2))⟩,
      ⟨(some 33), none, .op (.bin .neq (.tmp 32) (.const (.int .u8 0)))⟩])
    (.cond (.tmp 33) (.region [⟨(some 34), none, .op (.move (.tmp 7))⟩,
      ⟨(some 35), none, .op (.move (.tmp 1))⟩,
      ⟨(some 36), none, .op (.move (.tmp 2))⟩,
      ⟨(some 37), none, .op (.build [(.int .u64 0), (.int .u8 0)] [(0, 1, (.tmp 35)), (1, 1, (.tmp 36))])⟩,
      ⟨(some 38), none, .op (.buildF [(.int .u64 0), (.int .u8 0)] 1 [(0, (.tmp 37))])⟩,
      ⟨(some 39), none, .op (.app 36 2 16 (.tmp 34) (.tmp 38))⟩,
      ⟨(some 7), none, .op (.move (.tmp 39))⟩]) .skip))
    (.seq (.seq (.region [⟨(some 9), none, .op (.move (.const (.int .i64 0)))⟩])
    (.block 2 (.loop A20l1)))
    (.seq (.region [⟨(some 60), none, .op (.move (.tmp 7))⟩,
      ⟨(some 6), none, .op (.move (.tmp 60))⟩])
    .ret))))))
def R20 : List RV := [.tmp 6]
theorem is20 : Is Try.prog (fun _ _ => false) 20 61 A20 R20 := ⟨Try.f20, Try.func20, rfl, by kernel_rfl, by kernel_rfl, Try.call20⟩
def A21l0 : ACode :=
  (.seq (.region [⟨(some 14), none, .op (.bin .lss (.tmp 13) (.tmp 12))⟩])
    (.seq (.cond (.tmp 14) .skip (.exit 0))
    (.seq (.block 1 (.seq (.region [⟨(some 15), none, .op (.move (.tmp 13))⟩,
      ⟨(some 5), none, .op (.move (.tmp 15))⟩])
    (.seq (.dregion [⟨0, ⟨(some 16), none, .op (.move (.tmp 0))⟩, []⟩,
      ⟨1, ⟨(some 17), none, .op (.move (.tmp 5))⟩, []⟩,
      ⟨2, ⟨(some 18), none, .op (.idxA 1 (.tmp 16) (.tmp 17))⟩, []⟩,
      ⟨3, ⟨(some 19), none, .op (.load 1 false (.tmp 18))⟩, []⟩,
      ⟨4, ⟨(some 20), none, .op (.move (.tmp 1))⟩, []⟩,
      ⟨5, ⟨(some 21), none, .op (.move (.tmp 5))⟩, []⟩,
      ⟨6, ⟨(some 22), none, .op (.idxA 1 (.tmp 20) (.tmp 21))⟩, []⟩,
      ⟨7, ⟨(some 23), none, .op (.load 1 false (.tmp 22))⟩, []⟩,
      ⟨8, ⟨(some 24), none, .op (.bin .neq (.tmp 19) (.tmp 23))⟩, []⟩])
    (.cond (.tmp 24) (.seq (.region [⟨(some 4), none, .op (.move (.const (.bool false)))⟩])
    .ret) .skip))))
    (.region [⟨(some 25), none, .op (.bin .add (.tmp 13) (.const (.int .i64 1)))⟩,
      ⟨(some 13), none, .op (.move (.tmp 25))⟩]))))
def A21 : ACode :=
  (.seq (.region [⟨(some 4), none, .op (.move (.const (.bool false)))⟩])
    (.seq (.seq (.region [⟨(some 6), none, .op (.move (.tmp 0))⟩,
      ⟨(some 7), none, .op (.len (.tmp 6))⟩,
      ⟨(some 8), none, .op (.move (.tmp 1))⟩,
      ⟨(some 9), none, .op (.len (.tmp 8))⟩,
      ⟨(some 10), none, .op (.bin .neq (.tmp 7) (.tmp 9))⟩])
    (.cond (.tmp 10) (.seq (.region [⟨(some 4), none, .op (.move (.const (.bool false)))⟩])
    .ret) .skip))
    (.seq (.seq (.region [⟨(some 11), none, .op (.move (.tmp 0))⟩,
      ⟨(some 12), none, .op (.len (.tmp 11))⟩,
      ⟨(some 13), none, .op (.move (.const (.int .i64 0)))⟩])
    (.block 0 (.loop A21l0)))
    (.seq (.region [⟨(some 4), none, .op (.move (.const (.bool true)))⟩])
    .ret))))
def R21 : List RV := [.tmp 4]
theorem is21 : Is Try.prog (fun _ _ => false) 21 26 A21 R21 := ⟨Try.f21, Try.func21, rfl, by kernel_rfl, by kernel_rfl, Try.call21⟩
def A22l0 : ACode :=
  (.seq (.region [⟨(some 14), none, .op (.bin .lss (.tmp 13) (.tmp 12))⟩])
    (.seq (.cond (.tmp 14) .skip (.exit 0))
    (.seq (.block 1 (.seq (.region [⟨(some 15), none, .op (.move (.tmp 13))⟩,
      ⟨(some 5), none, .op (.move (.tmp 15))⟩])
    (.seq (.dregion [⟨0, ⟨(some 16), none, .op (.move (.tmp 0))⟩, []⟩,
      ⟨1, ⟨(some 17), none, .op (.move (.tmp 5))⟩, []⟩,
      ⟨2, ⟨(some 18), none, .op (.idxA 2 (.tmp 16) (.tmp 17))⟩, []⟩,
      ⟨3, ⟨(some 19), none, .op (.load 2 true (.tmp 18))⟩, []⟩,
      ⟨4, ⟨(some 20), none, .op (.move (.tmp 1))⟩, []⟩,
      ⟨5, ⟨(some 21), none, .op (.move (.tmp 5))⟩, []⟩,
      ⟨6, ⟨(some 22), none, .op (.idxA 2 (.tmp 20) (.tmp 21))⟩, []⟩,
      ⟨7, ⟨(some 23), none, .op (.load 2 true (.tmp 22))⟩, []⟩,
      ⟨8, ⟨(some 24), none, .op (.eqS true [.int, .int] (.tmp 19) (.tmp 23))⟩, []⟩])
    (.cond (.tmp 24) (.seq (.region [⟨(some 4), none, .op (.move (.const (.bool false)))⟩])
    .ret) .skip))))
    (.region [⟨(some 25), none, .op (.bin .add (.tmp 13) (.const (.int .i64 1)))⟩,
      ⟨(some 13), none, .op (.move (.tmp 25))⟩]))))
def A22 : ACode :=
  (.seq (.region [⟨(some 4), none, .op (.move (.const (.bool false)))⟩])
    (.seq (.seq (.region [⟨(some 6), none, .op (.move (.tmp 0))⟩,
      ⟨(some 7), none, .op (.len (.tmp 6))⟩,
      ⟨(some 8), none, .op (.move (.tmp 1))⟩,
      ⟨(some 9), none, .op (.len (.tmp 8))⟩,
      ⟨(some 10), none, .op (.bin .neq (.tmp 7) (.tmp 9))⟩])
    (.cond (.tmp 10) (.seq (.region [⟨(some 4), none, .op (.move (.const (.bool false)))⟩])
    .ret) .skip))
    (.seq (.seq (.region [⟨(some 11), none, .op (.move (.tmp 0))⟩,
      ⟨(some 12), none, .op (.len (.tmp 11))⟩,
      ⟨(some 13), none, .op (.move (.const (.int .i64 0)))⟩])
    (.block 0 (.loop A22l0)))
    (.seq (.region [⟨(some 4), none, .op (.move (.const (.bool true)))⟩])
    .ret))))
def R22 : List RV := [.tmp 4]
theorem is22 : Is Try.prog (fun _ _ => false) 22 26 A22 R22 := ⟨Try.f22, Try.func22, rfl, by kernel_rfl, by kernel_rfl, Try.call22⟩
def A23l0 : ACode :=
  (.seq (.seq (.region [⟨(some 11), none, .op (.move (.tmp 5))⟩,
      ⟨(some 12), none, .op (.move (.tmp 0))⟩,
      ⟨(some 13), none, .op (.len (.tmp 12))⟩,
      ⟨(some 14), none, .op (.bin .lss (.tmp 11) (.tmp 13))⟩])
    (.cond (.tmp 14) .skip (.exit 0)))
    (.seq (.block 1 (.seq (.dregion [⟨0, ⟨(some 17), none, .op (.move (.tmp 0))⟩, []⟩,
      ⟨1, ⟨(some 18), none, .op (.move (.tmp 5))⟩, []⟩,
      ⟨2, ⟨(some 19), none, .op (.idxA 1 (.tmp 17) (.tmp 18))⟩, []⟩,
      ⟨3, ⟨(some 20), none, .op (.load 1 false (.tmp 19))⟩, []⟩,
      ⟨4, ⟨(some 21), none, .op (.move (.tmp 1))⟩, []⟩,
      ⟨5, ⟨(some 22), none, .op (.move (.tmp 5))⟩, []⟩,
      ⟨6, ⟨(some 23), none, .op (.idxA 1 (.tmp 21) (.tmp 22))⟩, []⟩,
      ⟨7, ⟨(some 24), none, .op (.load 1 false (.tmp 23))⟩, []⟩,
      ⟨8, ⟨(some 25), none, .op (.bin .neq (.tmp 20) (.tmp 24))⟩, []⟩])
    (.cond (.tmp 25) (.seq (.region [⟨(some 4), none, .op (.move (.const (.bool false)))⟩])
    .ret) .skip)))
    (.region [⟨(some 15), none, .op (.move (.tmp 5))⟩,
      ⟨(some 16), none, .op (.bin .add (.tmp 15) (.const (.int .i64 1)))⟩,
      ⟨(some 5), none, .op (.move (.tmp 16))⟩])))
def A23 : ACode :=
  (.seq (.region [⟨(some 4), none, .op (.move (.const (.bool false)))⟩])
    (.seq (.seq (.region [⟨(some 6), none, .op (.move (.tmp 0))⟩,
      ⟨(some 7), none, .op (.len (.tmp 6))⟩,
      ⟨(some 8), none, .op (.move (.tmp 1))⟩,
      ⟨(some 9), none, .op (.len (.tmp 8))⟩,
      ⟨(some 10), none, .op (.bin .neq (.tmp 7) (.tmp 9))⟩])
    (.cond (.tmp 10) (.seq (.region [⟨(some 4), none, .op (.move (.const (.bool false)))⟩])
    .ret) .skip))
    (.seq (.seq (.region [⟨(some 5), none, .op (.move (.const (.int .i64 0)))⟩])
    (.block 0 (.loop A23l0)))
    (.seq (.region [⟨(some 4), none, .op (.move (.const (.bool true)))⟩])
    .ret))))
def R23 : List RV := [.tmp 4]
theorem is23 : Is Try.prog (fun _ _ => false) 23 26 A23 R23 := ⟨Try.f23, Try.func23, rfl, by kernel_rfl, by kernel_rfl, Try.call23⟩
def A24l0 : ACode :=
  (.seq (.region [⟨(some 11), none, .op (.bin .lss (.tmp 10) (.tmp 9))⟩])
    (.seq (.cond (.tmp 11) .skip (.exit 0))
    (.seq (.block 1 (.seq (.region [⟨(some 12), none, .op (.move (.tmp 10))⟩,
      ⟨(some 13), none, .op (.idxA 2 (.tmp 8) (.tmp 10))⟩,
      ⟨(some 14), none, .op (.load 2 true (.tmp 13))⟩,
      ⟨(some 4), none, .op (.alloc [(.int .u64 0), (.int .u8 0)])⟩,
      ⟨(some 3), none, .op (.move (.tmp 12))⟩,
      ⟨none, none, .op (.store 2 (.tmp 4) (.tmp 14))⟩])
    (.seq (.dregion [⟨0, ⟨(some 15), none, .op (.fieldA 1 (.tmp 4))⟩, []⟩,
      ⟨1, ⟨(some 16), none, .op (.load 1 false (.tmp 15))⟩, []⟩,
      ⟨2, ⟨(some 17), none, .op (.bin .eql (.tmp 16) (.const (.int .u8 0)))⟩, []⟩,
      ⟨3, ⟨(some 18), none, .op (.move (.tmp 17))⟩, []⟩,
      ⟨4, ⟨(some 19), (some (18, false)), .op (.move (.tmp 3))⟩, []⟩,
      ⟨5, ⟨(some 20), (some (18, false)), .op (.bin .gtr (.tmp 19) (.const (.int .i64 0)))⟩, []⟩,
      ⟨6, ⟨(some 21), (some (18, false)), .op (.move (.tmp 20))⟩, []⟩,
      ⟨7, ⟨(some 22), (some (21, true)), .op (.move (.tmp 0))⟩, []⟩,
      ⟨8, ⟨(some 23), (some (21, true)), .op (.move (.tmp 3))⟩, []⟩,
      ⟨9, ⟨(some 24), (some (21, true)), .op (.bin .sub (.tmp 23) (.const (.int .i64 1)))⟩, []⟩,
      ⟨10, ⟨(some 25), (some (21, true)), .op (.idxA 2 (.tmp 22) (.tmp 24))⟩, []⟩,
      ⟨11, ⟨(some 26), (some (21, true)), .op (.fieldA 0 (.tmp 25))⟩, []⟩,
      ⟨12, ⟨(some 27), (some (21, true)), .op (.load 1 false (.tmp 26))⟩, []⟩,
      ⟨13, ⟨(some 28), (some (21, true)), .op (.fieldA 0 (.tmp 4))⟩, []⟩,
      ⟨14, ⟨(some 29), (some (21, true)), .op (.load 1 false (.tmp 28))⟩, []⟩,
      ⟨15, ⟨(some 30), (some (21, true)), .op (.bin .geq (.tmp 27) (.tmp 29))⟩, []⟩,
      ⟨16, ⟨(some 31), (some (18, false)), .op (.pick (.tmp 21) (.tmp 30) (.const (.bool false)))⟩, []⟩,
      ⟨17, ⟨(some 32), none, .op (.pick (.tmp 18) (.const (.bool true)) (.tmp 31))⟩, []⟩])
    (.cond (.tmp 32) (.seq (.region [⟨(some 2), none, .op (.move (.const (.int .i64 8)))⟩])
    .ret) .skip))))
    (.region [⟨(some 33), none, .op (.bin .add (.tmp 10) (.const (.int .i64 1)))⟩,
      ⟨(some 10), none, .op (.move (.tmp 33))⟩]))))
def A24 : ACode :=
  (.seq (.region [⟨(some 2), none, .op (.move (.const (.int .i64 0)))⟩])
    (.seq (.seq (.region [⟨(some 5), none, .op (.move (.tmp 0))⟩,
      ⟨(some 6), none, .op (.len (.tmp 5))⟩,
      ⟨(some 7), none, .op (.bin .gtr (.tmp 6) (.const (.int .i64 4096)))⟩])
    (.cond (.tmp 7) (.seq (.region [⟨(some 2), none, .op (.move (.const (.int .i64 8)))⟩])
    .ret) .skip))
    (.seq (.seq (.region [⟨(some 8), none, .op (.move (.tmp 0))⟩,
      ⟨(some 9), none, .op (.len (.tmp 8))⟩,
      ⟨(some 10), none, .op (.move (.const (.int .i64 0)))⟩])
    (.block 0 (.loop A24l0)))
    (.seq (.region [⟨(some 2), none, .op (.move (.const (.int .i64 0)))⟩])
    .ret))))
def R24 : List RV := [.tmp 2]
theorem is24 : Is Try.prog (fun _ _ => false) 24 34 A24 R24 := ⟨Try.f24, Try.func24, rfl, by kernel_rfl, by kernel_rfl, Try.call24⟩
def A25l0 : ACode :=
  (.seq (.region [⟨(some 9), none, .op (.bin .lss (.tmp 8) (.tmp 7))⟩])
    (.seq (.cond (.tmp 9) .skip (.exit 0))
    (.seq (.block 1 (.seq (.region [⟨(some 10), none, .op (.move (.tmp 8))⟩,
      ⟨(some 5), none, .op (.move (.tmp 10))⟩])
    (.seq (.region [⟨(some 11), none, .op (.move (.tmp 1))⟩,
      ⟨(some 12), none, .op (.move (.tmp 0))⟩,
      ⟨(some 13), none, .op (.move (.tmp 5))⟩,
      ⟨(some 14), none, .op (.idxA 1 (.tmp 12) (.tmp 13))⟩,
      ⟨(some 15), none, .op (.load 1 false (.tmp 14))⟩,
      ⟨(some 16), none, .op (.bin .eql (.tmp 11) (.tmp 15))⟩])
    (.cond (.tmp 16) (.seq (.region [⟨(some 17), none, .op (.move (.tmp 5))⟩,
      ⟨(some 4), none, .op (.move (.tmp 17))⟩])
    .ret) .skip))))
    (.region [⟨(some 18), none, .op (.bin .add (.tmp 8) (.const (.int .i64 1)))⟩,
      ⟨(some 8), none, .op (.move (.tmp 18))⟩]))))
def A25 : ACode :=
  (.seq (.region [⟨(some 4), none, .op (.move (.const (.int .i64 0)))⟩])
    (.seq (.seq (.region [⟨(some 6), none, .op (.move (.tmp 0))⟩,
      ⟨(some 7), none, .op (.len (.tmp 6))⟩,
      ⟨(some 8), none, .op (.move (.const (.int .i64 0)))⟩])
    (.block 0 (.loop A25l0)))
    (.seq (.region [⟨(some 4), none, .op (.move (.const (.int .i64 (-1))))⟩])
    .ret)))
def R25 : List RV := [.tmp 4]
theorem is25 : Is Try.prog (fun _ _ => false) 25 19 A25 R25 := ⟨Try.f25, Try.func25, rfl, by kernel_rfl, by kernel_rfl, Try.call25⟩
def A28l0 : ACode :=
  (.seq (.seq (.region [⟨(some 7), none, .op (.move (.tmp 3))⟩,
      ⟨(some 8), none, .op (.move (.tmp 0))⟩,
      ⟨(some 9), none, .op (.len (.tmp 8))⟩,
      ⟨(some 10), none, .op (.bin .lss (.tmp 7) (.tmp 9))⟩])
    (.cond (.tmp 10) .skip (.exit 0)))
    (.seq (.block 1 (.seq (.dregion [⟨0, ⟨(some 13), none, .op (.move (.tmp 0))⟩, []⟩,
      ⟨1, ⟨(some 14), none, .op (.move (.tmp 3))⟩, []⟩,
      ⟨2, ⟨(some 15), none, .op (.idxA 2 (.tmp 13) (.tmp 14))⟩, []⟩,
      ⟨3, ⟨(some 16), none, .op (.fieldA 1 (.tmp 15))⟩, []⟩,
      ⟨4, ⟨(some 17), none, .op (.load 1 false (.tmp 16))⟩, []⟩,
      ⟨5, ⟨(some 18), none, .op (.bin .eql (.tmp 17) (.const (.int .u8 0)))⟩, []⟩,
      ⟨6, ⟨(some 19), none, .op (.move (.tmp 18))⟩, []⟩,
      ⟨7, ⟨(some 20), (some (19, false)), .op (.move (.tmp 3))⟩, []⟩,
      ⟨8, ⟨(some 21), (some (19, false)), .op (.bin .gtr (.tmp 20) (.const (.int .i64 0)))⟩, []⟩,
      ⟨9, ⟨(some 22), (some (19, false)), .op (.move (.tmp 21))⟩, []⟩,
      ⟨10, ⟨(some 23), (some (22, true)), .op (.move (.tmp 0))⟩, []⟩,
      ⟨11, ⟨(some 24), (some (22, true)), .op (.move (.tmp 3))⟩, []⟩,
      ⟨12, ⟨(some 25), (some (22, true)), .op (.idxA 2 (.tmp 23) (.tmp 24))⟩, []⟩,
      ⟨13, ⟨(some 26), (some (22, true)), .op (.fieldA 0 (.tmp 25))⟩, []⟩,
      ⟨14, ⟨(some 27), (some (22, true)), .op (.load 1 false (.tmp 26))⟩, []⟩,
      ⟨15, ⟨(some 28), (some (22, true)), .op (.move (.tmp 0))⟩, []⟩,
      ⟨16, ⟨(some 29), (some (22, true)), .op (.move (.tmp 3))⟩, []⟩,
      ⟨17, ⟨(some 30), (some (22, true)), .op (.bin .sub (.tmp 29) (.const (.int .i64 1)))⟩, []⟩,
      ⟨18, ⟨(some 31), (some (22, true)), .op (.idxA 2 (.tmp 28) (.tmp 30))⟩, []⟩,
      ⟨19, ⟨(some 32), (some (22, true)), .op (.fieldA 0 (.tmp 31))⟩, []⟩,
      ⟨20, ⟨(some 33), (some (22, true)), .op (.load 1 false (.tmp 32))⟩, []⟩,
      ⟨21, ⟨(some 34), (some (22, true)), .op (.bin .leq (.tmp 27) (.tmp 33))⟩, []⟩,
      ⟨22, ⟨(some 35), (some (19, false)), .op (.pick (.tmp 22) (.tmp 34) (.const (.bool false)))⟩, []⟩,
      ⟨23, ⟨(some 36), none, .op (.pick (.tmp 19) (.const (.bool true)) (.tmp 35))⟩, []⟩])
    (.cond (.tmp 36) (.seq (.region [⟨(some 2), none, .op (.move (.const (.int .i64 8)))⟩])
    .ret) .skip)))
    (.region [⟨(some 11), none, .op (.move (.tmp 3))⟩,
      ⟨(some 12), none, .op (.bin .add (.tmp 11) (.const (.int .i64 1)))⟩,
      ⟨(some 3), none, .op (.move (.tmp 12))⟩])))
def A28 : ACode :=
  (.seq (.region [⟨(some 2), none, .op (.move (.const (.int .i64 0)))⟩])
    (.seq (.seq (.region [⟨(some 4), none, .op (.move (.tmp 0))⟩,
      ⟨(some 5), none, .op (.len (.tmp 4))⟩,
      ⟨(some 6), none, .op (.bin .gtr (.tmp 5) (.const (.int .i64 4096)))⟩])
    (.cond (.tmp 6) (.seq (.region [⟨(some 2), none, .op (.move (.const (.int .i64 8)))⟩])
    .ret) .skip))
    (.seq (.seq (.region [⟨(some 3), none, .op (.move (.const (.int .i64 0)))⟩])
    (.block 0 (.loop A28l0)))
    (.seq (.region [⟨(some 2), none, .op (.move (.const (.int .i64 0)))⟩])
    .ret))))
def R28 : List RV := [.tmp 2]
theorem is28 : Is Try.prog (fun _ _ => false) 28 37 A28 R28 := ⟨Try.f28, Try.func28, rfl, by kernel_rfl, by kernel_rfl, Try.call28⟩
def A29 : ACode :=
  (.seq (.region [⟨(some 2), none, .op (.move (.const (.bool false)))⟩])
    (.seq (.region [⟨(some 3), none, .op (.move (.tmp 0))⟩,
      ⟨(some 4), none, .op (.bin .geq (.tmp 3) (.const (.int .i64 1)))⟩,
      ⟨(some 5), none, .op (.move (.tmp 4))⟩,
      ⟨(some 6), (some (5, true)), .op (.move (.tmp 0))⟩,
      ⟨(some 7), (some (5, true)), .op (.bin .leq (.tmp 6) (.const (.int .i64 64)))⟩,
      ⟨(some 8), none, .op (.pick (.tmp 5) (.tmp 7) (.const (.bool false)))⟩,
      ⟨(some 2), none, .op (.move (.tmp 8))⟩])
    .ret))
def R29 : List RV := [.tmp 2]
theorem is29 : Is Try.prog (fun _ _ => false) 29 9 A29 R29 := ⟨Try.f29, Try.func29, rfl, by kernel_rfl, by kernel_rfl, Try.call29⟩
def A30l0 : ACode :=
  (.seq (.seq (.region [⟨(some 5), none, .op (.move (.tmp 4))⟩,
      ⟨(some 6), none, .op (.move (.tmp 0))⟩,
      ⟨(some 7), none, .op (.bin .lss (.tmp 5) (.tmp 6))⟩])
    (.cond (.tmp 7) .skip (.exit 0)))
    (.seq (.block 1 (.region [⟨(some 10), none, .op (.move (.tmp 3))⟩,
      ⟨(some 11), none, .op (.move (.tmp 3))⟩,
      ⟨(some 12), none, .op (.bin .add (.tmp 10) (.tmp 11))⟩,
      ⟨(some 3), none, .op (.move (.tmp 12))⟩]))
    (.region [⟨(some 8), none, .op (.move (.tmp 4))⟩,
      ⟨(some 9), none, .op (.bin .add (.tmp 8) (.const (.int .i64 1)))⟩,
      ⟨(some 4), none, .op (.move (.tmp 9))⟩])))
def A30 : ACode :=
  (.seq (.region [⟨(some 2), none, .op (.move (.const (.int .u64 0)))⟩])
    (.seq (.region [⟨(some 3), none, .op (.move (.const (.int .u64 1)))⟩])
    (.seq (.seq (.region [⟨(some 4), none, .op (.move (.const (.int .i64 0)))⟩])
    (.block 0 (.loop A30l0)))
    (.seq (.region [⟨(some 13), none, .op (.move (.tmp 3))⟩,
      ⟨(some 2), none, .op (.move (.tmp 13))⟩])
    .ret))))
def R30 : List RV := [.tmp 2]
theorem is30 : Is Try.prog (fun _ _ => false) 30 14 A30 R30 := ⟨Try.f30, Try.func30, rfl, by kernel_rfl, by kernel_rfl, Try.call30⟩

end Go.Proofs.Ytdmjloieldhlnaa
