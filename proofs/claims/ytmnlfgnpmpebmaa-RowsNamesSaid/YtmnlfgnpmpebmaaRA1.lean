/- The abstract code of the functions that the statement reaches. -/
import Derived.Test.YtmnlfgnpmpebmaaCore18
import Derived.Test.YtmnlfgnpmpebmaaRows
import Derived.KernelRfl
namespace Go.Proofs.Ytmnlfgnpmpebmaa
open Go Go.Ab Go.Proofs
set_option maxRecDepth 100000
def A3 : ACode :=
  (.seq (.region [⟨(some 4), none, .op (.move (.const (.bool false)))⟩])
    (.seq (.seq (.region [⟨(some 9), none, .op (.move (.tmp 0))⟩,
      ⟨(some 10), none, .op (.len (.tmp 9))⟩,
      ⟨(some 11), none, .op (.bin .gtr (.tmp 10) (.const (.int .i64 2000)))⟩])
    (.cond (.tmp 11) (.seq (.region [⟨(some 4), none, .op (.move (.const (.bool true)))⟩])
    .ret) .skip))
    (.seq (.region [⟨(some 13), none, .op (.move (.tmp 0))⟩,
      ⟨(some 14), none, .op (.move (.tmp 1))⟩,
      ⟨(some 15), none, .call (.func 11) [(.tmp 13), (.tmp 14)]⟩,
      ⟨(some 12), none, .op (.move (.tmp 15))⟩,
      ⟨(some 16), none, .op (.ext (.tmp 12) 0)⟩,
      ⟨(some 17), none, .op (.ext (.tmp 12) 1)⟩,
      ⟨(some 5), none, .op (.move (.tmp 16))⟩,
      ⟨(some 6), none, .op (.move (.tmp 17))⟩])
    (.seq (.region [⟨(some 19), none, .op (.move (.tmp 0))⟩,
      ⟨(some 20), none, .op (.move (.tmp 1))⟩,
      ⟨(some 21), none, .call (.func 12) [(.tmp 19), (.tmp 20)]⟩,
      ⟨(some 18), none, .op (.move (.tmp 21))⟩,
      ⟨(some 22), none, .op (.ext (.tmp 18) 0)⟩,
      ⟨(some 23), none, .op (.ext (.tmp 18) 1)⟩,
      ⟨(some 7), none, .op (.move (.tmp 22))⟩,
      ⟨(some 8), none, .op (.move (.tmp 23))⟩])
    (.seq (.region [⟨(some 24), none, .op (.move (.tmp 0))⟩,
      ⟨(some 25), none, .call (.func 13) [(.tmp 24)]⟩,
      ⟨(some 26), none, .op (.move (.tmp 0))⟩,
      ⟨(some 27), none, .call (.func 14) [(.tmp 26)]⟩,
      ⟨(some 28), none, .op (.bin .eql (.tmp 25) (.tmp 27))⟩,
      ⟨(some 29), none, .op (.move (.tmp 28))⟩,
      ⟨(some 30), (some (29, true)), .op (.move (.tmp 5))⟩,
      ⟨(some 31), (some (29, true)), .op (.move (.tmp 7))⟩,
      ⟨(some 32), (some (29, true)), .op (.bin .eql (.tmp 30) (.tmp 31))⟩,
      ⟨(some 33), none, .op (.pick (.tmp 29) (.tmp 32) (.const (.bool false)))⟩,
      ⟨(some 34), none, .op (.move (.tmp 33))⟩,
      ⟨(some 35), (some (34, true)), .op (.move (.tmp 6))⟩,
      ⟨(some 36), (some (34, true)), .op (.move (.tmp 8))⟩,
      ⟨(some 37), (some (34, true)), .op (.bin .eql (.tmp 35) (.tmp 36))⟩,
      ⟨(some 38), none, .op (.pick (.tmp 34) (.tmp 37) (.const (.bool false)))⟩,
      ⟨(some 4), none, .op (.move (.tmp 38))⟩])
    .ret)))))
def R3 : List RV := [.tmp 4]
theorem is3 : Is Try.prog (fun _ _ => false) 3 39 A3 R3 := ⟨Try.f3, Try.func3, rfl, by kernel_rfl, by kernel_rfl, Try.call3⟩
def A11l0 : ACode :=
  (.seq (.seq (.region [⟨(some 21), none, .op (.move (.tmp 7))⟩,
      ⟨(some 22), none, .op (.move (.tmp 8))⟩,
      ⟨(some 23), none, .op (.bin .lss (.tmp 21) (.tmp 22))⟩])
    (.cond (.tmp 23) .skip (.exit 1)))
    (.block 2 (.seq (.region [⟨(some 24), none, .op (.move (.tmp 7))⟩,
      ⟨(some 25), none, .op (.move (.tmp 8))⟩,
      ⟨(some 26), none, .op (.bin .add (.tmp 24) (.tmp 25))⟩,
      ⟨(some 27), none, .op (.bin .quo (.tmp 26) (.const (.int .i64 2)))⟩,
      ⟨(some 9), none, .op (.move (.tmp 27))⟩])
    (.seq (.region [⟨(some 28), none, .op (.move (.tmp 0))⟩,
      ⟨(some 29), none, .op (.move (.tmp 9))⟩,
      ⟨(some 30), none, .op (.idxA 2 (.tmp 28) (.tmp 29))⟩,
      ⟨(some 31), none, .op (.fieldA 0 (.tmp 30))⟩,
      ⟨(some 32), none, .op (.load 1 false (.tmp 31))⟩,
      ⟨(some 33), none, .op (.move (.tmp 1))⟩,
      ⟨(some 34), none, .op (.bin .leq (.tmp 32) (.tmp 33))⟩])
    (.cond (.tmp 34) (.region [⟨(some 35), none, .op (.move (.tmp 9))⟩,
      ⟨(some 36), none, .op (.bin .add (.tmp 35) (.const (.int .i64 1)))⟩,
      ⟨(some 7), none, .op (.move (.tmp 36))⟩]) (.region [⟨(some 37), none, .op (.move (.tmp 9))⟩,
      ⟨(some 8), none, .op (.move (.tmp 37))⟩]))))))
def A11 : ACode :=
  (.seq (.region [⟨(some 4), none, .op (.move (.const (.int .i64 0)))⟩,
      ⟨(some 5), none, .op (.move (.const (.int .i64 0)))⟩])
    (.seq (.region [⟨(some 10), none, .op (.move (.tmp 0))⟩,
      ⟨(some 11), none, .call (.func 13) [(.tmp 10)]⟩,
      ⟨(some 6), none, .op (.move (.tmp 11))⟩])
    (.seq (.block 0 (.seq (.region [⟨(some 13), none, .op (.move (.tmp 6))⟩,
      ⟨(some 14), none, .op (.bin .neq (.tmp 13) (.const (.int .i64 0)))⟩,
      ⟨(some 12), none, .op (.move (.tmp 14))⟩])
    (.cond (.tmp 12) (.seq (.region [⟨(some 15), none, .op (.move (.tmp 6))⟩,
      ⟨(some 4), none, .op (.move (.const (.int .i64 0)))⟩,
      ⟨(some 5), none, .op (.move (.tmp 15))⟩])
    .ret) (.seq (.region [⟨(some 17), none, .op (.move (.tmp 1))⟩,
      ⟨(some 18), none, .op (.bin .geq (.tmp 17) (.const (.int .u64 4294967296)))⟩,
      ⟨(some 16), none, .op (.move (.tmp 18))⟩])
    (.cond (.tmp 16) (.seq (.region [⟨(some 4), none, .op (.move (.const (.int .i64 0)))⟩,
      ⟨(some 5), none, .op (.move (.const (.int .i64 2)))⟩])
    .ret) .skip)))))
    (.seq (.region [⟨(some 19), none, .op (.move (.tmp 0))⟩,
      ⟨(some 20), none, .op (.len (.tmp 19))⟩,
      ⟨(some 7), none, .op (.move (.const (.int .i64 0)))⟩,
      ⟨(some 8), none, .op (.move (.tmp 20))⟩])
    (.seq (.block 1 (.loop A11l0))
    (.seq (.seq (.region [⟨(some 38), none, .op (.move (.tmp 7))⟩,
      ⟨(some 39), none, .op (.bin .eql (.tmp 38) (.const (.int .i64 0)))⟩])
    (.cond (.tmp 39) (.seq (.region [⟨(some 4), none, .op (.move (.const (.int .i64 0)))⟩,
      ⟨(some 5), none, .op (.move (.const (.int .i64 6)))⟩])
    .ret) .skip))
    (.seq (.region [⟨(some 40), none, .op (.move (.tmp 0))⟩,
      ⟨(some 41), none, .op (.move (.tmp 7))⟩,
      ⟨(some 42), none, .op (.bin .sub (.tmp 41) (.const (.int .i64 1)))⟩,
      ⟨(some 43), none, .op (.idxA 2 (.tmp 40) (.tmp 42))⟩,
      ⟨(some 44), none, .op (.fieldA 1 (.tmp 43))⟩,
      ⟨(some 45), none, .op (.load 1 false (.tmp 44))⟩,
      ⟨(some 4), none, .op (.move (.tmp 45))⟩,
      ⟨(some 5), none, .op (.move (.const (.int .i64 0)))⟩])
    .ret)))))))
def R11 : List RV := [.tmp 4, .tmp 5]
theorem is11 : Is Try.prog (fun _ _ => false) 11 46 A11 R11 := ⟨Try.f11, Try.func11, rfl, by kernel_rfl, by kernel_rfl, Try.call11⟩
def A12l0 : ACode :=
  (.seq (.seq (.region [⟨(some 22), none, .op (.move (.tmp 7))⟩,
      ⟨(some 23), none, .op (.bin .geq (.tmp 22) (.const (.int .i64 0)))⟩])
    (.cond (.tmp 23) .skip (.exit 0)))
    (.seq (.block 1 (.seq (.region [⟨(some 26), none, .op (.move (.tmp 0))⟩,
      ⟨(some 27), none, .op (.move (.tmp 7))⟩,
      ⟨(some 28), none, .op (.idxA 2 (.tmp 26) (.tmp 27))⟩,
      ⟨(some 29), none, .op (.fieldA 0 (.tmp 28))⟩,
      ⟨(some 30), none, .op (.load 1 false (.tmp 29))⟩,
      ⟨(some 31), none, .op (.move (.tmp 1))⟩,
      ⟨(some 32), none, .op (.bin .leq (.tmp 30) (.tmp 31))⟩])
    (.cond (.tmp 32) (.seq (.region [⟨(some 33), none, .op (.move (.tmp 0))⟩,
      ⟨(some 34), none, .op (.move (.tmp 7))⟩,
      ⟨(some 35), none, .op (.idxA 2 (.tmp 33) (.tmp 34))⟩,
      ⟨(some 36), none, .op (.fieldA 1 (.tmp 35))⟩,
      ⟨(some 37), none, .op (.load 1 false (.tmp 36))⟩,
      ⟨(some 4), none, .op (.move (.tmp 37))⟩,
      ⟨(some 5), none, .op (.move (.const (.int .i64 0)))⟩])
    .ret) .skip)))
    (.region [⟨(some 24), none, .op (.move (.tmp 7))⟩,
      ⟨(some 25), none, .op (.bin .sub (.tmp 24) (.const (.int .i64 1)))⟩,
      ⟨(some 7), none, .op (.move (.tmp 25))⟩])))
def A12 : ACode :=
  (.seq (.region [⟨(some 4), none, .op (.move (.const (.int .i64 0)))⟩,
      ⟨(some 5), none, .op (.move (.const (.int .i64 0)))⟩])
    (.seq (.region [⟨(some 8), none, .op (.move (.tmp 0))⟩,
      ⟨(some 9), none, .call (.func 14) [(.tmp 8)]⟩,
      ⟨(some 6), none, .op (.move (.tmp 9))⟩])
    (.seq (.seq (.region [⟨(some 10), none, .op (.move (.tmp 6))⟩,
      ⟨(some 11), none, .op (.bin .eql (.tmp 10) (.const (.int .i64 0)))⟩,
      ⟨(some 12), none, .op (.move (.tmp 11))⟩,
      ⟨(some 13), (some (12, true)), .op (.move (.tmp 1))⟩,
      ⟨(some 14), (some (12, true)), .op (.bin .geq (.tmp 13) (.const (.int .u64 4294967296)))⟩,
      ⟨(some 15), none, .op (.pick (.tmp 12) (.tmp 14) (.const (.bool false)))⟩])
    (.cond (.tmp 15) (.region [⟨(some 6), none, .op (.move (.const (.int .i64 2)))⟩]) .skip))
    (.seq (.seq (.region [⟨(some 16), none, .op (.move (.tmp 6))⟩,
      ⟨(some 17), none, .op (.bin .neq (.tmp 16) (.const (.int .i64 0)))⟩])
    (.cond (.tmp 17) (.seq (.region [⟨(some 18), none, .op (.move (.tmp 6))⟩,
      ⟨(some 4), none, .op (.move (.const (.int .i64 0)))⟩,
      ⟨(some 5), none, .op (.move (.tmp 18))⟩])
    .ret) .skip))
    (.seq (.seq (.region [⟨(some 19), none, .op (.move (.tmp 0))⟩,
      ⟨(some 20), none, .op (.len (.tmp 19))⟩,
      ⟨(some 21), none, .op (.bin .sub (.tmp 20) (.const (.int .i64 1)))⟩,
      ⟨(some 7), none, .op (.move (.tmp 21))⟩])
    (.block 0 (.loop A12l0)))
    (.seq (.region [⟨(some 4), none, .op (.move (.const (.int .i64 0)))⟩,
      ⟨(some 5), none, .op (.move (.const (.int .i64 6)))⟩])
    .ret))))))
def R12 : List RV := [.tmp 4, .tmp 5]
theorem is12 : Is Try.prog (fun _ _ => false) 12 38 A12 R12 := ⟨Try.f12, Try.func12, rfl, by kernel_rfl, by kernel_rfl, Try.call12⟩
def A13l0 : ACode :=
  (.seq (.region [⟨(some 11), none, .op (.bin .lss (.tmp 10) (.tmp 9))⟩])
    (.seq (.cond (.tmp 11) .skip (.exit 0))
    (.seq (.block 1 (.seq (.region [⟨(some 12), none, .op (.move (.tmp 10))⟩,
      ⟨(some 13), none, .op (.idxA 2 (.tmp 8) (.tmp 10))⟩,
      ⟨(some 14), none, .op (.load 2 true (.tmp 13))⟩,
      ⟨(some 4), none, .op (.alloc [(.int .u64 0), (.int .i64 0)])⟩,
      ⟨(some 3), none, .op (.move (.tmp 12))⟩,
      ⟨none, none, .op (.store 2 (.tmp 4) (.tmp 14))⟩])
    (.seq (.seq (.region [⟨(some 15), none, .op (.fieldA 0 (.tmp 4))⟩,
      ⟨(some 16), none, .op (.load 1 false (.tmp 15))⟩,
      ⟨(some 17), none, .op (.bin .geq (.tmp 16) (.const (.int .u64 4294967296)))⟩,
      ⟨(some 18), none, .op (.move (.tmp 17))⟩,
      ⟨(some 19), (some (18, false)), .op (.fieldA 1 (.tmp 4))⟩,
      ⟨(some 20), (some (18, false)), .op (.load 1 false (.tmp 19))⟩,
      ⟨(some 21), (some (18, false)), .op (.bin .lss (.tmp 20) (.const (.int .i64 1)))⟩,
      ⟨(some 22), none, .op (.pick (.tmp 18) (.const (.bool true)) (.tmp 21))⟩,
      ⟨(some 23), none, .op (.move (.tmp 22))⟩,
      ⟨(some 24), (some (23, false)), .op (.fieldA 1 (.tmp 4))⟩,
      ⟨(some 25), (some (23, false)), .op (.load 1 false (.tmp 24))⟩,
      ⟨(some 26), (some (23, false)), .op (.bin .gtr (.tmp 25) (.const (.int .i64 1048576)))⟩,
      ⟨(some 27), none, .op (.pick (.tmp 23) (.const (.bool true)) (.tmp 26))⟩])
    (.cond (.tmp 27) (.seq (.region [⟨(some 2), none, .op (.move (.const (.int .i64 8)))⟩])
    .ret) .skip))
    (.seq (.dregion [⟨0, ⟨(some 28), none, .op (.move (.tmp 3))⟩, []⟩,
      ⟨1, ⟨(some 29), none, .op (.bin .gtr (.tmp 28) (.const (.int .i64 0)))⟩, []⟩,
      ⟨2, ⟨(some 30), none, .op (.move (.tmp 29))⟩, []⟩,
      ⟨3, ⟨(some 31), (some (30, true)), .op (.fieldA 0 (.tmp 4))⟩, []⟩,
      ⟨4, ⟨(some 32), (some (30, true)), .op (.load 1 false (.tmp 31))⟩, []⟩,
      ⟨5, ⟨(some 33), (some (30, true)), .op (.move (.tmp 0))⟩, []⟩,
      ⟨6, ⟨(some 34), (some (30, true)), .op (.move (.tmp 3))⟩, []⟩,
      ⟨7, ⟨(some 35), (some (30, true)), .op (.bin .sub (.tmp 34) (.const (.int .i64 1)))⟩, []⟩,
      ⟨8, ⟨(some 36), (some (30, true)), .op (.idxA 2 (.tmp 33) (.tmp 35))⟩, []⟩,
      ⟨9, ⟨(some 37), (some (30, true)), .op (.fieldA 0 (.tmp 36))⟩, []⟩,
      ⟨10, ⟨(some 38), (some (30, true)), .op (.load 1 false (.tmp 37))⟩, []⟩,
      ⟨11, ⟨(some 39), (some (30, true)), .op (.bin .leq (.tmp 32) (.tmp 38))⟩, []⟩,
      ⟨12, ⟨(some 40), (some (30, true)), .op (.move (.tmp 39))⟩, []⟩,
      ⟨13, ⟨(some 41), (some (40, false)), .op (.fieldA 1 (.tmp 4))⟩, []⟩,
      ⟨14, ⟨(some 42), (some (40, false)), .op (.load 1 false (.tmp 41))⟩, []⟩,
      ⟨15, ⟨(some 43), (some (40, false)), .op (.move (.tmp 0))⟩, []⟩,
      ⟨16, ⟨(some 44), (some (40, false)), .op (.move (.tmp 3))⟩, []⟩,
      ⟨17, ⟨(some 45), (some (40, false)), .op (.bin .sub (.tmp 44) (.const (.int .i64 1)))⟩, []⟩,
      ⟨18, ⟨(some 46), (some (40, false)), .op (.idxA 2 (.tmp 43) (.tmp 45))⟩, []⟩,
      ⟨19, ⟨(some 47), (some (40, false)), .op (.fieldA 1 (.tmp 46))⟩, []⟩,
      ⟨20, ⟨(some 48), (some (40, false)), .op (.load 1 false (.tmp 47))⟩, []⟩,
      ⟨21, ⟨(some 49), (some (40, false)), .op (.bin .eql (.tmp 42) (.tmp 48))⟩, []⟩,
      ⟨22, ⟨(some 50), (some (30, true)), .op (.pick (.tmp 40) (.const (.bool true)) (.tmp 49))⟩, []⟩,
      ⟨23, ⟨(some 51), none, .op (.pick (.tmp 30) (.tmp 50) (.const (.bool false)))⟩, []⟩])
    (.cond (.tmp 51) (.seq (.region [⟨(some 2), none, .op (.move (.const (.int .i64 8)))⟩])
    .ret) .skip)))))
    (.region [⟨(some 52), none, .op (.bin .add (.tmp 10) (.const (.int .i64 1)))⟩,
      ⟨(some 10), none, .op (.move (.tmp 52))⟩]))))
def A13 : ACode :=
  (.seq (.region [⟨(some 2), none, .op (.move (.const (.int .i64 0)))⟩])
    (.seq (.seq (.region [⟨(some 5), none, .op (.move (.tmp 0))⟩,
      ⟨(some 6), none, .op (.len (.tmp 5))⟩,
      ⟨(some 7), none, .op (.bin .gtr (.tmp 6) (.const (.int .i64 1000)))⟩])
    (.cond (.tmp 7) (.seq (.region [⟨(some 2), none, .op (.move (.const (.int .i64 4)))⟩])
    .ret) .skip))
    (.seq (.seq (.region [⟨(some 8), none, .op (.move (.tmp 0))⟩,
      ⟨(some 9), none, .op (.len (.tmp 8))⟩,
      ⟨(some 10), none, .op (.move (.const (.int .i64 0)))⟩])
    (.block 0 (.loop A13l0)))
    (.seq (.region [⟨(some 2), none, .op (.move (.const (.int .i64 0)))⟩])
    .ret))))
def R13 : List RV := [.tmp 2]
theorem is13 : Is Try.prog (fun _ _ => false) 13 53 A13 R13 := ⟨Try.f13, Try.func13, rfl, by kernel_rfl, by kernel_rfl, Try.call13⟩
def A14l0 : ACode :=
  (.seq (.seq (.region [⟨(some 7), none, .op (.move (.tmp 3))⟩,
      ⟨(some 8), none, .op (.move (.tmp 0))⟩,
      ⟨(some 9), none, .op (.len (.tmp 8))⟩,
      ⟨(some 10), none, .op (.bin .lss (.tmp 7) (.tmp 9))⟩])
    (.cond (.tmp 10) .skip (.exit 0)))
    (.seq (.block 1 (.seq (.dregion [⟨0, ⟨(some 13), none, .op (.move (.tmp 0))⟩, []⟩,
      ⟨1, ⟨(some 14), none, .op (.move (.tmp 3))⟩, []⟩,
      ⟨2, ⟨(some 15), none, .op (.idxA 2 (.tmp 13) (.tmp 14))⟩, []⟩,
      ⟨3, ⟨(some 16), none, .op (.fieldA 0 (.tmp 15))⟩, []⟩,
      ⟨4, ⟨(some 17), none, .op (.load 1 false (.tmp 16))⟩, []⟩,
      ⟨5, ⟨(some 18), none, .op (.bin .geq (.tmp 17) (.const (.int .u64 4294967296)))⟩, []⟩,
      ⟨6, ⟨(some 19), none, .op (.move (.tmp 18))⟩, []⟩,
      ⟨7, ⟨(some 20), (some (19, false)), .op (.move (.tmp 0))⟩, []⟩,
      ⟨8, ⟨(some 21), (some (19, false)), .op (.move (.tmp 3))⟩, []⟩,
      ⟨9, ⟨(some 22), (some (19, false)), .op (.idxA 2 (.tmp 20) (.tmp 21))⟩, []⟩,
      ⟨10, ⟨(some 23), (some (19, false)), .op (.fieldA 1 (.tmp 22))⟩, []⟩,
      ⟨11, ⟨(some 24), (some (19, false)), .op (.load 1 false (.tmp 23))⟩, []⟩,
      ⟨12, ⟨(some 25), (some (19, false)), .op (.bin .lss (.tmp 24) (.const (.int .i64 1)))⟩, []⟩,
      ⟨13, ⟨(some 26), none, .op (.pick (.tmp 19) (.const (.bool true)) (.tmp 25))⟩, []⟩,
      ⟨14, ⟨(some 27), none, .op (.move (.tmp 26))⟩, []⟩,
      ⟨15, ⟨(some 28), (some (27, false)), .op (.move (.tmp 0))⟩, []⟩,
      ⟨16, ⟨(some 29), (some (27, false)), .op (.move (.tmp 3))⟩, []⟩,
      ⟨17, ⟨(some 30), (some (27, false)), .op (.idxA 2 (.tmp 28) (.tmp 29))⟩, []⟩,
      ⟨18, ⟨(some 31), (some (27, false)), .op (.fieldA 1 (.tmp 30))⟩, []⟩,
      ⟨19, ⟨(some 32), (some (27, false)), .op (.load 1 false (.tmp 31))⟩, []⟩,
      ⟨20, ⟨(some 33), (some (27, false)), .op (.bin .gtr (.tmp 32) (.const (.int .i64 1048576)))⟩, []⟩,
      ⟨21, ⟨(some 34), none, .op (.pick (.tmp 27) (.const (.bool true)) (.tmp 33))⟩, []⟩,
      ⟨22, ⟨(some 35), none, .op (.move (.tmp 34))⟩, []⟩,
      ⟨23, ⟨(some 36), (some (35, false)), .op (.move (.tmp 3))⟩, []⟩,
      ⟨24, ⟨(some 37), (some (35, false)), .op (.bin .gtr (.tmp 36) (.const (.int .i64 0)))⟩, []⟩,
      ⟨25, ⟨(some 38), (some (35, false)), .op (.move (.tmp 37))⟩, []⟩,
      ⟨26, ⟨(some 39), (some (38, true)), .op (.move (.tmp 0))⟩, []⟩,
      ⟨27, ⟨(some 40), (some (38, true)), .op (.move (.tmp 3))⟩, []⟩,
      ⟨28, ⟨(some 41), (some (38, true)), .op (.idxA 2 (.tmp 39) (.tmp 40))⟩, []⟩,
      ⟨29, ⟨(some 42), (some (38, true)), .op (.fieldA 0 (.tmp 41))⟩, []⟩,
      ⟨30, ⟨(some 43), (some (38, true)), .op (.load 1 false (.tmp 42))⟩, []⟩,
      ⟨31, ⟨(some 44), (some (38, true)), .op (.move (.tmp 0))⟩, []⟩,
      ⟨32, ⟨(some 45), (some (38, true)), .op (.move (.tmp 3))⟩, []⟩,
      ⟨33, ⟨(some 46), (some (38, true)), .op (.bin .sub (.tmp 45) (.const (.int .i64 1)))⟩, []⟩,
      ⟨34, ⟨(some 47), (some (38, true)), .op (.idxA 2 (.tmp 44) (.tmp 46))⟩, []⟩,
      ⟨35, ⟨(some 48), (some (38, true)), .op (.fieldA 0 (.tmp 47))⟩, []⟩,
      ⟨36, ⟨(some 49), (some (38, true)), .op (.load 1 false (.tmp 48))⟩, []⟩,
      ⟨37, ⟨(some 50), (some (38, true)), .op (.bin .leq (.tmp 43) (.tmp 49))⟩, []⟩,
      ⟨38, ⟨(some 51), (some (38, true)), .op (.move (.tmp 50))⟩, []⟩,
      ⟨39, ⟨(some 52), (some (51, false)), .op (.move (.tmp 0))⟩, []⟩,
      ⟨40, ⟨(some 53), (some (51, false)), .op (.move (.tmp 3))⟩, []⟩,
      ⟨41, ⟨(some 54), (some (51, false)), .op (.idxA 2 (.tmp 52) (.tmp 53))⟩, []⟩,
      ⟨42, ⟨(some 55), (some (51, false)), .op (.fieldA 1 (.tmp 54))⟩, []⟩,
      ⟨43, ⟨(some 56), (some (51, false)), .op (.load 1 false (.tmp 55))⟩, []⟩,
      ⟨44, ⟨(some 57), (some (51, false)), .op (.move (.tmp 0))⟩, []⟩,
      ⟨45, ⟨(some 58), (some (51, false)), .op (.move (.tmp 3))⟩, []⟩,
      ⟨46, ⟨(some 59), (some (51, false)), .op (.bin .sub (.tmp 58) (.const (.int .i64 1)))⟩, []⟩,
      ⟨47, ⟨(some 60), (some (51, false)), .op (.idxA 2 (.tmp 57) (.tmp 59))⟩, []⟩,
      ⟨48, ⟨(some 61), (some (51, false)), .op (.fieldA 1 (.tmp 60))⟩, []⟩,
      ⟨49, ⟨(some 62), (some (51, false)), .op (.load 1 false (.tmp 61))⟩, []⟩,
      ⟨50, ⟨(some 63), (some (51, false)), .op (.bin .eql (.tmp 56) (.tmp 62))⟩, []⟩,
      ⟨51, ⟨(some 64), (some (38, true)), .op (.pick (.tmp 51) (.const (.bool true)) (.tmp 63))⟩, []⟩,
      ⟨52, ⟨(some 65), (some (35, false)), .op (.pick (.tmp 38) (.tmp 64) (.const (.bool false)))⟩, []⟩,
      ⟨53, ⟨(some 66), none, .op (.pick (.tmp 35) (.const (.bool true)) (.tmp 65))⟩, []⟩])
    (.cond (.tmp 66) (.seq (.region [⟨(some 2), none, .op (.move (.const (.int .i64 8)))⟩])
    .ret) .skip)))
    (.region [⟨(some 11), none, .op (.move (.tmp 3))⟩,
      ⟨(some 12), none, .op (.bin .add (.tmp 11) (.const (.int .i64 1)))⟩,
      ⟨(some 3), none, .op (.move (.tmp 12))⟩])))
def A14 : ACode :=
  (.seq (.region [⟨(some 2), none, .op (.move (.const (.int .i64 0)))⟩])
    (.seq (.seq (.region [⟨(some 4), none, .op (.move (.tmp 0))⟩,
      ⟨(some 5), none, .op (.len (.tmp 4))⟩,
      ⟨(some 6), none, .op (.bin .gtr (.tmp 5) (.const (.int .i64 1000)))⟩])
    (.cond (.tmp 6) (.seq (.region [⟨(some 2), none, .op (.move (.const (.int .i64 4)))⟩])
    .ret) .skip))
    (.seq (.seq (.region [⟨(some 3), none, .op (.move (.const (.int .i64 0)))⟩])
    (.block 0 (.loop A14l0)))
    (.seq (.region [⟨(some 2), none, .op (.move (.const (.int .i64 0)))⟩])
    .ret))))
def R14 : List RV := [.tmp 2]
theorem is14 : Is Try.prog (fun _ _ => false) 14 67 A14 R14 := ⟨Try.f14, Try.func14, rfl, by kernel_rfl, by kernel_rfl, Try.call14⟩
end Go.Proofs.Ytmnlfgnpmpebmaa
