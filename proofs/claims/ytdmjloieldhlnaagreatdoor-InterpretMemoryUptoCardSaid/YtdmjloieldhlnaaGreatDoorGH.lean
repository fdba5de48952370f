/- The closed run: the chapter's example does what it should. -/
import Derived.Test.YtdmjloieldhlnaaGreatDoorGG
import Derived.Test.YtdmjloieldhlnaaGreatDoorRows
import Derived.KernelRfl
namespace Go.Proofs.YtdmjloieldhlnaaGreatDoor
open Go Go.Ab Go.Proofs
theorem mixedX : Tryz.prog.follows .mixedOrders = true := by kernel_rfl
def isT (x : AV) : Bool := match x with
  | .bool true => true
  | _ => false
theorem isT_eq {x : AV} (h : isT x = true) : x = .bool true := by
  unfold isT at h
  split at h
  · rfl
  · cases h
theorem gl_flat : ∀ g cs, GL g = some cs → ∀ x ∈ cs, x.flat = true := by
  intro g cs h
  unfold GL at h
  split at h
  · injection h with h
    subst h
    simp [AV.flat]
  · cases h
theorem run13 : ((xAll (tabOf tabX) 5 16).call [] 13 [] .nil 0).isV isT = true := by kernel_rfl
theorem alive_pure : Pure Tryz.prog 13 [] (.bool true) :=
  Pure_run gl_flat (fun x hx => by simp at hx) rfl ((AC_run mixedX tabX_ok 5 16 13 [] isT run13).mono fun y h n ⟨x, h1, h2⟩ => by rw [h1, isT_eq h2])
end Go.Proofs.YtdmjloieldhlnaaGreatDoor
namespace Go.Proofs.YtdmjloieldhlnaaGreatDoor
open Go Go.Ab Go.Proofs
set_option maxRecDepth 100000
def A5l0 : ACode :=
  (.seq (.seq (.region [⟨(some 38), none, .op (.move (.tmp 11))⟩,
      ⟨(some 39), none, .op (.move (.tmp 2))⟩,
      ⟨(some 40), none, .op (.bin .lss (.tmp 38) (.tmp 39))⟩])
    (.cond (.tmp 40) .skip (.exit 0)))
    (.seq (.block 1 (.seq (.region [⟨(some 43), none, .op (.move (.tmp 1))⟩,
      ⟨(some 44), none, .op (.move (.tmp 11))⟩,
      ⟨(some 45), none, .op (.bin .quo (.tmp 44) (.const (.int .i64 8)))⟩,
      ⟨(some 46), none, .op (.conv .u64 (.tmp 45))⟩,
      ⟨(some 47), none, .op (.bin .add (.tmp 43) (.tmp 46))⟩,
      ⟨(some 48), none, .op (.bin .and (.tmp 47) (.const (.int .u64 4294967295)))⟩,
      ⟨(some 12), none, .op (.move (.tmp 48))⟩])
    (.seq (.region [⟨(some 49), none, .op (.move (.tmp 3))⟩,
      ⟨(some 50), none, .op (.move (.tmp 11))⟩,
      ⟨(some 51), none, .op (.bin .shr (.tmp 49) (.tmp 50))⟩,
      ⟨(some 52), none, .op (.conv .u8 (.tmp 51))⟩,
      ⟨(some 13), none, .op (.move (.tmp 52))⟩])
    (.seq (.region [⟨(some 54), none, .op (.move (.tmp 10))⟩,
      ⟨(some 55), none, .op (.move (.tmp 12))⟩,
      ⟨(some 56), none, .call (.func 32) [(.tmp 54), (.tmp 55), (.func 33)]⟩,
      ⟨(some 53), none, .op (.move (.tmp 56))⟩,
      ⟨(some 57), none, .op (.ext (.tmp 53) 0)⟩,
      ⟨(some 58), none, .op (.ext (.tmp 53) 1)⟩,
      ⟨(some 14), none, .op (.move (.tmp 57))⟩,
      ⟨(some 15), none, .op (.move (.tmp 58))⟩])
    (.block 2 (.seq (.region [⟨(some 60), none, .op (.move (.tmp 15))⟩,
      ⟨(some 61), none, .op (.move (.tmp 60))⟩,
      ⟨(some 62), (some (61, true)), .op (.move (.tmp 13))⟩,
      ⟨(some 63), (some (61, true)), .op (.bin .eql (.tmp 62) (.const (.int .u8 0)))⟩,
      ⟨(some 64), none, .op (.pick (.tmp 61) (.tmp 63) (.const (.bool false)))⟩,
      ⟨(some 59), none, .op (.move (.tmp 64))⟩])
    (.cond (.tmp 59) (.region [⟨(some 65), none, .op (.move (.tmp 10))⟩,
      ⟨(some 66), none, .op (.move (.tmp 14))⟩,
      ⟨(some 67), none, .op (.move (.tmp 14))⟩,
      ⟨(some 68), none, .op (.bin .add (.tmp 67) (.const (.int .i64 1)))⟩,
      ⟨(some 69), none, .call (.func 34) [(.tmp 65), (.tmp 66), (.tmp 68)]⟩,
      ⟨(some 10), none, .op (.move (.tmp 69))⟩]) (.seq (.region [⟨(some 71), none, .op (.move (.tmp 15))⟩,
      ⟨(some 70), none, .op (.move (.tmp 71))⟩])
    (.cond (.tmp 70) (.region [⟨(some 72), none, .op (.move (.tmp 10))⟩,
      ⟨(some 73), none, .op (.move (.tmp 14))⟩,
      ⟨(some 74), none, .op (.move (.tmp 13))⟩,
      ⟨(some 75), none, .op (.idxA 2 (.tmp 72) (.tmp 73))⟩,
      ⟨(some 76), none, .op (.fieldA 1 (.tmp 75))⟩,
      ⟨none, none, .op (.store 1 (.tmp 76) (.tmp 74))⟩]) (.seq (.region [⟨(some 78), none, .op (.move (.tmp 13))⟩,
      ⟨(some 79), none, .op (.bin .neq (.tmp 78) (.const (.int .u8 0)))⟩,
      ⟨(some 77), none, .op (.move (.tmp 79))⟩])
    (.cond (.tmp 77) (.region [⟨(some 80), none, .op (.move (.tmp 10))⟩,
      ⟨(some 81), none, .op (.move (.tmp 14))⟩,
      ⟨(some 82), none, .op (.move (.tmp 12))⟩,
      ⟨(some 83), none, .op (.move (.tmp 13))⟩,
      ⟨(some 84), none, .op (.build [(.int .u64 0), (.int .u8 0)] [(0, 1, (.tmp 82)), (1, 1, (.tmp 83))])⟩,
      ⟨(some 85), none, .op (.buildO 35 [(.int .u64 0), (.int .u8 0)] 1 [(0, (.tmp 84))])⟩,
      ⟨(some 86), none, .call (.func 35) [(.tmp 80), (.tmp 81), (.tmp 85)]⟩,
      ⟨(some 10), none, .op (.move (.tmp 86))⟩]) .skip)))))))))))
    (.region [⟨(some 41), none, .op (.move (.tmp 11))⟩,
      ⟨(some 42), none, .op (.bin .add (.tmp 41) (.const (.int .i64 8)))⟩,
      ⟨(some 11), none, .op (.move (.tmp 42))⟩])))
def A5 : ACode :=
  (.seq (.region [⟨(some 8), none, .op (.move (.const (.slice none 0 0)))⟩,
      ⟨(some 9), none, .op (.move (.const (.int .i64 0)))⟩])
    (.seq (.seq (.region [⟨(some 16), none, .op (.move (.tmp 0))⟩,
      ⟨(some 17), none, .call (.func 28) [(.tmp 16)]⟩,
      ⟨(some 18), none, .op (.un .not (.tmp 17))⟩,
      ⟨(some 19), none, .op (.move (.tmp 18))⟩,
      ⟨(some 20), (some (19, false)), .op (.move (.tmp 1))⟩,
      ⟨(some 21), (some (19, false)), .call (.func 29) [(.tmp 20), (.const (.int .i64 32))]⟩,
      ⟨(some 22), (some (19, false)), .op (.un .not (.tmp 21))⟩,
      ⟨(some 23), none, .op (.pick (.tmp 19) (.const (.bool true)) (.tmp 22))⟩,
      ⟨(some 24), none, .op (.move (.tmp 23))⟩,
      ⟨(some 25), (some (24, false)), .op (.buildF [(.int .i64 0)] 4 [(0, (.const (.int .i64 8))), (1, (.const (.int .i64 16))), (2, (.const (.int .i64 32))), (3, (.const (.int .i64 64)))])⟩,
      ⟨(some 26), (some (24, false)), .op (.move (.tmp 2))⟩,
      ⟨(some 27), (some (24, false)), .call (.func 30) [(.tmp 25), (.tmp 26)]⟩,
      ⟨(some 28), (some (24, false)), .op (.un .not (.tmp 27))⟩,
      ⟨(some 29), none, .op (.pick (.tmp 24) (.const (.bool true)) (.tmp 28))⟩,
      ⟨(some 30), none, .op (.move (.tmp 29))⟩,
      ⟨(some 31), (some (30, false)), .op (.move (.tmp 3))⟩,
      ⟨(some 32), (some (30, false)), .op (.move (.tmp 2))⟩,
      ⟨(some 33), (some (30, false)), .call (.func 29) [(.tmp 31), (.tmp 32)]⟩,
      ⟨(some 34), (some (30, false)), .op (.un .not (.tmp 33))⟩,
      ⟨(some 35), none, .op (.pick (.tmp 30) (.const (.bool true)) (.tmp 34))⟩])
    (.cond (.tmp 35) (.seq (.region [⟨(some 8), none, .op (.move (.const (.slice none 0 0)))⟩,
      ⟨(some 9), none, .op (.move (.const (.int .i64 2)))⟩])
    .ret) .skip))
    (.seq (.region [⟨(some 36), none, .op (.move (.tmp 0))⟩,
      ⟨(some 37), none, .call (.func 31) [(.tmp 36)]⟩,
      ⟨(some 10), none, .op (.move (.tmp 37))⟩])
    (.seq (.seq (.region [⟨(some 11), none, .op (.move (.const (.int .i64 0)))⟩])
    (.block 0 (.loop A5l0)))
    (.seq (.seq (.region [⟨(some 87), none, .op (.move (.tmp 10))⟩,
      ⟨(some 88), none, .op (.len (.tmp 87))⟩,
      ⟨(some 89), none, .op (.bin .gtr (.tmp 88) (.const (.int .i64 4096)))⟩])
    (.cond (.tmp 89) (.seq (.region [⟨(some 8), none, .op (.move (.const (.slice none 0 0)))⟩,
      ⟨(some 9), none, .op (.move (.const (.int .i64 20)))⟩])
    .ret) .skip))
    (.seq (.region [⟨(some 90), none, .op (.move (.tmp 10))⟩,
      ⟨(some 8), none, .op (.move (.tmp 90))⟩,
      ⟨(some 9), none, .op (.move (.const (.int .i64 0)))⟩])
    .ret))))))
def R5 : List RV := [.tmp 8, .tmp 9]
theorem is5 : Is Tryz.prog (fun r i => [(15, 5)].contains (r, i)) 11 91 A5 R5 := ⟨Tryz.f11, Tryz.func11, rfl, by kernel_rfl, by kernel_rfl, Tryz.call11⟩
def A7l0 : ACode :=
  (.seq (.seq (.region [⟨(some 11), none, .op (.move (.tmp 5))⟩,
      ⟨(some 12), none, .op (.move (.tmp 0))⟩,
      ⟨(some 13), none, .op (.len (.tmp 12))⟩,
      ⟨(some 14), none, .op (.bin .lss (.tmp 11) (.tmp 13))⟩])
    (.cond (.tmp 14) .skip (.exit 0)))
    (.seq (.block 1 (.seq (.dregion [⟨0, ⟨(some 17), none, .op (.move (.tmp 0))⟩, []⟩,
      ⟨1, ⟨(some 18), none, .op (.move (.tmp 5))⟩, []⟩,
      ⟨2, ⟨(some 19), none, .op (.idxA 2 (.tmp 17) (.tmp 18))⟩, []⟩,
      ⟨3, ⟨(some 20), none, .op (.load 2 true (.tmp 19))⟩, []⟩,
      ⟨4, ⟨(some 21), none, .op (.move (.tmp 1))⟩, []⟩,
      ⟨5, ⟨(some 22), none, .op (.move (.tmp 5))⟩, []⟩,
      ⟨6, ⟨(some 23), none, .op (.idxA 2 (.tmp 21) (.tmp 22))⟩, []⟩,
      ⟨7, ⟨(some 24), none, .op (.load 2 true (.tmp 23))⟩, []⟩,
      ⟨8, ⟨(some 25), none, .op (.eqS true [.int, .int] (.tmp 20) (.tmp 24))⟩, []⟩])
    (.cond (.tmp 25) (.seq (.region [⟨(some 4), none, .op (.move (.const (.bool false)))⟩])
    .ret) .skip)))
    (.region [⟨(some 15), none, .op (.move (.tmp 5))⟩,
      ⟨(some 16), none, .op (.bin .add (.tmp 15) (.const (.int .i64 1)))⟩,
      ⟨(some 5), none, .op (.move (.tmp 16))⟩])))
def A7 : ACode :=
  (.seq (.region [⟨(some 4), none, .op (.move (.const (.bool false)))⟩])
    (.seq (.seq (.region [⟨(some 6), none, .op (.move (.tmp 0))⟩,
      ⟨(some 7), none, .op (.len (.tmp 6))⟩,
      ⟨(some 8), none, .op (.move (.tmp 1))⟩,
      ⟨(some 9), none, .op (.len (.tmp 8))⟩,
      ⟨(some 10), none, .op (.bin .neq (.tmp 7) (.tmp 9))⟩])
    (.cond (.tmp 10) (.seq (.region [⟨(some 4), none, .op (.move (.const (.bool false)))⟩])
    .ret) .skip))
    (.seq (.seq (.region [⟨(some 5), none, .op (.move (.const (.int .i64 0)))⟩])
    (.block 0 (.loop A7l0)))
    (.seq (.region [⟨(some 4), none, .op (.move (.const (.bool true)))⟩])
    .ret))))
def R7 : List RV := [.tmp 4]
theorem is7 : Is Tryz.prog (fun _ _ => false) 18 26 A7 R7 := ⟨Tryz.f18, Tryz.func18, rfl, by kernel_rfl, by kernel_rfl, Tryz.call18⟩
def A10 : ACode :=
  (.seq (.region [⟨(some 2), none, .op (.move (.const (.bool false)))⟩])
    (.seq (.region [⟨(some 3), none, .op (.move (.tmp 0))⟩,
      ⟨(some 4), none, .op (.len (.tmp 3))⟩,
      ⟨(some 5), none, .op (.bin .leq (.tmp 4) (.const (.int .i64 4096)))⟩,
      ⟨(some 6), none, .op (.move (.tmp 5))⟩,
      ⟨(some 7), (some (6, true)), .op (.move (.tmp 0))⟩,
      ⟨(some 8), (some (6, true)), .call (.func 55) [(.tmp 7)]⟩,
      ⟨(some 9), (some (6, true)), .op (.bin .eql (.tmp 8) (.const (.int .i64 0)))⟩,
      ⟨(some 10), none, .op (.pick (.tmp 6) (.tmp 9) (.const (.bool false)))⟩,
      ⟨(some 11), none, .op (.move (.tmp 10))⟩,
      ⟨(some 12), (some (11, true)), .op (.move (.tmp 0))⟩,
      ⟨(some 13), (some (11, true)), .op (.len (.tmp 12))⟩,
      ⟨(some 14), (some (11, true)), .op (.bin .eql (.tmp 13) (.const (.int .i64 0)))⟩,
      ⟨(some 15), (some (11, true)), .op (.move (.tmp 14))⟩,
      ⟨(some 16), (some (15, false)), .op (.move (.tmp 0))⟩,
      ⟨(some 17), (some (15, false)), .op (.move (.tmp 0))⟩,
      ⟨(some 18), (some (15, false)), .op (.len (.tmp 17))⟩,
      ⟨(some 19), (some (15, false)), .op (.bin .sub (.tmp 18) (.const (.int .i64 1)))⟩,
      ⟨(some 20), (some (15, false)), .op (.idxA 2 (.tmp 16) (.tmp 19))⟩,
      ⟨(some 21), (some (15, false)), .op (.fieldA 0 (.tmp 20))⟩,
      ⟨(some 22), (some (15, false)), .op (.load 1 false (.tmp 21))⟩,
      ⟨(some 23), (some (15, false)), .op (.bin .shr (.tmp 22) (.const (.int .u64 32)))⟩,
      ⟨(some 24), (some (15, false)), .op (.bin .eql (.tmp 23) (.const (.int .u64 0)))⟩,
      ⟨(some 25), (some (11, true)), .op (.pick (.tmp 15) (.const (.bool true)) (.tmp 24))⟩,
      ⟨(some 26), none, .op (.pick (.tmp 11) (.tmp 25) (.const (.bool false)))⟩,
      ⟨(some 2), none, .op (.move (.tmp 26))⟩])
    .ret))
def R10 : List RV := [.tmp 2]
theorem is10 : Is Tryz.prog (fun _ _ => false) 28 27 A10 R10 := ⟨Tryz.f28, Tryz.func28, rfl, by kernel_rfl, by kernel_rfl, Tryz.call28⟩
def A11 : ACode :=
  (.seq (.region [⟨(some 4), none, .op (.move (.const (.bool false)))⟩])
    (.seq (.region [⟨(some 5), none, .op (.move (.tmp 0))⟩,
      ⟨(some 6), none, .op (.bin .shr (.tmp 5) (.const (.int .u64 1)))⟩,
      ⟨(some 7), none, .op (.move (.tmp 1))⟩,
      ⟨(some 8), none, .op (.bin .sub (.tmp 7) (.const (.int .i64 1)))⟩,
      ⟨(some 9), none, .op (.bin .shr (.tmp 6) (.tmp 8))⟩,
      ⟨(some 10), none, .op (.bin .eql (.tmp 9) (.const (.int .u64 0)))⟩,
      ⟨(some 4), none, .op (.move (.tmp 10))⟩])
    .ret))
def R11 : List RV := [.tmp 4]
theorem is11 : Is Tryz.prog (fun _ _ => false) 29 11 A11 R11 := ⟨Tryz.f29, Tryz.func29, rfl, by kernel_rfl, by kernel_rfl, Tryz.call29⟩
def A12 : ACode :=
  (.seq (.region [⟨(some 4), none, .op (.move (.const (.bool false)))⟩])
    (.seq (.region [⟨(some 5), none, .op (.move (.tmp 0))⟩,
      ⟨(some 6), none, .op (.move (.tmp 1))⟩,
      ⟨(some 7), none, .call (.func 56) [(.tmp 5), (.tmp 6)]⟩,
      ⟨(some 8), none, .op (.bin .geq (.tmp 7) (.const (.int .i64 0)))⟩,
      ⟨(some 4), none, .op (.move (.tmp 8))⟩])
    .ret))
def R12 : List RV := [.tmp 4]
theorem is12 : Is Tryz.prog (fun _ _ => false) 30 9 A12 R12 := ⟨Tryz.f30, Tryz.func30, rfl, by kernel_rfl, by kernel_rfl, Tryz.call30⟩
def A13 : ACode :=
  (.seq (.region [⟨(some 2), none, .op (.move (.const (.slice none 0 0)))⟩])
    (.seq (.seq (.region [⟨(some 3), none, .op (.move (.tmp 0))⟩,
      ⟨(some 4), none, .op (.eqN false .sl (.tmp 3))⟩])
    (.cond (.tmp 4) (.seq (.region [⟨(some 2), none, .op (.move (.const (.slice none 0 0)))⟩])
    .ret) .skip))
    (.seq (.region [⟨(some 5), none, .op (.buildO 35 [(.int .u64 0), (.int .u8 0)] 0 [])⟩,
      ⟨(some 6), none, .op (.move (.tmp 0))⟩,
      ⟨(some 7), none, .op (.app 35 2 16 (.tmp 5) (.tmp 6))⟩,
      ⟨(some 2), none, .op (.move (.tmp 7))⟩])
    .ret)))
def R13 : List RV := [.tmp 2]
theorem is13 : Is Tryz.prog (fun r i => [(3, 0)].contains (r, i)) 31 8 A13 R13 := ⟨Tryz.f31, Tryz.func31, rfl, by kernel_rfl, by kernel_rfl, Tryz.call31⟩
def A14l0 : ACode :=
  (.seq (.seq (.region [⟨(some 15), none, .op (.move (.tmp 9))⟩,
      ⟨(some 16), none, .op (.move (.tmp 10))⟩,
      ⟨(some 17), none, .op (.bin .lss (.tmp 15) (.tmp 16))⟩])
    (.cond (.tmp 17) .skip (.exit 0)))
    (.block 1 (.seq (.region [⟨(some 18), none, .op (.move (.tmp 9))⟩,
      ⟨(some 19), none, .op (.move (.tmp 10))⟩,
      ⟨(some 20), none, .op (.bin .add (.tmp 18) (.tmp 19))⟩,
      ⟨(some 21), none, .op (.conv .u64 (.tmp 20))⟩,
      ⟨(some 22), none, .op (.bin .shr (.tmp 21) (.const (.int .u64 1)))⟩,
      ⟨(some 23), none, .op (.conv .i64 (.tmp 22))⟩,
      ⟨(some 11), none, .op (.move (.tmp 23))⟩])
    (.seq (.region [⟨(some 24), none, .op (.move (.tmp 2))⟩,
      ⟨(some 25), none, .op (.move (.tmp 0))⟩,
      ⟨(some 26), none, .op (.move (.tmp 11))⟩,
      ⟨(some 27), none, .op (.idxA 2 (.tmp 25) (.tmp 26))⟩,
      ⟨(some 28), none, .op (.load 2 true (.tmp 27))⟩,
      ⟨(some 29), none, .op (.move (.tmp 1))⟩,
      ⟨(some 30), none, .call (.tmp 24) [(.tmp 28), (.tmp 29)]⟩,
      ⟨(some 31), none, .op (.bin .lss (.tmp 30) (.const (.int .i64 0)))⟩])
    (.cond (.tmp 31) (.region [⟨(some 32), none, .op (.move (.tmp 11))⟩,
      ⟨(some 33), none, .op (.bin .add (.tmp 32) (.const (.int .i64 1)))⟩,
      ⟨(some 9), none, .op (.move (.tmp 33))⟩]) (.region [⟨(some 34), none, .op (.move (.tmp 11))⟩,
      ⟨(some 10), none, .op (.move (.tmp 34))⟩]))))))
def A14 : ACode :=
  (.seq (.region [⟨(some 6), none, .op (.move (.const (.int .i64 0)))⟩,
      ⟨(some 7), none, .op (.move (.const (.bool false)))⟩])
    (.seq (.region [⟨(some 12), none, .op (.move (.tmp 0))⟩,
      ⟨(some 13), none, .op (.len (.tmp 12))⟩,
      ⟨(some 8), none, .op (.move (.tmp 13))⟩])
    (.seq (.region [⟨(some 14), none, .op (.move (.tmp 8))⟩,
      ⟨(some 9), none, .op (.move (.const (.int .i64 0)))⟩,
      ⟨(some 10), none, .op (.move (.tmp 14))⟩])
    (.seq (.block 0 (.loop A14l0))
    (.seq (.region [⟨(some 35), none, .op (.move (.tmp 9))⟩,
      ⟨(some 36), none, .op (.move (.tmp 9))⟩,
      ⟨(some 37), none, .op (.move (.tmp 8))⟩,
      ⟨(some 38), none, .op (.bin .lss (.tmp 36) (.tmp 37))⟩,
      ⟨(some 39), none, .op (.move (.tmp 38))⟩,
      ⟨(some 40), (some (39, true)), .op (.move (.tmp 2))⟩,
      ⟨(some 41), (some (39, true)), .op (.move (.tmp 0))⟩,
      ⟨(some 42), (some (39, true)), .op (.move (.tmp 9))⟩,
      ⟨(some 43), (some (39, true)), .op (.idxA 2 (.tmp 41) (.tmp 42))⟩,
      ⟨(some 44), (some (39, true)), .op (.load 2 true (.tmp 43))⟩,
      ⟨(some 45), (some (39, true)), .op (.move (.tmp 1))⟩,
      ⟨(some 46), (some (39, true)), .call (.tmp 40) [(.tmp 44), (.tmp 45)]⟩,
      ⟨(some 47), (some (39, true)), .op (.bin .eql (.tmp 46) (.const (.int .i64 0)))⟩,
      ⟨(some 48), none, .op (.pick (.tmp 39) (.tmp 47) (.const (.bool false)))⟩,
      ⟨(some 6), none, .op (.move (.tmp 35))⟩,
      ⟨(some 7), none, .op (.move (.tmp 48))⟩])
    .ret)))))
def R14 : List RV := [.tmp 6, .tmp 7]
theorem is14 : Is Tryz.prog (fun _ _ => false) 32 49 A14 R14 := ⟨Tryz.f32, Tryz.func32, rfl, by kernel_rfl, by kernel_rfl, Tryz.call32⟩
def A15 : ACode :=
  (.seq (.region [⟨(some 2), none, .op (.box (.tmp 0))⟩,
      ⟨(some 4), none, .op (.move (.const (.int .i64 0)))⟩])
    (.seq (.block 0 (.seq (.region [⟨(some 6), none, .op (.fieldA 0 (.tmp 2))⟩,
      ⟨(some 7), none, .op (.load 1 false (.tmp 6))⟩,
      ⟨(some 8), none, .op (.move (.tmp 1))⟩,
      ⟨(some 9), none, .op (.bin .lss (.tmp 7) (.tmp 8))⟩,
      ⟨(some 5), none, .op (.move (.tmp 9))⟩])
    (.cond (.tmp 5) (.seq (.region [⟨(some 4), none, .op (.move (.const (.int .i64 (-1))))⟩])
    .ret) (.seq (.region [⟨(some 11), none, .op (.fieldA 0 (.tmp 2))⟩,
      ⟨(some 12), none, .op (.load 1 false (.tmp 11))⟩,
      ⟨(some 13), none, .op (.move (.tmp 1))⟩,
      ⟨(some 14), none, .op (.bin .gtr (.tmp 12) (.tmp 13))⟩,
      ⟨(some 10), none, .op (.move (.tmp 14))⟩])
    (.cond (.tmp 10) (.seq (.region [⟨(some 4), none, .op (.move (.const (.int .i64 1)))⟩])
    .ret) .skip)))))
    (.seq (.region [⟨(some 4), none, .op (.move (.const (.int .i64 0)))⟩])
    .ret)))
def R15 : List RV := [.tmp 4]
theorem is15 : Is Tryz.prog (fun _ _ => false) 33 15 A15 R15 := ⟨Tryz.f33, Tryz.func33, rfl, by kernel_rfl, by kernel_rfl, Tryz.call33⟩
def A16 : ACode :=
  (.seq (.region [⟨(some 6), none, .op (.move (.const (.slice none 0 0)))⟩])
    (.seq (.region [⟨(some 8), none, .op (.move (.tmp 0))⟩,
      ⟨(some 9), none, .op (.move (.tmp 1))⟩,
      ⟨(some 10), none, .op (.move (.tmp 2))⟩,
      ⟨(some 11), none, .op (.move (.tmp 0))⟩,
      ⟨(some 12), none, .op (.len (.tmp 11))⟩,
      ⟨(some 13), none, .op (.slc 2 (.tmp 8) (some (.tmp 9)) (some (.tmp 10)) (some (.tmp 12)))⟩])
    (.seq (.seq (.region [⟨(some 14), none, .op (.move (.tmp 1))⟩,
      ⟨(some 15), none, .op (.move (.tmp 2))⟩,
      ⟨(some 16), none, .op (.bin .eql (.tmp 14) (.tmp 15))⟩])
    (.cond (.tmp 16) (.seq (.region [⟨(some 17), none, .op (.move (.tmp 0))⟩,
      ⟨(some 6), none, .op (.move (.tmp 17))⟩])
    .ret) .skip))
    (.seq (.region [⟨(some 18), none, .op (.move (.tmp 0))⟩,
      ⟨(some 19), none, .op (.len (.tmp 18))⟩,
      ⟨(some 7), none, .op (.move (.tmp 19))⟩])
    (.seq (.dregion [⟨0, ⟨(some 20), none, .op (.move (.tmp 0))⟩, []⟩,
      ⟨1, ⟨(some 21), none, .op (.move (.tmp 1))⟩, []⟩,
      ⟨2, ⟨(some 22), none, .op (.slc 2 (.tmp 20) none (some (.tmp 21)) none)⟩, []⟩,
      ⟨3, ⟨(some 23), none, .op (.move (.tmp 0))⟩, []⟩,
      ⟨4, ⟨(some 24), none, .op (.move (.tmp 2))⟩, []⟩,
      ⟨5, ⟨(some 25), none, .op (.slc 2 (.tmp 23) (some (.tmp 24)) none none)⟩, []⟩,
      ⟨6, ⟨(some 26), none, .op (.app 35 2 16 (.tmp 22) (.tmp 25))⟩, []⟩,
      ⟨7, ⟨(some 0), none, .op (.move (.tmp 26))⟩, []⟩])
    (.seq (.region [⟨(some 27), none, .op (.move (.tmp 0))⟩,
      ⟨(some 28), none, .op (.move (.tmp 0))⟩,
      ⟨(some 29), none, .op (.len (.tmp 28))⟩,
      ⟨(some 30), none, .op (.move (.tmp 7))⟩,
      ⟨(some 31), none, .op (.slc 2 (.tmp 27) (some (.tmp 29)) (some (.tmp 30)) none)⟩,
      ⟨none, none, .op (.clear [(.int .u64 0), (.int .u8 0)] (.tmp 31))⟩])
    (.seq (.region [⟨(some 32), none, .op (.move (.tmp 0))⟩,
      ⟨(some 6), none, .op (.move (.tmp 32))⟩])
    .ret)))))))
def R16 : List RV := [.tmp 6]
theorem is16 : Is Tryz.prog (fun _ _ => false) 34 33 A16 R16 := ⟨Tryz.f34, Tryz.func34, rfl, by kernel_rfl, by kernel_rfl, Tryz.call34⟩
def A17 : ACode :=
  (.seq (.region [⟨(some 6), none, .op (.move (.const (.slice none 0 0)))⟩])
    (.seq (.region [⟨(some 10), none, .op (.move (.tmp 0))⟩,
      ⟨(some 11), none, .op (.move (.tmp 1))⟩,
      ⟨(some 12), none, .op (.slc 2 (.tmp 10) (some (.tmp 11)) none none)⟩])
    (.seq (.region [⟨(some 13), none, .op (.move (.tmp 2))⟩,
      ⟨(some 14), none, .op (.len (.tmp 13))⟩,
      ⟨(some 7), none, .op (.move (.tmp 14))⟩])
    (.seq (.seq (.region [⟨(some 15), none, .op (.move (.tmp 7))⟩,
      ⟨(some 16), none, .op (.bin .eql (.tmp 15) (.const (.int .i64 0)))⟩])
    (.cond (.tmp 16) (.seq (.region [⟨(some 17), none, .op (.move (.tmp 0))⟩,
      ⟨(some 6), none, .op (.move (.tmp 17))⟩])
    .ret) .skip))
    (.seq (.region [⟨(some 18), none, .op (.move (.tmp 0))⟩,
      ⟨(some 19), none, .op (.len (.tmp 18))⟩,
      ⟨(some 8), none, .op (.move (.tmp 19))⟩])
    (.seq (.seq (.region [⟨(some 20), none, .op (.move (.tmp 1))⟩,
      ⟨(some 21), none, .op (.move (.tmp 8))⟩,
      ⟨(some 22), none, .op (.bin .eql (.tmp 20) (.tmp 21))⟩])
    (.cond (.tmp 22) (.seq (.region [⟨(some 23), none, .op (.move (.tmp 0))⟩,
      ⟨(some 24), none, .op (.move (.tmp 2))⟩,
      ⟨(some 25), none, .op (.app 35 2 16 (.tmp 23) (.tmp 24))⟩,
      ⟨(some 6), none, .op (.move (.tmp 25))⟩])
    .ret) .skip))
    (.seq (.seq (.region [⟨(some 26), none, .op (.move (.tmp 8))⟩,
      ⟨(some 27), none, .op (.move (.tmp 7))⟩,
      ⟨(some 28), none, .op (.bin .add (.tmp 26) (.tmp 27))⟩,
      ⟨(some 29), none, .op (.move (.tmp 0))⟩,
      ⟨(some 30), none, .op (.cap (.tmp 29))⟩,
      ⟨(some 31), none, .op (.bin .gtr (.tmp 28) (.tmp 30))⟩])
    (.cond (.tmp 31) (.seq (.region [⟨(some 32), none, .op (.move (.tmp 0))⟩,
      ⟨(some 33), none, .op (.move (.tmp 1))⟩,
      ⟨(some 34), none, .op (.slc 2 (.tmp 32) none (some (.tmp 33)) none)⟩,
      ⟨(some 35), none, .op (.move (.tmp 8))⟩,
      ⟨(some 36), none, .op (.move (.tmp 7))⟩,
      ⟨(some 37), none, .op (.bin .add (.tmp 35) (.tmp 36))⟩,
      ⟨(some 38), none, .op (.move (.tmp 1))⟩,
      ⟨(some 39), none, .op (.bin .sub (.tmp 37) (.tmp 38))⟩,
      ⟨(some 40), none, .op (.appZ 35 [(.int .u64 0), (.int .u8 0)] 16 (.tmp 34) (.tmp 39))⟩,
      ⟨(some 9), none, .op (.move (.tmp 40))⟩])
    (.seq (.region [⟨(some 41), none, .op (.move (.tmp 9))⟩,
      ⟨(some 42), none, .op (.move (.tmp 1))⟩,
      ⟨(some 43), none, .op (.slc 2 (.tmp 41) (some (.tmp 42)) none none)⟩,
      ⟨(some 44), none, .op (.move (.tmp 2))⟩,
      ⟨(some 45), none, .op (.copy 2 (.tmp 43) (.tmp 44))⟩])
    (.seq (.dregion [⟨0, ⟨(some 46), none, .op (.move (.tmp 9))⟩, []⟩,
      ⟨1, ⟨(some 47), none, .op (.move (.tmp 1))⟩, []⟩,
      ⟨2, ⟨(some 48), none, .op (.move (.tmp 7))⟩, []⟩,
      ⟨3, ⟨(some 49), none, .op (.bin .add (.tmp 47) (.tmp 48))⟩, []⟩,
      ⟨4, ⟨(some 50), none, .op (.slc 2 (.tmp 46) (some (.tmp 49)) none none)⟩, []⟩,
      ⟨5, ⟨(some 51), none, .op (.move (.tmp 0))⟩, []⟩,
      ⟨6, ⟨(some 52), none, .op (.move (.tmp 1))⟩, []⟩,
      ⟨7, ⟨(some 53), none, .op (.slc 2 (.tmp 51) (some (.tmp 52)) none none)⟩, []⟩,
      ⟨8, ⟨(some 54), none, .op (.copy 2 (.tmp 50) (.tmp 53))⟩, []⟩])
    (.seq (.region [⟨(some 55), none, .op (.move (.tmp 9))⟩,
      ⟨(some 6), none, .op (.move (.tmp 55))⟩])
    .ret)))) .skip))
    (.seq (.region [⟨(some 56), none, .op (.move (.tmp 0))⟩,
      ⟨(some 57), none, .op (.move (.tmp 8))⟩,
      ⟨(some 58), none, .op (.move (.tmp 7))⟩,
      ⟨(some 59), none, .op (.bin .add (.tmp 57) (.tmp 58))⟩,
      ⟨(some 60), none, .op (.slc 2 (.tmp 56) none (some (.tmp 59)) none)⟩,
      ⟨(some 0), none, .op (.move (.tmp 60))⟩])
    (.seq (.seq (.region [⟨(some 61), none, .op (.move (.tmp 2))⟩,
      ⟨(some 62), none, .op (.move (.tmp 0))⟩,
      ⟨(some 63), none, .op (.move (.tmp 1))⟩,
      ⟨(some 64), none, .op (.move (.tmp 7))⟩,
      ⟨(some 65), none, .op (.bin .add (.tmp 63) (.tmp 64))⟩,
      ⟨(some 66), none, .op (.slc 2 (.tmp 62) (some (.tmp 65)) none none)⟩,
      ⟨(some 67), none, .op (.ovl (.tmp 61) (.tmp 66))⟩,
      ⟨(some 68), none, .op (.un .not (.tmp 67))⟩])
    (.cond (.tmp 68) (.seq (.dregion [⟨0, ⟨(some 69), none, .op (.move (.tmp 0))⟩, []⟩,
      ⟨1, ⟨(some 70), none, .op (.move (.tmp 1))⟩, []⟩,
      ⟨2, ⟨(some 71), none, .op (.move (.tmp 7))⟩, []⟩,
      ⟨3, ⟨(some 72), none, .op (.bin .add (.tmp 70) (.tmp 71))⟩, []⟩,
      ⟨4, ⟨(some 73), none, .op (.slc 2 (.tmp 69) (some (.tmp 72)) none none)⟩, []⟩,
      ⟨5, ⟨(some 74), none, .op (.move (.tmp 0))⟩, []⟩,
      ⟨6, ⟨(some 75), none, .op (.move (.tmp 1))⟩, []⟩,
      ⟨7, ⟨(some 76), none, .op (.slc 2 (.tmp 74) (some (.tmp 75)) none none)⟩, []⟩,
      ⟨8, ⟨(some 77), none, .op (.copy 2 (.tmp 73) (.tmp 76))⟩, []⟩])
    (.seq (.region [⟨(some 78), none, .op (.move (.tmp 0))⟩,
      ⟨(some 79), none, .op (.move (.tmp 1))⟩,
      ⟨(some 80), none, .op (.slc 2 (.tmp 78) (some (.tmp 79)) none none)⟩,
      ⟨(some 81), none, .op (.move (.tmp 2))⟩,
      ⟨(some 82), none, .op (.copy 2 (.tmp 80) (.tmp 81))⟩])
    (.seq (.region [⟨(some 83), none, .op (.move (.tmp 0))⟩,
      ⟨(some 6), none, .op (.move (.tmp 83))⟩])
    .ret))) .skip))
    (.seq (.region [⟨(some 84), none, .op (.move (.tmp 0))⟩,
      ⟨(some 85), none, .op (.move (.tmp 8))⟩,
      ⟨(some 86), none, .op (.slc 2 (.tmp 84) (some (.tmp 85)) none none)⟩,
      ⟨(some 87), none, .op (.move (.tmp 2))⟩,
      ⟨(some 88), none, .op (.copy 2 (.tmp 86) (.tmp 87))⟩])
    (.seq (.region [⟨(some 89), none, .op (.move (.tmp 0))⟩,
      ⟨(some 90), none, .op (.move (.tmp 1))⟩,
      ⟨(some 91), none, .op (.slc 2 (.tmp 89) (some (.tmp 90)) none none)⟩,
      ⟨(some 92), none, .op (.move (.tmp 7))⟩,
      ⟨(some 93), none, .call (.func 58) [(.tmp 91), (.tmp 92)]⟩])
    (.seq (.region [⟨(some 94), none, .op (.move (.tmp 0))⟩,
      ⟨(some 6), none, .op (.move (.tmp 94))⟩])
    .ret))))))))))))
def R17 : List RV := [.tmp 6]
theorem is17 : Is Tryz.prog (fun _ _ => false) 35 95 A17 R17 := ⟨Tryz.f35, Tryz.func35, rfl, by kernel_rfl, by kernel_rfl, Tryz.call35⟩
def A24l0 : ACode :=
  (.seq (.region [⟨(some 11), none, .op (.bin .lss (.tmp 10) (.tmp 9))⟩])
    (.seq (.cond (.tmp 11) .skip (.exit 0))
    (.seq (.block 1 (.seq (.region [⟨(some 12), none, .op (.move (.tmp 10))⟩,
      ⟨(some 13), none, .op (.idxA 2 (.tmp 8) (.tmp 10))⟩,
      ⟨(some 14), none, .op (.load 2 true (.tmp 13))⟩,
      ⟨(some 4), none, .op (.alloc [(.int .u64 0), (.int .u8 0)])⟩,
      ⟨(some 3), none, .op (.move (.tmp 12))⟩,
      ⟨none, none, .op (.store 2 (.tmp 4) (.tmp 14))⟩])
    (.seq (.dregion [⟨0, ⟨(some 15), none, .op (.fieldA 1 (.tmp 4))⟩, []⟩,
      ⟨1, ⟨(some 16), none, .op (.load 1 false (.tmp 15))⟩, []⟩,
      ⟨2, ⟨(some 17), none, .op (.bin .eql (.tmp 16) (.const (.int .u8 0)))⟩, []⟩,
      ⟨3, ⟨(some 18), none, .op (.move (.tmp 17))⟩, []⟩,
      ⟨4, ⟨(some 19), (some (18, false)), .op (.move (.tmp 3))⟩, []⟩,
      ⟨5, ⟨(some 20), (some (18, false)), .op (.bin .gtr (.tmp 19) (.const (.int .i64 0)))⟩, []⟩,
      ⟨6, ⟨(some 21), (some (18, false)), .op (.move (.tmp 20))⟩, []⟩,
      ⟨7, ⟨(some 22), (some (21, true)), .op (.move (.tmp 0))⟩, []⟩,
      ⟨8, ⟨(some 23), (some (21, true)), .op (.move (.tmp 3))⟩, []⟩,
      ⟨9, ⟨(some 24), (some (21, true)), .op (.bin .sub (.tmp 23) (.const (.int .i64 1)))⟩, []⟩,
      ⟨10, ⟨(some 25), (some (21, true)), .op (.idxA 2 (.tmp 22) (.tmp 24))⟩, []⟩,
      ⟨11, ⟨(some 26), (some (21, true)), .op (.fieldA 0 (.tmp 25))⟩, []⟩,
      ⟨12, ⟨(some 27), (some (21, true)), .op (.load 1 false (.tmp 26))⟩, []⟩,
      ⟨13, ⟨(some 28), (some (21, true)), .op (.fieldA 0 (.tmp 4))⟩, []⟩,
      ⟨14, ⟨(some 29), (some (21, true)), .op (.load 1 false (.tmp 28))⟩, []⟩,
      ⟨15, ⟨(some 30), (some (21, true)), .op (.bin .geq (.tmp 27) (.tmp 29))⟩, []⟩,
      ⟨16, ⟨(some 31), (some (18, false)), .op (.pick (.tmp 21) (.tmp 30) (.const (.bool false)))⟩, []⟩,
      ⟨17, ⟨(some 32), none, .op (.pick (.tmp 18) (.const (.bool true)) (.tmp 31))⟩, []⟩])
    (.cond (.tmp 32) (.seq (.region [⟨(some 2), none, .op (.move (.const (.int .i64 8)))⟩])
    .ret) .skip))))
    (.region [⟨(some 33), none, .op (.bin .add (.tmp 10) (.const (.int .i64 1)))⟩,
      ⟨(some 10), none, .op (.move (.tmp 33))⟩]))))
def A24 : ACode :=
  (.seq (.region [⟨(some 2), none, .op (.move (.const (.int .i64 0)))⟩])
    (.seq (.seq (.region [⟨(some 5), none, .op (.move (.tmp 0))⟩,
      ⟨(some 6), none, .op (.len (.tmp 5))⟩,
      ⟨(some 7), none, .op (.bin .gtr (.tmp 6) (.const (.int .i64 4096)))⟩])
    (.cond (.tmp 7) (.seq (.region [⟨(some 2), none, .op (.move (.const (.int .i64 8)))⟩])
    .ret) .skip))
    (.seq (.seq (.region [⟨(some 8), none, .op (.move (.tmp 0))⟩,
      ⟨(some 9), none, .op (.len (.tmp 8))⟩,
      ⟨(some 10), none, .op (.move (.const (.int .i64 0)))⟩])
    (.block 0 (.loop A24l0)))
    (.seq (.region [⟨(some 2), none, .op (.move (.const (.int .i64 0)))⟩])
    .ret))))
def R24 : List RV := [.tmp 2]
theorem is24 : Is Tryz.prog (fun _ _ => false) 55 34 A24 R24 := ⟨Tryz.f55, Tryz.func55, rfl, by kernel_rfl, by kernel_rfl, Tryz.call55⟩
def A25l0 : ACode :=
  (.seq (.region [⟨(some 9), none, .op (.bin .lss (.tmp 8) (.tmp 7))⟩])
    (.seq (.cond (.tmp 9) .skip (.exit 0))
    (.seq (.block 1 (.seq (.region [⟨(some 10), none, .op (.move (.tmp 8))⟩,
      ⟨(some 5), none, .op (.move (.tmp 10))⟩])
    (.seq (.region [⟨(some 11), none, .op (.move (.tmp 1))⟩,
      ⟨(some 12), none, .op (.move (.tmp 0))⟩,
      ⟨(some 13), none, .op (.move (.tmp 5))⟩,
      ⟨(some 14), none, .op (.idxA 1 (.tmp 12) (.tmp 13))⟩,
      ⟨(some 15), none, .op (.load 1 false (.tmp 14))⟩,
      ⟨(some 16), none, .op (.bin .eql (.tmp 11) (.tmp 15))⟩])
    (.cond (.tmp 16) (.seq (.region [⟨(some 17), none, .op (.move (.tmp 5))⟩,
      ⟨(some 4), none, .op (.move (.tmp 17))⟩])
    .ret) .skip))))
    (.region [⟨(some 18), none, .op (.bin .add (.tmp 8) (.const (.int .i64 1)))⟩,
      ⟨(some 8), none, .op (.move (.tmp 18))⟩]))))
def A25 : ACode :=
  (.seq (.region [⟨(some 4), none, .op (.move (.const (.int .i64 0)))⟩])
    (.seq (.seq (.region [⟨(some 6), none, .op (.move (.tmp 0))⟩,
      ⟨(some 7), none, .op (.len (.tmp 6))⟩,
      ⟨(some 8), none, .op (.move (.const (.int .i64 0)))⟩])
    (.block 0 (.loop A25l0)))
    (.seq (.region [⟨(some 4), none, .op (.move (.const (.int .i64 (-1))))⟩])
    .ret)))
def R25 : List RV := [.tmp 4]
theorem is25 : Is Tryz.prog (fun _ _ => false) 56 19 A25 R25 := ⟨Tryz.f56, Tryz.func56, rfl, by kernel_rfl, by kernel_rfl, Tryz.call56⟩
end Go.Proofs.YtdmjloieldhlnaaGreatDoor
