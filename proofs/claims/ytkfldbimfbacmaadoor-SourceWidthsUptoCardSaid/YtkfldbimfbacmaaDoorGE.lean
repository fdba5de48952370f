/- Trees of the source language, and their cells. -/
import Derived.Test.YtkfldbimfbacmaaDoorGD
import Derived.Test.YtkfldbimfbacmaaDoorRows
import Derived.KernelRfl
namespace Go.Proofs.YtkfldbimfbacmaaDoor
open Go Go.Ab Go.Proofs
set_option linter.unusedVariables false
set_option linter.unusedSimpArgs false

abbrev Nm := List UInt8
/-- Expressions. -/
inductive Ex where
  | mk (kind width bits : Int) (name : Nm) (op : Int) (sub : List Ex)
def Ex.kind : Ex → Int | .mk k _ _ _ _ _ => k
def Ex.width : Ex → Int | .mk _ w _ _ _ _ => w
def Ex.bits : Ex → Int | .mk _ _ b _ _ _ => b
def Ex.name : Ex → Nm | .mk _ _ _ n _ _ => n
def Ex.op : Ex → Int | .mk _ _ _ _ o _ => o
def Ex.sub : Ex → List Ex | .mk _ _ _ _ _ s => s
/-- Statements. -/
inductive Sm where
  | mk (kind : Int) (name func : Nm) (width : Int) (exprs : List Ex) (body els : List Sm)
def Sm.kind : Sm → Int | .mk k _ _ _ _ _ _ => k
def Sm.name : Sm → Nm | .mk _ n _ _ _ _ _ => n
def Sm.func : Sm → Nm | .mk _ _ f _ _ _ _ => f
def Sm.width : Sm → Int | .mk _ _ _ w _ _ _ => w
def Sm.exprs : Sm → List Ex | .mk _ _ _ _ l _ _ => l
def Sm.body : Sm → List Sm | .mk _ _ _ _ _ l _ => l
def Sm.els : Sm → List Sm | .mk _ _ _ _ _ _ l => l
abbrev Pm := Nm × Int
structure Fu where
  name : Nm
  params : List Pm
  result : Int
  body : List Sm
structure Ar where
  name : Nm
  width : Int
  len : Int
structure Pr where
  arrays : List Ar
  funcs : List Fu

mutual
def exE : Ex → List AV
  | .mk k w b n o s => [.int .u8 k, .int .i64 w, .int .u64 b, .str n, .int .u8 o, .lst 6 (exsE s)]
def exsE : List Ex → List (List AV)
  | [] => []
  | x :: r => exE x :: exsE r
end
theorem exsE_map : ∀ l : List Ex, exsE l = l.map exE
  | [] => by simp [exsE]
  | x :: r => by simp [exsE, exsE_map r]
mutual
def smE : Sm → List AV
  | .mk k n f w l b e => [.int .u8 k, .str n, .str f, .int .i64 w, .lst 6 (exsE l), .lst 7 (smsE b), .lst 7 (smsE e)]
def smsE : List Sm → List (List AV)
  | [] => []
  | x :: r => smE x :: smsE r
end
theorem smsE_map : ∀ l : List Sm, smsE l = l.map smE
  | [] => by simp [smsE]
  | x :: r => by simp [smsE, smsE_map r]
def exsA (l : List Ex) : AV := .lst 6 (l.map exE)
def smsA (l : List Sm) : AV := .lst 7 (l.map smE)
def pmE (p : Pm) : List AV := [.str p.1, .int .i64 p.2]
def pmsA (l : List Pm) : AV := .lst 2 (l.map pmE)
def fuE (f : Fu) : List AV := [.str f.name, pmsA f.params, .int .i64 f.result, smsA f.body]
def fusA (l : List Fu) : AV := .lst 4 (l.map fuE)
def arE (a : Ar) : List AV := [.str a.name, .int .i64 a.width, .int .i64 a.len]
def arsA (l : List Ar) : AV := .lst 3 (l.map arE)
def prE (p : Pr) : List AV := [arsA p.arrays, fusA p.funcs]
theorem exE_eq (x : Ex) : exE x = [.int .u8 x.kind, .int .i64 x.width, .int .u64 x.bits, .str x.name, .int .u8 x.op, exsA x.sub] := by
  cases x; simp [exE, Ex.kind, Ex.width, Ex.bits, Ex.name, Ex.op, Ex.sub, exsA, exsE_map]
theorem smE_eq (s : Sm) : smE s = [.int .u8 s.kind, .str s.name, .str s.func, .int .i64 s.width, exsA s.exprs, smsA s.body, smsA s.els] := by
  cases s; simp [smE, Sm.kind, Sm.name, Sm.func, Sm.width, Sm.exprs, Sm.body, Sm.els, exsA, smsA, exsE_map, smsE_map]

/-! ### Measures -/
mutual
def nodes : Ex → Nat
  | .mk _ _ _ _ _ s => nodesL s + 1
def nodesL : List Ex → Nat
  | [] => 0
  | x :: r => nodes x + nodesL r
end
mutual
def depth : Ex → Nat
  | .mk _ _ _ _ _ s => depthL s + 1
def depthL : List Ex → Nat
  | [] => 0
  | x :: r => max (depth x) (depthL r)
end
def big (x : Ex) : Bool := decide (50 < nodes x) || decide (14 < depth x)
mutual
def stmts : Sm → Nat
  | .mk _ _ _ _ _ b e => stmtsL b + stmtsL e + 1
def stmtsL : List Sm → Nat
  | [] => 0
  | x :: r => stmts x + stmtsL r
end
mutual
def vars : Sm → Nat
  | .mk k _ _ _ _ b e => varsL b + varsL e + (if k = 1 then 1 else 0)
def varsL : List Sm → Nat
  | [] => 0
  | x :: r => vars x + varsL r
end
mutual
def high : Sm → Nat
  | .mk _ _ _ _ _ b e => max (highL b) (highL e) + 1
def highL : List Sm → Nat
  | [] => 0
  | x :: r => max (high x) (highL r)
end
mutual
def large : Sm → Bool
  | .mk _ _ _ _ l b e => l.any big || largeL b || largeL e
def largeL : List Sm → Bool
  | [] => false
  | x :: r => large x || largeL r
end
/-! ### What is well formed -/
def sized (w : Int) : Bool := decide (w = 1) || decide (w = 8) || decide (w = 16) || decide (w = 32)
end Go.Proofs.YtkfldbimfbacmaaDoor
/- Abstract code, part 1. -/
namespace Go.Proofs.YtkfldbimfbacmaaDoor
open Go Go.Ab Go.Proofs
set_option maxRecDepth 100000
def A3 : ACode :=
 (.seq (.region [⟨(some 3), none, .op (.box (.tmp 0))⟩,
 ⟨(some 5), none, .op (.box (.tmp 2))⟩,
 ⟨(some 6), none, .op (.move (.const (.bool false)))⟩])
 (.seq (.seq (.region [⟨(some 15), none, .op (.load 2 true (.tmp 3))⟩,
 ⟨(some 16), none, .call (.func 4) [(.tmp 15)]⟩,
 ⟨(some 17), none, .op (.move (.tmp 16))⟩,
 ⟨(some 18), (some (17, false)), .op (.load 6 true (.tmp 5))⟩,
 ⟨(some 19), (some (17, false)), .call (.func 5) [(.tmp 18)]⟩,
 ⟨(some 20), none, .op (.pick (.tmp 17) (.const (.bool true)) (.tmp 19))⟩])
 (.cond (.tmp 20) (.seq (.region [⟨(some 6), none, .op (.move (.const (.bool true)))⟩])
 .ret) .skip))
 (.seq (.region [⟨(some 22), none, .op (.load 2 true (.tmp 3))⟩,
 ⟨(some 23), none, .op (.move (.tmp 1))⟩,
 ⟨(some 24), none, .call (.func 6) [(.tmp 22), (.tmp 23)]⟩,
 ⟨(some 21), none, .op (.move (.tmp 24))⟩,
 ⟨(some 25), none, .op (.ext (.tmp 21) 0)⟩,
 ⟨(some 26), none, .op (.ext (.tmp 21) 1)⟩,
 ⟨(some 7), none, .op (.move (.tmp 25))⟩,
 ⟨(some 8), none, .op (.move (.tmp 26))⟩])
 (.seq (.region [⟨(some 28), none, .op (.load 2 true (.tmp 3))⟩,
 ⟨(some 29), none, .op (.move (.tmp 1))⟩,
 ⟨(some 30), none, .call (.func 7) [(.tmp 28), (.tmp 29)]⟩,
 ⟨(some 27), none, .op (.move (.tmp 30))⟩,
 ⟨(some 31), none, .op (.ext (.tmp 27) 0)⟩,
 ⟨(some 32), none, .op (.ext (.tmp 27) 1)⟩,
 ⟨(some 9), none, .op (.move (.tmp 31))⟩,
 ⟨(some 10), none, .op (.move (.tmp 32))⟩])
 (.seq (.region [⟨(some 34), none, .op (.load 2 true (.tmp 3))⟩,
 ⟨(some 35), none, .op (.move (.tmp 1))⟩,
 ⟨(some 36), none, .op (.load 6 true (.tmp 5))⟩,
 ⟨(some 37), none, .call (.func 8) [(.tmp 34), (.tmp 35), (.tmp 36)]⟩,
 ⟨(some 33), none, .op (.move (.tmp 37))⟩,
 ⟨(some 38), none, .op (.ext (.tmp 33) 0)⟩,
 ⟨(some 39), none, .op (.ext (.tmp 33) 1)⟩,
 ⟨(some 11), none, .op (.move (.tmp 38))⟩,
 ⟨(some 12), none, .op (.move (.tmp 39))⟩])
 (.seq (.region [⟨(some 41), none, .op (.load 2 true (.tmp 3))⟩,
 ⟨(some 42), none, .op (.move (.tmp 1))⟩,
 ⟨(some 43), none, .op (.load 6 true (.tmp 5))⟩,
 ⟨(some 44), none, .call (.func 9) [(.tmp 41), (.tmp 42), (.tmp 43)]⟩,
 ⟨(some 40), none, .op (.move (.tmp 44))⟩,
 ⟨(some 45), none, .op (.ext (.tmp 40) 0)⟩,
 ⟨(some 46), none, .op (.ext (.tmp 40) 1)⟩,
 ⟨(some 13), none, .op (.move (.tmp 45))⟩,
 ⟨(some 14), none, .op (.move (.tmp 46))⟩])
 (.seq (.region [⟨(some 47), none, .op (.move (.tmp 7))⟩,
 ⟨(some 48), none, .op (.move (.tmp 9))⟩,
 ⟨(some 49), none, .call (.func 10) [(.tmp 47), (.tmp 48)]⟩,
 ⟨(some 50), none, .op (.move (.tmp 49))⟩,
 ⟨(some 51), (some (50, true)), .op (.move (.tmp 8))⟩,
 ⟨(some 52), (some (50, true)), .op (.move (.tmp 10))⟩,
 ⟨(some 53), (some (50, true)), .op (.bin .eql (.tmp 51) (.tmp 52))⟩,
 ⟨(some 54), none, .op (.pick (.tmp 50) (.tmp 53) (.const (.bool false)))⟩,
 ⟨(some 55), none, .op (.move (.tmp 54))⟩,
 ⟨(some 56), (some (55, true)), .op (.move (.tmp 11))⟩,
 ⟨(some 57), (some (55, true)), .op (.move (.tmp 13))⟩,
 ⟨(some 58), (some (55, true)), .op (.bin .eql (.tmp 56) (.tmp 57))⟩,
 ⟨(some 59), none, .op (.pick (.tmp 55) (.tmp 58) (.const (.bool false)))⟩,
 ⟨(some 60), none, .op (.move (.tmp 59))⟩,
 ⟨(some 61), (some (60, true)), .op (.move (.tmp 12))⟩,
 ⟨(some 62), (some (60, true)), .op (.move (.tmp 14))⟩,
 ⟨(some 63), (some (60, true)), .op (.bin .eql (.tmp 61) (.tmp 62))⟩,
 ⟨(some 64), none, .op (.pick (.tmp 60) (.tmp 63) (.const (.bool false)))⟩,
 ⟨(some 6), none, .op (.move (.tmp 64))⟩])
 .ret)))))))
def R3 : List RV := [.tmp 6]
theorem is3 : Is Tryd.prog (fun _ _ => false) 3 65 A3 R3 := ⟨Tryd.f3, Tryd.func3, rfl, by kernel_rfl, by kernel_rfl, Tryd.call3⟩
def A4l0 : ACode :=
 (.seq (.seq (.region [⟨(some 18), none, .op (.move (.tmp 4))⟩,
 ⟨(some 19), none, .op (.fieldA 0 (.tmp 1))⟩,
 ⟨(some 20), none, .op (.load 1 false (.tmp 19))⟩,
 ⟨(some 21), none, .op (.len (.tmp 20))⟩,
 ⟨(some 22), none, .op (.bin .lss (.tmp 18) (.tmp 21))⟩])
 (.cond (.tmp 22) .skip (.exit 0)))
 (.seq (.block 1 (.region [⟨(some 25), none, .op (.move (.tmp 3))⟩,
 ⟨(some 26), none, .op (.fieldA 0 (.tmp 1))⟩,
 ⟨(some 27), none, .op (.load 1 false (.tmp 26))⟩,
 ⟨(some 28), none, .op (.move (.tmp 4))⟩,
 ⟨(some 29), none, .op (.idxA 3 (.tmp 27) (.tmp 28))⟩,
 ⟨(some 30), none, .op (.fieldA 0 (.tmp 29))⟩,
 ⟨(some 31), none, .op (.load 1 false (.tmp 30))⟩,
 ⟨(some 32), none, .op (.lens (.tmp 31))⟩,
 ⟨(some 33), none, .op (.bin .add (.tmp 25) (.tmp 32))⟩,
 ⟨(some 3), none, .op (.move (.tmp 33))⟩]))
 (.region [⟨(some 23), none, .op (.move (.tmp 4))⟩,
 ⟨(some 24), none, .op (.bin .add (.tmp 23) (.const (.int .i64 1)))⟩,
 ⟨(some 4), none, .op (.move (.tmp 24))⟩])))
def A4l1 : ACode :=
 (.seq (.seq (.region [⟨(some 50), none, .op (.move (.tmp 7))⟩,
 ⟨(some 51), none, .op (.fieldA 1 (.tmp 6))⟩,
 ⟨(some 52), none, .op (.load 1 false (.tmp 51))⟩,
 ⟨(some 53), none, .op (.len (.tmp 52))⟩,
 ⟨(some 54), none, .op (.bin .lss (.tmp 50) (.tmp 53))⟩])
 (.cond (.tmp 54) .skip (.exit 4)))
 (.seq (.block 5 (.region [⟨(some 57), none, .op (.move (.tmp 3))⟩,
 ⟨(some 58), none, .op (.fieldA 1 (.tmp 6))⟩,
 ⟨(some 59), none, .op (.load 1 false (.tmp 58))⟩,
 ⟨(some 60), none, .op (.move (.tmp 7))⟩,
 ⟨(some 61), none, .op (.idxA 2 (.tmp 59) (.tmp 60))⟩,
 ⟨(some 62), none, .op (.fieldA 0 (.tmp 61))⟩,
 ⟨(some 63), none, .op (.load 1 false (.tmp 62))⟩,
 ⟨(some 64), none, .op (.lens (.tmp 63))⟩,
 ⟨(some 65), none, .op (.bin .add (.tmp 57) (.tmp 64))⟩,
 ⟨(some 3), none, .op (.move (.tmp 65))⟩]))
 (.region [⟨(some 55), none, .op (.move (.tmp 7))⟩,
 ⟨(some 56), none, .op (.bin .add (.tmp 55) (.const (.int .i64 1)))⟩,
 ⟨(some 7), none, .op (.move (.tmp 56))⟩])))
def A4l2 : ACode :=
 (.seq (.seq (.region [⟨(some 34), none, .op (.move (.tmp 5))⟩,
 ⟨(some 35), none, .op (.fieldA 1 (.tmp 1))⟩,
 ⟨(some 36), none, .op (.load 1 false (.tmp 35))⟩,
 ⟨(some 37), none, .op (.len (.tmp 36))⟩,
 ⟨(some 38), none, .op (.bin .lss (.tmp 34) (.tmp 37))⟩])
 (.cond (.tmp 38) .skip (.exit 2)))
 (.seq (.block 3 (.seq (.region [⟨(some 41), none, .op (.fieldA 1 (.tmp 1))⟩,
 ⟨(some 42), none, .op (.load 1 false (.tmp 41))⟩,
 ⟨(some 43), none, .op (.move (.tmp 5))⟩,
 ⟨(some 44), none, .op (.idxA 4 (.tmp 42) (.tmp 43))⟩,
 ⟨(some 45), none, .op (.load 4 true (.tmp 44))⟩,
 ⟨(some 6), none, .op (.alloc [(.str []), .nilS, (.int .i64 0), .nilS])⟩,
 ⟨none, none, .op (.store 4 (.tmp 6) (.tmp 45))⟩])
 (.seq (.seq (.region [⟨(some 46), none, .op (.fieldA 1 (.tmp 6))⟩,
 ⟨(some 47), none, .op (.load 1 false (.tmp 46))⟩,
 ⟨(some 48), none, .op (.len (.tmp 47))⟩,
 ⟨(some 49), none, .op (.bin .gtr (.tmp 48) (.const (.int .i64 50)))⟩])
 (.cond (.tmp 49) (.seq (.region [⟨(some 2), none, .op (.move (.const (.bool true)))⟩])
 .ret) .skip))
 (.seq (.seq (.region [⟨(some 7), none, .op (.move (.const (.int .i64 0)))⟩])
 (.block 4 (.loop A4l1)))
 (.dregion [⟨0, ⟨(some 66), none, .op (.move (.tmp 3))⟩, []⟩,
 ⟨1, ⟨(some 67), none, .op (.fieldA 0 (.tmp 6))⟩, []⟩,
 ⟨2, ⟨(some 68), none, .op (.load 1 false (.tmp 67))⟩, []⟩,
 ⟨3, ⟨(some 69), none, .op (.lens (.tmp 68))⟩, []⟩,
 ⟨4, ⟨(some 70), none, .op (.fieldA 3 (.tmp 6))⟩, []⟩,
 ⟨5, ⟨(some 71), none, .op (.load 1 false (.tmp 70))⟩, []⟩,
 ⟨6, ⟨(some 72), none, .call (.func 11) [(.tmp 71)]⟩, [0, 1, 2, 3]⟩,
 ⟨7, ⟨(some 73), none, .op (.bin .add (.tmp 69) (.tmp 72))⟩, []⟩,
 ⟨8, ⟨(some 74), none, .op (.bin .add (.tmp 66) (.tmp 73))⟩, []⟩,
 ⟨9, ⟨(some 3), none, .op (.move (.tmp 74))⟩, []⟩])))))
 (.region [⟨(some 39), none, .op (.move (.tmp 5))⟩,
 ⟨(some 40), none, .op (.bin .add (.tmp 39) (.const (.int .i64 1)))⟩,
 ⟨(some 5), none, .op (.move (.tmp 40))⟩])))
def A4 : ACode :=
 (.seq (.region [⟨(some 1), none, .op (.box (.tmp 0))⟩,
 ⟨(some 2), none, .op (.move (.const (.bool false)))⟩])
 (.seq (.seq (.region [⟨(some 8), none, .op (.fieldA 0 (.tmp 1))⟩,
 ⟨(some 9), none, .op (.load 1 false (.tmp 8))⟩,
 ⟨(some 10), none, .op (.len (.tmp 9))⟩,
 ⟨(some 11), none, .op (.bin .gtr (.tmp 10) (.const (.int .i64 20)))⟩,
 ⟨(some 12), none, .op (.move (.tmp 11))⟩,
 ⟨(some 13), (some (12, false)), .op (.fieldA 1 (.tmp 1))⟩,
 ⟨(some 14), (some (12, false)), .op (.load 1 false (.tmp 13))⟩,
 ⟨(some 15), (some (12, false)), .op (.len (.tmp 14))⟩,
 ⟨(some 16), (some (12, false)), .op (.bin .gtr (.tmp 15) (.const (.int .i64 20)))⟩,
 ⟨(some 17), none, .op (.pick (.tmp 12) (.const (.bool true)) (.tmp 16))⟩])
 (.cond (.tmp 17) (.seq (.region [⟨(some 2), none, .op (.move (.const (.bool true)))⟩])
 .ret) .skip))
 (.seq (.region [⟨(some 3), none, .op (.move (.const (.int .i64 0)))⟩])
 (.seq (.seq (.region [⟨(some 4), none, .op (.move (.const (.int .i64 0)))⟩])
 (.block 0 (.loop A4l0)))
 (.seq (.seq (.region [⟨(some 5), none, .op (.move (.const (.int .i64 0)))⟩])
 (.block 2 (.loop A4l2)))
 (.seq (.region [⟨(some 75), none, .op (.move (.tmp 3))⟩,
 ⟨(some 76), none, .op (.bin .gtr (.tmp 75) (.const (.int .i64 5000)))⟩,
 ⟨(some 2), none, .op (.move (.tmp 76))⟩])
 .ret))))))
def R4 : List RV := [.tmp 2]
theorem is4 : Is Tryd.prog (fun _ _ => false) 4 77 A4 R4 := ⟨Tryd.f4, Tryd.func4, rfl, by kernel_rfl, by kernel_rfl, Tryd.call4⟩
def A5 : ACode :=
 (.seq (.region [⟨(some 1), none, .op (.box (.tmp 0))⟩,
 ⟨(some 2), none, .op (.move (.const (.bool false)))⟩])
 (.seq (.region [⟨(some 3), none, .op (.load 6 true (.tmp 1))⟩,
 ⟨(some 4), none, .op (.buildF [(.int .u8 0), (.int .i64 0), (.int .u64 0), (.str []), (.int .u8 0), .nilS] 1 [(0, (.tmp 3))])⟩,
 ⟨(some 5), none, .call (.func 12) [(.tmp 4)]⟩,
 ⟨(some 6), none, .op (.bin .gtr (.tmp 5) (.const (.int .i64 5000)))⟩,
 ⟨(some 2), none, .op (.move (.tmp 6))⟩])
 .ret))
def R5 : List RV := [.tmp 2]
theorem is5 : Is Tryd.prog (fun _ _ => false) 5 7 A5 R5 := ⟨Tryd.f5, Tryd.func5, rfl, by kernel_rfl, by kernel_rfl, Tryd.call5⟩
def A6 : ACode :=
 (.seq (.region [⟨(some 2), none, .op (.box (.tmp 0))⟩,
 ⟨(some 4), none, .op (.move (.const (.slice none 0 0)))⟩,
 ⟨(some 5), none, .op (.move (.const (.int .i64 0)))⟩])
 (.seq (.region [⟨(some 9), none, .op (.load 2 true (.tmp 2))⟩,
 ⟨(some 10), none, .call (.func 13) [(.tmp 9)]⟩,
 ⟨(some 6), none, .op (.move (.tmp 10))⟩])
 (.seq (.seq (.region [⟨(some 11), none, .op (.move (.tmp 6))⟩,
 ⟨(some 12), none, .op (.bin .neq (.tmp 11) (.const (.int .i64 0)))⟩])
 (.cond (.tmp 12) (.seq (.region [⟨(some 13), none, .op (.move (.tmp 6))⟩,
 ⟨(some 4), none, .op (.move (.const (.slice none 0 0)))⟩,
 ⟨(some 5), none, .op (.move (.tmp 13))⟩])
 .ret) .skip))
 (.seq (.seq (.region [⟨(some 14), none, .op (.move (.tmp 1))⟩,
 ⟨(some 15), none, .op (.bin .lss (.tmp 14) (.const (.int .i64 0)))⟩,
 ⟨(some 16), none, .op (.move (.tmp 15))⟩,
 ⟨(some 17), (some (16, false)), .op (.move (.tmp 1))⟩,
 ⟨(some 18), (some (16, false)), .op (.fieldA 1 (.tmp 2))⟩,
 ⟨(some 19), (some (16, false)), .op (.load 1 false (.tmp 18))⟩,
 ⟨(some 20), (some (16, false)), .op (.len (.tmp 19))⟩,
 ⟨(some 21), (some (16, false)), .op (.bin .geq (.tmp 17) (.tmp 20))⟩,
 ⟨(some 22), none, .op (.pick (.tmp 16) (.const (.bool true)) (.tmp 21))⟩])
 (.cond (.tmp 22) (.seq (.region [⟨(some 4), none, .op (.move (.const (.slice none 0 0)))⟩,
 ⟨(some 5), none, .op (.move (.const (.int .i64 2)))⟩])
 .ret) .skip))
 (.seq (.dregion [⟨0, ⟨(some 24), none, .op (.load 2 true (.tmp 2))⟩, []⟩,
 ⟨1, ⟨(some 25), none, .op (.fieldA 1 (.tmp 2))⟩, []⟩,
 ⟨2, ⟨(some 26), none, .op (.load 1 false (.tmp 25))⟩, []⟩,
 ⟨3, ⟨(some 27), none, .op (.move (.tmp 1))⟩, []⟩,
 ⟨4, ⟨(some 28), none, .op (.idxA 4 (.tmp 26) (.tmp 27))⟩, []⟩,
 ⟨5, ⟨(some 29), none, .op (.load 4 true (.tmp 28))⟩, []⟩,
 ⟨6, ⟨(some 30), none, .call (.func 14) [(.tmp 24), (.tmp 29)]⟩, []⟩,
 ⟨7, ⟨(some 23), none, .op (.move (.tmp 30))⟩, []⟩,
 ⟨8, ⟨(some 31), none, .op (.ext (.tmp 23) 0)⟩, []⟩,
 ⟨9, ⟨(some 32), none, .op (.ext (.tmp 23) 1)⟩, []⟩,
 ⟨10, ⟨(some 7), none, .op (.move (.tmp 31))⟩, []⟩,
 ⟨11, ⟨(some 8), none, .op (.move (.tmp 32))⟩, []⟩])
 (.seq (.region [⟨(some 33), none, .op (.move (.tmp 7))⟩,
 ⟨(some 34), none, .op (.move (.tmp 8))⟩,
 ⟨(some 4), none, .op (.move (.tmp 33))⟩,
 ⟨(some 5), none, .op (.move (.tmp 34))⟩])
 .ret))))))
def R6 : List RV := [.tmp 4, .tmp 5]
theorem is6 : Is Tryd.prog (fun _ _ => false) 6 35 A6 R6 := ⟨Tryd.f6, Tryd.func6, rfl, by kernel_rfl, by kernel_rfl, Tryd.call6⟩
def A7 : ACode :=
 (.seq (.region [⟨(some 2), none, .op (.box (.tmp 0))⟩,
 ⟨(some 4), none, .op (.move (.const (.slice none 0 0)))⟩,
 ⟨(some 5), none, .op (.move (.const (.int .i64 0)))⟩])
 (.seq (.region [⟨(some 9), none, .op (.load 2 true (.tmp 2))⟩,
 ⟨(some 10), none, .call (.func 15) [(.tmp 9)]⟩,
 ⟨(some 6), none, .op (.move (.tmp 10))⟩])
 (.seq (.seq (.region [⟨(some 11), none, .op (.move (.tmp 6))⟩,
 ⟨(some 12), none, .op (.bin .eql (.tmp 11) (.const (.int .i64 0)))⟩,
 ⟨(some 13), none, .op (.move (.tmp 12))⟩,
 ⟨(some 14), (some (13, true)), .op (.move (.tmp 1))⟩,
 ⟨(some 15), (some (13, true)), .op (.bin .lss (.tmp 14) (.const (.int .i64 0)))⟩,
 ⟨(some 16), (some (13, true)), .op (.move (.tmp 15))⟩,
 ⟨(some 17), (some (16, false)), .op (.move (.tmp 1))⟩,
 ⟨(some 18), (some (16, false)), .op (.fieldA 1 (.tmp 2))⟩,
 ⟨(some 19), (some (16, false)), .op (.load 1 false (.tmp 18))⟩,
 ⟨(some 20), (some (16, false)), .op (.len (.tmp 19))⟩,
 ⟨(some 21), (some (16, false)), .op (.bin .geq (.tmp 17) (.tmp 20))⟩,
 ⟨(some 22), (some (13, true)), .op (.pick (.tmp 16) (.const (.bool true)) (.tmp 21))⟩,
 ⟨(some 23), none, .op (.pick (.tmp 13) (.tmp 22) (.const (.bool false)))⟩])
 (.cond (.tmp 23) (.region [⟨(some 6), none, .op (.move (.const (.int .i64 2)))⟩]) .skip))
 (.seq (.seq (.region [⟨(some 24), none, .op (.move (.tmp 6))⟩,
 ⟨(some 25), none, .op (.bin .neq (.tmp 24) (.const (.int .i64 0)))⟩])
 (.cond (.tmp 25) (.seq (.region [⟨(some 26), none, .op (.move (.tmp 6))⟩,
 ⟨(some 4), none, .op (.move (.const (.slice none 0 0)))⟩,
 ⟨(some 5), none, .op (.move (.tmp 26))⟩])
 .ret) .skip))
 (.seq (.region [⟨(some 28), none, .op (.load 2 true (.tmp 2))⟩,
 ⟨(some 29), none, .op (.move (.tmp 1))⟩,
 ⟨(some 30), none, .call (.func 16) [(.tmp 28), (.tmp 29)]⟩,
 ⟨(some 27), none, .op (.move (.tmp 30))⟩,
 ⟨(some 31), none, .op (.ext (.tmp 27) 0)⟩,
 ⟨(some 32), none, .op (.ext (.tmp 27) 1)⟩,
 ⟨(some 7), none, .op (.move (.tmp 31))⟩,
 ⟨(some 8), none, .op (.move (.tmp 32))⟩])
 (.seq (.region [⟨(some 33), none, .op (.move (.tmp 7))⟩,
 ⟨(some 4), none, .op (.move (.tmp 33))⟩,
 ⟨(some 5), none, .op (.move (.const (.int .i64 0)))⟩])
 .ret))))))
def R7 : List RV := [.tmp 4, .tmp 5]
theorem is7 : Is Tryd.prog (fun _ _ => false) 7 34 A7 R7 := ⟨Tryd.f7, Tryd.func7, rfl, by kernel_rfl, by kernel_rfl, Tryd.call7⟩
def A8 : ACode :=
 (.seq (.region [⟨(some 3), none, .op (.box (.tmp 0))⟩,
 ⟨(some 5), none, .op (.box (.tmp 2))⟩,
 ⟨(some 6), none, .op (.move (.const (.int .i64 0)))⟩,
 ⟨(some 7), none, .op (.move (.const (.int .i64 0)))⟩])
 (.seq (.region [⟨(some 14), none, .op (.load 2 true (.tmp 3))⟩,
 ⟨(some 15), none, .op (.move (.tmp 1))⟩,
 ⟨(some 16), none, .call (.func 6) [(.tmp 14), (.tmp 15)]⟩,
 ⟨(some 13), none, .op (.move (.tmp 16))⟩,
 ⟨(some 17), none, .op (.ext (.tmp 13) 0)⟩,
 ⟨(some 18), none, .op (.ext (.tmp 13) 1)⟩,
 ⟨(some 8), none, .op (.move (.tmp 17))⟩,
 ⟨(some 9), none, .op (.move (.tmp 18))⟩])
 (.seq (.block 0 (.seq (.region [⟨(some 20), none, .op (.move (.tmp 9))⟩,
 ⟨(some 21), none, .op (.bin .neq (.tmp 20) (.const (.int .i64 0)))⟩,
 ⟨(some 19), none, .op (.move (.tmp 21))⟩])
 (.cond (.tmp 19) (.seq (.region [⟨(some 22), none, .op (.move (.tmp 9))⟩,
 ⟨(some 6), none, .op (.move (.const (.int .i64 0)))⟩,
 ⟨(some 7), none, .op (.move (.tmp 22))⟩])
 .ret) (.seq (.region [⟨(some 24), none, .op (.load 6 true (.tmp 5))⟩,
 ⟨(some 25), none, .call (.func 17) [(.tmp 24)]⟩,
 ⟨(some 23), none, .op (.move (.tmp 25))⟩])
 (.cond (.tmp 23) (.seq (.region [⟨(some 6), none, .op (.move (.const (.int .i64 0)))⟩,
 ⟨(some 7), none, .op (.move (.const (.int .i64 4)))⟩])
 .ret) (.seq (.region [⟨(some 27), none, .op (.load 6 true (.tmp 5))⟩,
 ⟨(some 28), none, .call (.func 18) [(.tmp 27)]⟩,
 ⟨(some 29), none, .op (.un .not (.tmp 28))⟩,
 ⟨(some 26), none, .op (.move (.tmp 29))⟩])
 (.cond (.tmp 26) (.seq (.region [⟨(some 6), none, .op (.move (.const (.int .i64 0)))⟩,
 ⟨(some 7), none, .op (.move (.const (.int .i64 8)))⟩])
 .ret) .skip)))))))
 (.seq (.dregion [⟨0, ⟨(some 30), none, .op (.load 2 true (.tmp 3))⟩, []⟩,
 ⟨1, ⟨(some 31), none, .op (.fieldA 1 (.tmp 3))⟩, []⟩,
 ⟨2, ⟨(some 32), none, .op (.load 1 false (.tmp 31))⟩, []⟩,
 ⟨3, ⟨(some 33), none, .op (.move (.tmp 1))⟩, []⟩,
 ⟨4, ⟨(some 34), none, .op (.idxA 4 (.tmp 32) (.tmp 33))⟩, []⟩,
 ⟨5, ⟨(some 35), none, .op (.load 4 true (.tmp 34))⟩, []⟩,
 ⟨6, ⟨(some 36), none, .op (.move (.tmp 8))⟩, []⟩,
 ⟨7, ⟨(some 37), none, .op (.build [.nilS, .nilS, (.str []), .nilS, (.int .i64 0), .nilS, .nilS] [(0, 2, (.tmp 30)), (2, 4, (.tmp 35)), (6, 1, (.tmp 36))])⟩, []⟩,
 ⟨8, ⟨(some 38), none, .op (.box (.tmp 37))⟩, []⟩,
 ⟨9, ⟨(some 10), none, .op (.move (.tmp 38))⟩, []⟩])
 (.seq (.region [⟨(some 40), none, .op (.move (.tmp 10))⟩,
 ⟨(some 41), none, .op (.load 6 true (.tmp 5))⟩,
 ⟨(some 42), none, .call (.func 19) [(.tmp 40), (.tmp 41)]⟩,
 ⟨(some 39), none, .op (.move (.tmp 42))⟩,
 ⟨(some 43), none, .op (.ext (.tmp 39) 0)⟩,
 ⟨(some 44), none, .op (.ext (.tmp 39) 1)⟩,
 ⟨(some 11), none, .op (.move (.tmp 43))⟩,
 ⟨(some 12), none, .op (.move (.tmp 44))⟩])
 (.seq (.region [⟨(some 45), none, .op (.move (.tmp 11))⟩,
 ⟨(some 46), none, .op (.move (.tmp 12))⟩,
 ⟨(some 6), none, .op (.move (.tmp 45))⟩,
 ⟨(some 7), none, .op (.move (.tmp 46))⟩])
 .ret))))))
def R8 : List RV := [.tmp 6, .tmp 7]
theorem is8 : Is Tryd.prog (fun _ _ => false) 8 47 A8 R8 := ⟨Tryd.f8, Tryd.func8, rfl, by kernel_rfl, by kernel_rfl, Tryd.call8⟩
def A9 : ACode :=
 (.seq (.region [⟨(some 3), none, .op (.box (.tmp 0))⟩,
 ⟨(some 5), none, .op (.box (.tmp 2))⟩,
 ⟨(some 6), none, .op (.move (.const (.int .i64 0)))⟩,
 ⟨(some 7), none, .op (.move (.const (.int .i64 0)))⟩])
 (.seq (.region [⟨(some 13), none, .op (.load 2 true (.tmp 3))⟩,
 ⟨(some 14), none, .op (.move (.tmp 1))⟩,
 ⟨(some 15), none, .call (.func 7) [(.tmp 13), (.tmp 14)]⟩,
 ⟨(some 12), none, .op (.move (.tmp 15))⟩,
 ⟨(some 16), none, .op (.ext (.tmp 12) 0)⟩,
 ⟨(some 17), none, .op (.ext (.tmp 12) 1)⟩,
 ⟨(some 8), none, .op (.move (.tmp 16))⟩,
 ⟨(some 9), none, .op (.move (.tmp 17))⟩])
 (.seq (.block 0 (.seq (.region [⟨(some 19), none, .op (.move (.tmp 9))⟩,
 ⟨(some 20), none, .op (.bin .neq (.tmp 19) (.const (.int .i64 0)))⟩,
 ⟨(some 18), none, .op (.move (.tmp 20))⟩])
 (.cond (.tmp 18) (.seq (.region [⟨(some 21), none, .op (.move (.tmp 9))⟩,
 ⟨(some 6), none, .op (.move (.const (.int .i64 0)))⟩,
 ⟨(some 7), none, .op (.move (.tmp 21))⟩])
 .ret) (.seq (.region [⟨(some 23), none, .op (.load 6 true (.tmp 5))⟩,
 ⟨(some 24), none, .call (.func 20) [(.tmp 23)]⟩,
 ⟨(some 22), none, .op (.move (.tmp 24))⟩])
 (.cond (.tmp 22) (.seq (.region [⟨(some 6), none, .op (.move (.const (.int .i64 0)))⟩,
 ⟨(some 7), none, .op (.move (.const (.int .i64 4)))⟩])
 .ret) (.seq (.region [⟨(some 26), none, .op (.load 6 true (.tmp 5))⟩,
 ⟨(some 27), none, .call (.func 21) [(.tmp 26)]⟩,
 ⟨(some 28), none, .op (.un .not (.tmp 27))⟩,
 ⟨(some 25), none, .op (.move (.tmp 28))⟩])
 (.cond (.tmp 25) (.seq (.region [⟨(some 6), none, .op (.move (.const (.int .i64 0)))⟩,
 ⟨(some 7), none, .op (.move (.const (.int .i64 8)))⟩])
 .ret) .skip)))))))
 (.seq (.region [⟨(some 29), none, .op (.load 2 true (.tmp 3))⟩,
 ⟨(some 30), none, .op (.move (.tmp 1))⟩,
 ⟨(some 31), none, .op (.move (.tmp 8))⟩,
 ⟨(some 32), none, .op (.build [.nilS, .nilS, (.int .i64 0), .nilS, (.int .i64 0)] [(0, 2, (.tmp 29)), (2, 1, (.tmp 30)), (3, 1, (.tmp 31))])⟩,
 ⟨(some 33), none, .op (.box (.tmp 32))⟩,
 ⟨(some 10), none, .op (.move (.tmp 33))⟩])
 (.seq (.region [⟨(some 34), none, .op (.move (.tmp 10))⟩,
 ⟨(some 35), none, .op (.load 6 true (.tmp 5))⟩,
 ⟨(some 36), none, .call (.func 22) [(.tmp 34), (.tmp 35)]⟩,
 ⟨(some 11), none, .op (.move (.tmp 36))⟩])
 (.seq (.seq (.region [⟨(some 37), none, .op (.move (.tmp 10))⟩,
 ⟨(some 38), none, .op (.nilck (.tmp 37))⟩,
 ⟨(some 39), none, .op (.fieldA 4 (.tmp 38))⟩,
 ⟨(some 40), none, .op (.load 1 false (.tmp 39))⟩,
 ⟨(some 41), none, .op (.bin .neq (.tmp 40) (.const (.int .i64 0)))⟩])
 (.cond (.tmp 41) (.seq (.dregion [⟨0, ⟨(some 42), none, .op (.move (.tmp 10))⟩, []⟩,
 ⟨1, ⟨(some 43), none, .op (.nilck (.tmp 42))⟩, []⟩,
 ⟨2, ⟨(some 44), none, .op (.fieldA 4 (.tmp 43))⟩, []⟩,
 ⟨3, ⟨(some 45), none, .op (.load 1 false (.tmp 44))⟩, []⟩,
 ⟨4, ⟨(some 6), none, .op (.move (.const (.int .i64 0)))⟩, []⟩,
 ⟨5, ⟨(some 7), none, .op (.move (.tmp 45))⟩, []⟩])
 .ret) .skip))
 (.seq (.region [⟨(some 46), none, .op (.move (.tmp 11))⟩,
 ⟨(some 6), none, .op (.move (.tmp 46))⟩,
 ⟨(some 7), none, .op (.move (.const (.int .i64 0)))⟩])
 .ret)))))))
def R9 : List RV := [.tmp 6, .tmp 7]
theorem is9 : Is Tryd.prog (fun _ _ => false) 9 47 A9 R9 := ⟨Tryd.f9, Tryd.func9, rfl, by kernel_rfl, by kernel_rfl, Tryd.call9⟩
def A10l0 : ACode :=
 (.seq (.seq (.region [⟨(some 11), none, .op (.move (.tmp 5))⟩,
 ⟨(some 12), none, .op (.move (.tmp 0))⟩,
 ⟨(some 13), none, .op (.len (.tmp 12))⟩,
 ⟨(some 14), none, .op (.bin .lss (.tmp 11) (.tmp 13))⟩])
 (.cond (.tmp 14) .skip (.exit 0)))
 (.seq (.block 1 (.seq (.dregion [⟨0, ⟨(some 17), none, .op (.move (.tmp 0))⟩, []⟩,
 ⟨1, ⟨(some 18), none, .op (.move (.tmp 5))⟩, []⟩,
 ⟨2, ⟨(some 19), none, .op (.idxA 2 (.tmp 17) (.tmp 18))⟩, []⟩,
 ⟨3, ⟨(some 20), none, .op (.load 2 true (.tmp 19))⟩, []⟩,
 ⟨4, ⟨(some 21), none, .op (.move (.tmp 1))⟩, []⟩,
 ⟨5, ⟨(some 22), none, .op (.move (.tmp 5))⟩, []⟩,
 ⟨6, ⟨(some 23), none, .op (.idxA 2 (.tmp 21) (.tmp 22))⟩, []⟩,
 ⟨7, ⟨(some 24), none, .op (.load 2 true (.tmp 23))⟩, []⟩,
 ⟨8, ⟨(some 25), none, .op (.eqS true [.str, .int] (.tmp 20) (.tmp 24))⟩, []⟩])
 (.cond (.tmp 25) (.seq (.region [⟨(some 4), none, .op (.move (.const (.bool false)))⟩])
 .ret) .skip)))
 (.region [⟨(some 15), none, .op (.move (.tmp 5))⟩,
 ⟨(some 16), none, .op (.bin .add (.tmp 15) (.const (.int .i64 1)))⟩,
 ⟨(some 5), none, .op (.move (.tmp 16))⟩])))
def A10 : ACode :=
 (.seq (.region [⟨(some 4), none, .op (.move (.const (.bool false)))⟩])
 (.seq (.seq (.region [⟨(some 6), none, .op (.move (.tmp 0))⟩,
 ⟨(some 7), none, .op (.len (.tmp 6))⟩,
 ⟨(some 8), none, .op (.move (.tmp 1))⟩,
 ⟨(some 9), none, .op (.len (.tmp 8))⟩,
 ⟨(some 10), none, .op (.bin .neq (.tmp 7) (.tmp 9))⟩])
 (.cond (.tmp 10) (.seq (.region [⟨(some 4), none, .op (.move (.const (.bool false)))⟩])
 .ret) .skip))
 (.seq (.seq (.region [⟨(some 5), none, .op (.move (.const (.int .i64 0)))⟩])
 (.block 0 (.loop A10l0)))
 (.seq (.region [⟨(some 4), none, .op (.move (.const (.bool true)))⟩])
 .ret))))
def R10 : List RV := [.tmp 4]
theorem is10 : Is Tryd.prog (fun _ _ => false) 10 26 A10 R10 := ⟨Tryd.f10, Tryd.func10, rfl, by kernel_rfl, by kernel_rfl, Tryd.call10⟩
def A11l0 : ACode :=
 (.seq (.seq (.region [⟨(some 5), none, .op (.move (.tmp 4))⟩,
 ⟨(some 6), none, .op (.move (.tmp 0))⟩,
 ⟨(some 7), none, .op (.len (.tmp 6))⟩,
 ⟨(some 8), none, .op (.bin .lss (.tmp 5) (.tmp 7))⟩,
 ⟨(some 9), none, .op (.move (.tmp 8))⟩,
 ⟨(some 10), (some (9, true)), .op (.move (.tmp 3))⟩,
 ⟨(some 11), (some (9, true)), .op (.bin .lss (.tmp 10) (.const (.int .i64 100000)))⟩,
 ⟨(some 12), none, .op (.pick (.tmp 9) (.tmp 11) (.const (.bool false)))⟩])
 (.cond (.tmp 12) .skip (.exit 0)))
 (.seq (.block 1 (.dregion [⟨0, ⟨(some 15), none, .op (.move (.tmp 3))⟩, []⟩,
 ⟨1, ⟨(some 16), none, .op (.move (.tmp 0))⟩, []⟩,
 ⟨2, ⟨(some 17), none, .op (.move (.tmp 4))⟩, []⟩,
 ⟨3, ⟨(some 18), none, .op (.idxA 7 (.tmp 16) (.tmp 17))⟩, []⟩,
 ⟨4, ⟨(some 19), none, .op (.fieldA 1 (.tmp 18))⟩, []⟩,
 ⟨5, ⟨(some 20), none, .op (.load 1 false (.tmp 19))⟩, []⟩,
 ⟨6, ⟨(some 21), none, .op (.lens (.tmp 20))⟩, []⟩,
 ⟨7, ⟨(some 22), none, .op (.bin .add (.const (.int .i64 1)) (.tmp 21))⟩, []⟩,
 ⟨8, ⟨(some 23), none, .op (.move (.tmp 0))⟩, []⟩,
 ⟨9, ⟨(some 24), none, .op (.move (.tmp 4))⟩, []⟩,
 ⟨10, ⟨(some 25), none, .op (.idxA 7 (.tmp 23) (.tmp 24))⟩, []⟩,
 ⟨11, ⟨(some 26), none, .op (.fieldA 2 (.tmp 25))⟩, []⟩,
 ⟨12, ⟨(some 27), none, .op (.load 1 false (.tmp 26))⟩, []⟩,
 ⟨13, ⟨(some 28), none, .op (.lens (.tmp 27))⟩, []⟩,
 ⟨14, ⟨(some 29), none, .op (.bin .add (.tmp 22) (.tmp 28))⟩, []⟩,
 ⟨15, ⟨(some 30), none, .op (.move (.tmp 0))⟩, []⟩,
 ⟨16, ⟨(some 31), none, .op (.move (.tmp 4))⟩, []⟩,
 ⟨17, ⟨(some 32), none, .op (.idxA 7 (.tmp 30) (.tmp 31))⟩, []⟩,
 ⟨18, ⟨(some 33), none, .op (.fieldA 4 (.tmp 32))⟩, []⟩,
 ⟨19, ⟨(some 34), none, .op (.load 1 false (.tmp 33))⟩, []⟩,
 ⟨22, ⟨(some 37), none, .op (.move (.tmp 0))⟩, []⟩,
 ⟨23, ⟨(some 38), none, .op (.move (.tmp 4))⟩, []⟩,
 ⟨24, ⟨(some 39), none, .op (.idxA 7 (.tmp 37) (.tmp 38))⟩, []⟩,
 ⟨25, ⟨(some 40), none, .op (.fieldA 5 (.tmp 39))⟩, []⟩,
 ⟨26, ⟨(some 41), none, .op (.load 1 false (.tmp 40))⟩, []⟩,
 ⟨29, ⟨(some 44), none, .op (.move (.tmp 0))⟩, []⟩,
 ⟨30, ⟨(some 45), none, .op (.move (.tmp 4))⟩, []⟩,
 ⟨31, ⟨(some 46), none, .op (.idxA 7 (.tmp 44) (.tmp 45))⟩, []⟩,
 ⟨32, ⟨(some 47), none, .op (.fieldA 6 (.tmp 46))⟩, []⟩,
 ⟨33, ⟨(some 48), none, .op (.load 1 false (.tmp 47))⟩, []⟩,
 ⟨20, ⟨(some 35), none, .call (.func 12) [(.tmp 34)]⟩, [0, 1, 2, 3, 4, 5, 6, 7, 8, 9, 10, 11, 12, 13, 14, 22, 23, 24, 25, 26, 29, 30, 31, 32, 33]⟩,
 ⟨21, ⟨(some 36), none, .op (.bin .add (.tmp 29) (.tmp 35))⟩, []⟩,
 ⟨27, ⟨(some 42), none, .call (.func 11) [(.tmp 41)]⟩, [0, 1, 2, 3, 4, 5, 6, 7, 8, 9, 10, 11, 12, 13, 14, 29, 30, 31, 32, 33, 21]⟩,
 ⟨28, ⟨(some 43), none, .op (.bin .add (.tmp 36) (.tmp 42))⟩, []⟩,
 ⟨34, ⟨(some 49), none, .call (.func 11) [(.tmp 48)]⟩, [0, 1, 2, 3, 4, 5, 6, 7, 8, 9, 10, 11, 12, 13, 14, 21, 28]⟩,
 ⟨35, ⟨(some 50), none, .op (.bin .add (.tmp 43) (.tmp 49))⟩, []⟩,
 ⟨36, ⟨(some 51), none, .op (.bin .add (.tmp 15) (.tmp 50))⟩, []⟩,
 ⟨37, ⟨(some 3), none, .op (.move (.tmp 51))⟩, []⟩]))
 (.region [⟨(some 13), none, .op (.move (.tmp 4))⟩,
 ⟨(some 14), none, .op (.bin .add (.tmp 13) (.const (.int .i64 1)))⟩,
 ⟨(some 4), none, .op (.move (.tmp 14))⟩])))
def A11 : ACode :=
 (.seq (.region [⟨(some 2), none, .op (.move (.const (.int .i64 0)))⟩])
 (.seq (.region [⟨(some 3), none, .op (.move (.const (.int .i64 0)))⟩])
 (.seq (.seq (.region [⟨(some 4), none, .op (.move (.const (.int .i64 0)))⟩])
 (.block 0 (.loop A11l0)))
 (.seq (.region [⟨(some 52), none, .op (.move (.tmp 3))⟩,
 ⟨(some 2), none, .op (.move (.tmp 52))⟩])
 .ret))))
def R11 : List RV := [.tmp 2]
theorem is11 : Is Tryd.prog (fun _ _ => false) 11 53 A11 R11 := ⟨Tryd.f11, Tryd.func11, rfl, by kernel_rfl, by kernel_rfl, Tryd.call11⟩
def A12l0 : ACode :=
 (.seq (.seq (.region [⟨(some 5), none, .op (.move (.tmp 4))⟩,
 ⟨(some 6), none, .op (.move (.tmp 0))⟩,
 ⟨(some 7), none, .op (.len (.tmp 6))⟩,
 ⟨(some 8), none, .op (.bin .lss (.tmp 5) (.tmp 7))⟩,
 ⟨(some 9), none, .op (.move (.tmp 8))⟩,
 ⟨(some 10), (some (9, true)), .op (.move (.tmp 3))⟩,
 ⟨(some 11), (some (9, true)), .op (.bin .lss (.tmp 10) (.const (.int .i64 100000)))⟩,
 ⟨(some 12), none, .op (.pick (.tmp 9) (.tmp 11) (.const (.bool false)))⟩])
 (.cond (.tmp 12) .skip (.exit 0)))
 (.seq (.block 1 (.dregion [⟨0, ⟨(some 15), none, .op (.move (.tmp 3))⟩, []⟩,
 ⟨1, ⟨(some 16), none, .op (.move (.tmp 0))⟩, []⟩,
 ⟨2, ⟨(some 17), none, .op (.move (.tmp 4))⟩, []⟩,
 ⟨3, ⟨(some 18), none, .op (.idxA 6 (.tmp 16) (.tmp 17))⟩, []⟩,
 ⟨4, ⟨(some 19), none, .op (.fieldA 3 (.tmp 18))⟩, []⟩,
 ⟨5, ⟨(some 20), none, .op (.load 1 false (.tmp 19))⟩, []⟩,
 ⟨6, ⟨(some 21), none, .op (.lens (.tmp 20))⟩, []⟩,
 ⟨7, ⟨(some 22), none, .op (.bin .add (.const (.int .i64 1)) (.tmp 21))⟩, []⟩,
 ⟨8, ⟨(some 23), none, .op (.move (.tmp 0))⟩, []⟩,
 ⟨9, ⟨(some 24), none, .op (.move (.tmp 4))⟩, []⟩,
 ⟨10, ⟨(some 25), none, .op (.idxA 6 (.tmp 23) (.tmp 24))⟩, []⟩,
 ⟨11, ⟨(some 26), none, .op (.fieldA 5 (.tmp 25))⟩, []⟩,
 ⟨12, ⟨(some 27), none, .op (.load 1 false (.tmp 26))⟩, []⟩,
 ⟨13, ⟨(some 28), none, .call (.func 12) [(.tmp 27)]⟩, [0, 1, 2, 3, 4, 5, 6, 7]⟩,
 ⟨14, ⟨(some 29), none, .op (.bin .add (.tmp 22) (.tmp 28))⟩, []⟩,
 ⟨15, ⟨(some 30), none, .op (.bin .add (.tmp 15) (.tmp 29))⟩, []⟩,
 ⟨16, ⟨(some 3), none, .op (.move (.tmp 30))⟩, []⟩]))
 (.region [⟨(some 13), none, .op (.move (.tmp 4))⟩,
 ⟨(some 14), none, .op (.bin .add (.tmp 13) (.const (.int .i64 1)))⟩,
 ⟨(some 4), none, .op (.move (.tmp 14))⟩])))
def A12 : ACode :=
 (.seq (.region [⟨(some 2), none, .op (.move (.const (.int .i64 0)))⟩])
 (.seq (.region [⟨(some 3), none, .op (.move (.const (.int .i64 0)))⟩])
 (.seq (.seq (.region [⟨(some 4), none, .op (.move (.const (.int .i64 0)))⟩])
 (.block 0 (.loop A12l0)))
 (.seq (.region [⟨(some 31), none, .op (.move (.tmp 3))⟩,
 ⟨(some 2), none, .op (.move (.tmp 31))⟩])
 .ret))))
def R12 : List RV := [.tmp 2]
theorem is12 : Is Tryd.prog (fun _ _ => false) 12 32 A12 R12 := ⟨Tryd.f12, Tryd.func12, rfl, by kernel_rfl, by kernel_rfl, Tryd.call12⟩
def A13l0 : ACode :=
 (.seq (.region [⟨(some 35), none, .op (.bin .lss (.tmp 34) (.tmp 33))⟩])
 (.seq (.cond (.tmp 35) .skip (.exit 0))
 (.seq (.block 1 (.seq (.region [⟨(some 36), none, .op (.idxA 3 (.tmp 32) (.tmp 34))⟩,
 ⟨(some 37), none, .op (.load 3 true (.tmp 36))⟩,
 ⟨(some 5), none, .op (.alloc [(.str []), (.int .i64 0), (.int .i64 0)])⟩,
 ⟨none, none, .op (.store 3 (.tmp 5) (.tmp 37))⟩])
 (.region [⟨(some 38), none, .op (.move (.tmp 3))⟩,
 ⟨(some 39), none, .op (.fieldA 0 (.tmp 5))⟩,
 ⟨(some 40), none, .op (.load 1 false (.tmp 39))⟩,
 ⟨none, none, .op (.m (.set .str (.tmp 38) (.tmp 40) (.const (.bool true))))⟩])))
 (.region [⟨(some 41), none, .op (.bin .add (.tmp 34) (.const (.int .i64 1)))⟩,
 ⟨(some 34), none, .op (.move (.tmp 41))⟩]))))
def A13l1 : ACode :=
 (.seq (.region [⟨(some 46), none, .op (.bin .lss (.tmp 45) (.tmp 44))⟩])
 (.seq (.cond (.tmp 46) .skip (.exit 2))
 (.seq (.block 3 (.seq (.region [⟨(some 47), none, .op (.idxA 4 (.tmp 43) (.tmp 45))⟩,
 ⟨(some 48), none, .op (.load 4 true (.tmp 47))⟩,
 ⟨(some 7), none, .op (.alloc [(.str []), .nilS, (.int .i64 0), .nilS])⟩,
 ⟨none, none, .op (.store 4 (.tmp 7) (.tmp 48))⟩])
 (.region [⟨(some 49), none, .op (.move (.tmp 3))⟩,
 ⟨(some 50), none, .op (.fieldA 0 (.tmp 7))⟩,
 ⟨(some 51), none, .op (.load 1 false (.tmp 50))⟩,
 ⟨none, none, .op (.m (.set .str (.tmp 49) (.tmp 51) (.const (.bool true))))⟩])))
 (.region [⟨(some 52), none, .op (.bin .add (.tmp 45) (.const (.int .i64 1)))⟩,
 ⟨(some 45), none, .op (.move (.tmp 52))⟩]))))
def A13l2 : ACode :=
 (.seq (.region [⟨(some 67), none, .op (.bin .lss (.tmp 66) (.tmp 65))⟩])
 (.seq (.cond (.tmp 67) .skip (.exit 4))
 (.seq (.block 5 (.seq (.region [⟨(some 68), none, .op (.idxA 4 (.tmp 64) (.tmp 66))⟩,
 ⟨(some 69), none, .op (.load 4 true (.tmp 68))⟩,
 ⟨(some 9), none, .op (.alloc [(.str []), .nilS, (.int .i64 0), .nilS])⟩,
 ⟨none, none, .op (.store 4 (.tmp 9) (.tmp 69))⟩])
 (.seq (.region [⟨(some 71), none, .op (.load 2 true (.tmp 1))⟩,
 ⟨(some 72), none, .op (.load 4 true (.tmp 9))⟩,
 ⟨(some 73), none, .call (.func 14) [(.tmp 71), (.tmp 72)]⟩,
 ⟨(some 70), none, .op (.move (.tmp 73))⟩,
 ⟨(some 74), none, .op (.ext (.tmp 70) 0)⟩,
 ⟨(some 75), none, .op (.ext (.tmp 70) 1)⟩,
 ⟨(some 10), none, .op (.move (.tmp 74))⟩,
 ⟨(some 11), none, .op (.move (.tmp 75))⟩])
 (.seq (.region [⟨(some 76), none, .op (.move (.tmp 11))⟩,
 ⟨(some 77), none, .op (.bin .neq (.tmp 76) (.const (.int .i64 0)))⟩])
 (.cond (.tmp 77) (.seq (.region [⟨(some 78), none, .op (.move (.tmp 11))⟩,
 ⟨(some 2), none, .op (.move (.tmp 78))⟩])
 .ret) .skip)))))
 (.region [⟨(some 79), none, .op (.bin .add (.tmp 66) (.const (.int .i64 1)))⟩,
 ⟨(some 66), none, .op (.move (.tmp 79))⟩]))))
def A13 : ACode :=
 (.seq (.region [⟨(some 1), none, .op (.box (.tmp 0))⟩,
 ⟨(some 2), none, .op (.move (.const (.int .i64 0)))⟩])
 (.seq (.seq (.region [⟨(some 12), none, .op (.load 2 true (.tmp 1))⟩,
 ⟨(some 13), none, .call (.func 23) [(.tmp 12)]⟩])
 (.cond (.tmp 13) (.seq (.region [⟨(some 2), none, .op (.move (.const (.int .i64 4)))⟩])
 .ret) .skip))
 (.seq (.seq (.region [⟨(some 14), none, .op (.fieldA 1 (.tmp 1))⟩,
 ⟨(some 15), none, .op (.load 1 false (.tmp 14))⟩,
 ⟨(some 16), none, .op (.len (.tmp 15))⟩,
 ⟨(some 17), none, .op (.bin .eql (.tmp 16) (.const (.int .i64 0)))⟩,
 ⟨(some 18), none, .op (.move (.tmp 17))⟩,
 ⟨(some 19), (some (18, false)), .op (.fieldA 0 (.tmp 1))⟩,
 ⟨(some 20), (some (18, false)), .op (.load 1 false (.tmp 19))⟩,
 ⟨(some 21), (some (18, false)), .call (.func 24) [(.tmp 20), (.func 25)]⟩,
 ⟨(some 22), (some (18, false)), .op (.un .not (.tmp 21))⟩,
 ⟨(some 23), none, .op (.pick (.tmp 18) (.const (.bool true)) (.tmp 22))⟩,
 ⟨(some 24), none, .op (.move (.tmp 23))⟩,
 ⟨(some 25), (some (24, false)), .op (.fieldA 1 (.tmp 1))⟩,
 ⟨(some 26), (some (24, false)), .op (.load 1 false (.tmp 25))⟩,
 ⟨(some 27), (some (24, false)), .call (.func 26) [(.tmp 26), (.func 27)]⟩,
 ⟨(some 28), (some (24, false)), .op (.un .not (.tmp 27))⟩,
 ⟨(some 29), none, .op (.pick (.tmp 24) (.const (.bool true)) (.tmp 28))⟩])
 (.cond (.tmp 29) (.seq (.region [⟨(some 2), none, .op (.move (.const (.int .i64 8)))⟩])
 .ret) .skip))
 (.seq (.region [⟨(some 30), none, .op (.m .mk)⟩,
 ⟨(some 3), none, .op (.move (.tmp 30))⟩])
 (.seq (.seq (.region [⟨(some 31), none, .op (.fieldA 0 (.tmp 1))⟩,
 ⟨(some 32), none, .op (.load 1 false (.tmp 31))⟩,
 ⟨(some 33), none, .op (.len (.tmp 32))⟩,
 ⟨(some 34), none, .op (.move (.const (.int .i64 0)))⟩])
 (.block 0 (.loop A13l0)))
 (.seq (.seq (.region [⟨(some 42), none, .op (.fieldA 1 (.tmp 1))⟩,
 ⟨(some 43), none, .op (.load 1 false (.tmp 42))⟩,
 ⟨(some 44), none, .op (.len (.tmp 43))⟩,
 ⟨(some 45), none, .op (.move (.const (.int .i64 0)))⟩])
 (.block 2 (.loop A13l1)))
 (.seq (.seq (.region [⟨(some 53), none, .op (.move (.tmp 3))⟩,
 ⟨(some 54), none, .op (.m (.len (.tmp 53)))⟩,
 ⟨(some 55), none, .op (.fieldA 0 (.tmp 1))⟩,
 ⟨(some 56), none, .op (.load 1 false (.tmp 55))⟩,
 ⟨(some 57), none, .op (.len (.tmp 56))⟩,
 ⟨(some 58), none, .op (.fieldA 1 (.tmp 1))⟩,
 ⟨(some 59), none, .op (.load 1 false (.tmp 58))⟩,
 ⟨(some 60), none, .op (.len (.tmp 59))⟩,
 ⟨(some 61), none, .op (.bin .add (.tmp 57) (.tmp 60))⟩,
 ⟨(some 62), none, .op (.bin .lss (.tmp 54) (.tmp 61))⟩])
 (.cond (.tmp 62) (.seq (.region [⟨(some 2), none, .op (.move (.const (.int .i64 18)))⟩])
 .ret) .skip))
 (.seq (.seq (.region [⟨(some 63), none, .op (.fieldA 1 (.tmp 1))⟩,
 ⟨(some 64), none, .op (.load 1 false (.tmp 63))⟩,
 ⟨(some 65), none, .op (.len (.tmp 64))⟩,
 ⟨(some 66), none, .op (.move (.const (.int .i64 0)))⟩])
 (.block 4 (.loop A13l2)))
 (.seq (.region [⟨(some 2), none, .op (.move (.const (.int .i64 0)))⟩])
 .ret)))))))))
def R13 : List RV := [.tmp 2]
theorem is13 : Is Tryd.prog (fun _ _ => false) 13 80 A13 R13 := ⟨Tryd.f13, Tryd.func13, rfl, by kernel_rfl, by kernel_rfl, Tryd.call13⟩
def A14l0 : ACode :=
 (.seq (.region [⟨(some 19), none, .op (.bin .lss (.tmp 18) (.tmp 17))⟩])
 (.seq (.cond (.tmp 19) .skip (.exit 0))
 (.seq (.block 1 (.seq (.region [⟨(some 20), none, .op (.idxA 2 (.tmp 16) (.tmp 18))⟩,
 ⟨(some 21), none, .op (.load 2 true (.tmp 20))⟩,
 ⟨(some 8), none, .op (.alloc [(.str []), (.int .i64 0)])⟩,
 ⟨none, none, .op (.store 2 (.tmp 8) (.tmp 21))⟩])
 (.seq (.region [⟨(some 22), none, .op (.move (.tmp 6))⟩,
 ⟨(some 23), none, .op (.fieldA 0 (.tmp 8))⟩,
 ⟨(some 24), none, .op (.load 1 false (.tmp 23))⟩,
 ⟨(some 25), none, .op (.fieldA 1 (.tmp 8))⟩,
 ⟨(some 26), none, .op (.load 1 false (.tmp 25))⟩,
 ⟨(some 27), none, .call (.func 28) [(.tmp 22), (.tmp 24), (.tmp 26)]⟩,
 ⟨(some 9), none, .op (.move (.tmp 27))⟩])
 (.seq (.region [⟨(some 28), none, .op (.move (.tmp 9))⟩,
 ⟨(some 29), none, .op (.bin .neq (.tmp 28) (.const (.int .i64 0)))⟩])
 (.cond (.tmp 29) (.seq (.region [⟨(some 30), none, .op (.move (.tmp 9))⟩,
 ⟨(some 4), none, .op (.move (.const (.slice none 0 0)))⟩,
 ⟨(some 5), none, .op (.move (.tmp 30))⟩])
 .ret) .skip)))))
 (.region [⟨(some 31), none, .op (.bin .add (.tmp 18) (.const (.int .i64 1)))⟩,
 ⟨(some 18), none, .op (.move (.tmp 31))⟩]))))
def A14 : ACode :=
 (.seq (.region [⟨(some 2), none, .op (.box (.tmp 0))⟩,
 ⟨(some 3), none, .op (.box (.tmp 1))⟩,
 ⟨(some 4), none, .op (.move (.const (.slice none 0 0)))⟩,
 ⟨(some 5), none, .op (.move (.const (.int .i64 0)))⟩])
 (.seq (.region [⟨(some 11), none, .op (.load 2 true (.tmp 2))⟩,
 ⟨(some 12), none, .op (.load 4 true (.tmp 3))⟩,
 ⟨(some 13), none, .op (.build [.nilS, .nilS, (.str []), .nilS, (.int .i64 0), .nilS, .nilS] [(0, 2, (.tmp 11)), (2, 4, (.tmp 12))])⟩,
 ⟨(some 14), none, .op (.box (.tmp 13))⟩,
 ⟨(some 6), none, .op (.move (.tmp 14))⟩])
 (.seq (.seq (.region [⟨(some 15), none, .op (.fieldA 1 (.tmp 3))⟩,
 ⟨(some 16), none, .op (.load 1 false (.tmp 15))⟩,
 ⟨(some 17), none, .op (.len (.tmp 16))⟩,
 ⟨(some 18), none, .op (.move (.const (.int .i64 0)))⟩])
 (.block 0 (.loop A14l0)))
 (.seq (.region [⟨(some 32), none, .op (.move (.tmp 6))⟩,
 ⟨(some 33), none, .op (.fieldA 3 (.tmp 3))⟩,
 ⟨(some 34), none, .op (.load 1 false (.tmp 33))⟩,
 ⟨(some 35), none, .call (.func 29) [(.tmp 32), (.tmp 34), (.const (.bool false))]⟩,
 ⟨(some 10), none, .op (.move (.tmp 35))⟩])
 (.seq (.region [⟨(some 36), none, .op (.move (.tmp 6))⟩,
 ⟨(some 37), none, .op (.nilck (.tmp 36))⟩,
 ⟨(some 38), none, .op (.fieldA 6 (.tmp 37))⟩,
 ⟨(some 39), none, .op (.load 1 false (.tmp 38))⟩,
 ⟨(some 40), none, .op (.move (.tmp 10))⟩,
 ⟨(some 4), none, .op (.move (.tmp 39))⟩,
 ⟨(some 5), none, .op (.move (.tmp 40))⟩])
 .ret)))))
def R14 : List RV := [.tmp 4, .tmp 5]
theorem is14 : Is Tryd.prog (fun _ _ => false) 14 41 A14 R14 := ⟨Tryd.f14, Tryd.func14, rfl, by kernel_rfl, by kernel_rfl, Tryd.call14⟩
def A15l0 : ACode :=
 (.seq (.seq (.region [⟨(some 16), none, .op (.move (.tmp 4))⟩,
 ⟨(some 17), none, .op (.fieldA 0 (.tmp 1))⟩,
 ⟨(some 18), none, .op (.load 1 false (.tmp 17))⟩,
 ⟨(some 19), none, .op (.len (.tmp 18))⟩,
 ⟨(some 20), none, .op (.bin .lss (.tmp 16) (.tmp 19))⟩])
 (.cond (.tmp 20) .skip (.exit 0)))
 (.seq (.block 1 (.region [⟨(some 23), none, .op (.move (.tmp 3))⟩,
 ⟨(some 24), none, .op (.fieldA 0 (.tmp 1))⟩,
 ⟨(some 25), none, .op (.load 1 false (.tmp 24))⟩,
 ⟨(some 26), none, .op (.move (.tmp 4))⟩,
 ⟨(some 27), none, .op (.idxA 3 (.tmp 25) (.tmp 26))⟩,
 ⟨(some 28), none, .op (.fieldA 0 (.tmp 27))⟩,
 ⟨(some 29), none, .op (.load 1 false (.tmp 28))⟩,
 ⟨(some 30), none, .op (.buildF [(.str [])] 1 [(0, (.tmp 29))])⟩,
 ⟨(some 31), none, .op (.app 9 1 16 (.tmp 23) (.tmp 30))⟩,
 ⟨(some 3), none, .op (.move (.tmp 31))⟩]))
 (.region [⟨(some 21), none, .op (.move (.tmp 4))⟩,
 ⟨(some 22), none, .op (.bin .add (.tmp 21) (.const (.int .i64 1)))⟩,
 ⟨(some 4), none, .op (.move (.tmp 22))⟩])))
def A15l1 : ACode :=
 (.seq (.seq (.region [⟨(some 32), none, .op (.move (.tmp 5))⟩,
 ⟨(some 33), none, .op (.fieldA 1 (.tmp 1))⟩,
 ⟨(some 34), none, .op (.load 1 false (.tmp 33))⟩,
 ⟨(some 35), none, .op (.len (.tmp 34))⟩,
 ⟨(some 36), none, .op (.bin .lss (.tmp 32) (.tmp 35))⟩])
 (.cond (.tmp 36) .skip (.exit 2)))
 (.seq (.block 3 (.region [⟨(some 39), none, .op (.move (.tmp 3))⟩,
 ⟨(some 40), none, .op (.fieldA 1 (.tmp 1))⟩,
 ⟨(some 41), none, .op (.load 1 false (.tmp 40))⟩,
 ⟨(some 42), none, .op (.move (.tmp 5))⟩,
 ⟨(some 43), none, .op (.idxA 4 (.tmp 41) (.tmp 42))⟩,
 ⟨(some 44), none, .op (.fieldA 0 (.tmp 43))⟩,
 ⟨(some 45), none, .op (.load 1 false (.tmp 44))⟩,
 ⟨(some 46), none, .op (.buildF [(.str [])] 1 [(0, (.tmp 45))])⟩,
 ⟨(some 47), none, .op (.app 9 1 16 (.tmp 39) (.tmp 46))⟩,
 ⟨(some 3), none, .op (.move (.tmp 47))⟩]))
 (.region [⟨(some 37), none, .op (.move (.tmp 5))⟩,
 ⟨(some 38), none, .op (.bin .add (.tmp 37) (.const (.int .i64 1)))⟩,
 ⟨(some 5), none, .op (.move (.tmp 38))⟩])))
def A15l2 : ACode :=
 (.seq (.seq (.region [⟨(some 54), none, .op (.move (.tmp 7))⟩,
 ⟨(some 55), none, .op (.move (.tmp 6))⟩,
 ⟨(some 56), none, .op (.bin .lss (.tmp 54) (.tmp 55))⟩])
 (.cond (.tmp 56) .skip (.exit 6)))
 (.seq (.block 7 (.seq (.dregion [⟨0, ⟨(some 59), none, .op (.move (.tmp 3))⟩, []⟩,
 ⟨1, ⟨(some 60), none, .op (.move (.tmp 7))⟩, []⟩,
 ⟨2, ⟨(some 61), none, .op (.idxA 1 (.tmp 59) (.tmp 60))⟩, []⟩,
 ⟨3, ⟨(some 62), none, .op (.load 1 false (.tmp 61))⟩, []⟩,
 ⟨4, ⟨(some 63), none, .op (.move (.tmp 3))⟩, []⟩,
 ⟨5, ⟨(some 64), none, .op (.move (.tmp 6))⟩, []⟩,
 ⟨6, ⟨(some 65), none, .op (.idxA 1 (.tmp 63) (.tmp 64))⟩, []⟩,
 ⟨7, ⟨(some 66), none, .op (.load 1 false (.tmp 65))⟩, []⟩,
 ⟨8, ⟨(some 67), none, .op (.bin .eql (.tmp 62) (.tmp 66))⟩, []⟩])
 (.cond (.tmp 67) (.seq (.region [⟨(some 2), none, .op (.move (.const (.int .i64 18)))⟩])
 .ret) .skip)))
 (.region [⟨(some 57), none, .op (.move (.tmp 7))⟩,
 ⟨(some 58), none, .op (.bin .add (.tmp 57) (.const (.int .i64 1)))⟩,
 ⟨(some 7), none, .op (.move (.tmp 58))⟩])))
def A15l3 : ACode :=
 (.seq (.seq (.region [⟨(some 48), none, .op (.move (.tmp 6))⟩,
 ⟨(some 49), none, .op (.move (.tmp 3))⟩,
 ⟨(some 50), none, .op (.len (.tmp 49))⟩,
 ⟨(some 51), none, .op (.bin .lss (.tmp 48) (.tmp 50))⟩])
 (.cond (.tmp 51) .skip (.exit 4)))
 (.seq (.block 5 (.seq (.region [⟨(some 7), none, .op (.move (.const (.int .i64 0)))⟩])
 (.block 6 (.loop A15l2))))
 (.region [⟨(some 52), none, .op (.move (.tmp 6))⟩,
 ⟨(some 53), none, .op (.bin .add (.tmp 52) (.const (.int .i64 1)))⟩,
 ⟨(some 6), none, .op (.move (.tmp 53))⟩])))
def A15l4 : ACode :=
 (.seq (.seq (.region [⟨(some 68), none, .op (.move (.tmp 8))⟩,
 ⟨(some 69), none, .op (.fieldA 1 (.tmp 1))⟩,
 ⟨(some 70), none, .op (.load 1 false (.tmp 69))⟩,
 ⟨(some 71), none, .op (.len (.tmp 70))⟩,
 ⟨(some 72), none, .op (.bin .lss (.tmp 68) (.tmp 71))⟩])
 (.cond (.tmp 72) .skip (.exit 8)))
 (.seq (.block 9 (.seq (.region [⟨(some 76), none, .op (.load 2 true (.tmp 1))⟩,
 ⟨(some 77), none, .op (.move (.tmp 8))⟩,
 ⟨(some 78), none, .call (.func 16) [(.tmp 76), (.tmp 77)]⟩,
 ⟨(some 75), none, .op (.move (.tmp 78))⟩,
 ⟨(some 79), none, .op (.ext (.tmp 75) 0)⟩,
 ⟨(some 80), none, .op (.ext (.tmp 75) 1)⟩,
 ⟨(some 9), none, .op (.move (.tmp 79))⟩,
 ⟨(some 10), none, .op (.move (.tmp 80))⟩])
 (.seq (.region [⟨(some 81), none, .op (.move (.tmp 10))⟩,
 ⟨(some 82), none, .op (.bin .neq (.tmp 81) (.const (.int .i64 0)))⟩])
 (.cond (.tmp 82) (.seq (.region [⟨(some 83), none, .op (.move (.tmp 10))⟩,
 ⟨(some 2), none, .op (.move (.tmp 83))⟩])
 .ret) .skip))))
 (.region [⟨(some 73), none, .op (.move (.tmp 8))⟩,
 ⟨(some 74), none, .op (.bin .add (.tmp 73) (.const (.int .i64 1)))⟩,
 ⟨(some 8), none, .op (.move (.tmp 74))⟩])))
def A15 : ACode :=
 (.seq (.region [⟨(some 1), none, .op (.box (.tmp 0))⟩,
 ⟨(some 2), none, .op (.move (.const (.int .i64 0)))⟩])
 (.seq (.seq (.region [⟨(some 11), none, .op (.load 2 true (.tmp 1))⟩,
 ⟨(some 12), none, .call (.func 30) [(.tmp 11)]⟩])
 (.cond (.tmp 12) (.seq (.region [⟨(some 2), none, .op (.move (.const (.int .i64 4)))⟩])
 .ret) .skip))
 (.seq (.seq (.region [⟨(some 13), none, .op (.load 2 true (.tmp 1))⟩,
 ⟨(some 14), none, .call (.func 31) [(.tmp 13)]⟩,
 ⟨(some 15), none, .op (.un .not (.tmp 14))⟩])
 (.cond (.tmp 15) (.seq (.region [⟨(some 2), none, .op (.move (.const (.int .i64 8)))⟩])
 .ret) .skip))
 (.seq (.region [⟨(some 3), none, .op (.move (.const (.slice none 0 0)))⟩])
 (.seq (.seq (.region [⟨(some 4), none, .op (.move (.const (.int .i64 0)))⟩])
 (.block 0 (.loop A15l0)))
 (.seq (.seq (.region [⟨(some 5), none, .op (.move (.const (.int .i64 0)))⟩])
 (.block 2 (.loop A15l1)))
 (.seq (.seq (.region [⟨(some 6), none, .op (.move (.const (.int .i64 0)))⟩])
 (.block 4 (.loop A15l3)))
 (.seq (.seq (.region [⟨(some 8), none, .op (.move (.const (.int .i64 0)))⟩])
 (.block 8 (.loop A15l4)))
 (.seq (.region [⟨(some 2), none, .op (.move (.const (.int .i64 0)))⟩])
 .ret)))))))))
def R15 : List RV := [.tmp 2]
theorem is15 : Is Tryd.prog (fun _ _ => false) 15 84 A15 R15 := ⟨Tryd.f15, Tryd.func15, rfl, by kernel_rfl, by kernel_rfl, Tryd.call15⟩
def A16l0 : ACode :=
 (.seq (.seq (.region [⟨(some 12), none, .op (.move (.tmp 7))⟩,
 ⟨(some 13), none, .op (.fieldA 1 (.tmp 2))⟩,
 ⟨(some 14), none, .op (.load 1 false (.tmp 13))⟩,
 ⟨(some 15), none, .op (.move (.tmp 1))⟩,
 ⟨(some 16), none, .op (.idxA 4 (.tmp 14) (.tmp 15))⟩,
 ⟨(some 17), none, .op (.fieldA 1 (.tmp 16))⟩,
 ⟨(some 18), none, .op (.load 1 false (.tmp 17))⟩,
 ⟨(some 19), none, .op (.len (.tmp 18))⟩,
 ⟨(some 20), none, .op (.bin .lss (.tmp 12) (.tmp 19))⟩])
 (.cond (.tmp 20) .skip (.exit 0)))
 (.seq (.block 1 (.region [⟨(some 23), none, .op (.move (.tmp 6))⟩,
 ⟨(some 24), none, .op (.fieldA 1 (.tmp 2))⟩,
 ⟨(some 25), none, .op (.load 1 false (.tmp 24))⟩,
 ⟨(some 26), none, .op (.move (.tmp 1))⟩,
 ⟨(some 27), none, .op (.idxA 4 (.tmp 25) (.tmp 26))⟩,
 ⟨(some 28), none, .op (.fieldA 1 (.tmp 27))⟩,
 ⟨(some 29), none, .op (.load 1 false (.tmp 28))⟩,
 ⟨(some 30), none, .op (.move (.tmp 7))⟩,
 ⟨(some 31), none, .op (.idxA 2 (.tmp 29) (.tmp 30))⟩,
 ⟨(some 32), none, .op (.load 2 true (.tmp 31))⟩,
 ⟨(some 33), none, .call (.func 32) [(.tmp 23), (.tmp 32)]⟩]))
 (.region [⟨(some 21), none, .op (.move (.tmp 7))⟩,
 ⟨(some 22), none, .op (.bin .add (.tmp 21) (.const (.int .i64 1)))⟩,
 ⟨(some 7), none, .op (.move (.tmp 22))⟩])))
def A16 : ACode :=
 (.seq (.region [⟨(some 2), none, .op (.box (.tmp 0))⟩,
 ⟨(some 4), none, .op (.move (.const (.slice none 0 0)))⟩,
 ⟨(some 5), none, .op (.move (.const (.int .i64 0)))⟩])
 (.seq (.region [⟨(some 8), none, .op (.load 2 true (.tmp 2))⟩,
 ⟨(some 9), none, .op (.move (.tmp 1))⟩,
 ⟨(some 10), none, .op (.build [.nilS, .nilS, (.int .i64 0), .nilS, (.int .i64 0)] [(0, 2, (.tmp 8)), (2, 1, (.tmp 9))])⟩,
 ⟨(some 11), none, .op (.box (.tmp 10))⟩,
 ⟨(some 6), none, .op (.move (.tmp 11))⟩])
 (.seq (.seq (.region [⟨(some 7), none, .op (.move (.const (.int .i64 0)))⟩])
 (.block 0 (.loop A16l0)))
 (.seq (.region [⟨(some 34), none, .op (.move (.tmp 6))⟩,
 ⟨(some 35), none, .op (.fieldA 1 (.tmp 2))⟩,
 ⟨(some 36), none, .op (.load 1 false (.tmp 35))⟩,
 ⟨(some 37), none, .op (.move (.tmp 1))⟩,
 ⟨(some 38), none, .op (.idxA 4 (.tmp 36) (.tmp 37))⟩,
 ⟨(some 39), none, .op (.fieldA 3 (.tmp 38))⟩,
 ⟨(some 40), none, .op (.load 1 false (.tmp 39))⟩,
 ⟨(some 41), none, .call (.func 33) [(.tmp 34), (.tmp 40), (.const (.bool false))]⟩])
 (.seq (.dregion [⟨0, ⟨(some 42), none, .op (.move (.tmp 6))⟩, []⟩,
 ⟨1, ⟨(some 43), none, .op (.nilck (.tmp 42))⟩, []⟩,
 ⟨2, ⟨(some 44), none, .op (.fieldA 3 (.tmp 43))⟩, []⟩,
 ⟨3, ⟨(some 45), none, .op (.load 1 false (.tmp 44))⟩, []⟩,
 ⟨4, ⟨(some 46), none, .op (.move (.tmp 6))⟩, []⟩,
 ⟨5, ⟨(some 47), none, .op (.nilck (.tmp 46))⟩, []⟩,
 ⟨6, ⟨(some 48), none, .op (.fieldA 4 (.tmp 47))⟩, []⟩,
 ⟨7, ⟨(some 49), none, .op (.load 1 false (.tmp 48))⟩, []⟩,
 ⟨8, ⟨(some 4), none, .op (.move (.tmp 45))⟩, []⟩,
 ⟨9, ⟨(some 5), none, .op (.move (.tmp 49))⟩, []⟩])
 .ret)))))
def R16 : List RV := [.tmp 4, .tmp 5]
theorem is16 : Is Tryd.prog (fun _ _ => false) 16 50 A16 R16 := ⟨Tryd.f16, Tryd.func16, rfl, by kernel_rfl, by kernel_rfl, Tryd.call16⟩
def A17 : ACode :=
 (.seq (.region [⟨(some 1), none, .op (.box (.tmp 0))⟩,
 ⟨(some 2), none, .op (.move (.const (.bool false)))⟩])
 (.seq (.region [⟨(some 6), none, .op (.load 6 true (.tmp 1))⟩,
 ⟨(some 7), none, .call (.func 34) [(.tmp 6)]⟩,
 ⟨(some 5), none, .op (.move (.tmp 7))⟩,
 ⟨(some 8), none, .op (.ext (.tmp 5) 0)⟩,
 ⟨(some 9), none, .op (.ext (.tmp 5) 1)⟩,
 ⟨(some 3), none, .op (.move (.tmp 8))⟩,
 ⟨(some 4), none, .op (.move (.tmp 9))⟩])
 (.seq (.region [⟨(some 10), none, .op (.move (.tmp 3))⟩,
 ⟨(some 11), none, .op (.bin .gtr (.tmp 10) (.const (.int .i64 50)))⟩,
 ⟨(some 12), none, .op (.move (.tmp 11))⟩,
 ⟨(some 13), (some (12, false)), .op (.move (.tmp 4))⟩,
 ⟨(some 14), (some (12, false)), .op (.bin .gtr (.tmp 13) (.const (.int .i64 14)))⟩,
 ⟨(some 15), none, .op (.pick (.tmp 12) (.const (.bool true)) (.tmp 14))⟩,
 ⟨(some 2), none, .op (.move (.tmp 15))⟩])
 .ret)))
def R17 : List RV := [.tmp 2]
theorem is17 : Is Tryd.prog (fun _ _ => false) 17 16 A17 R17 := ⟨Tryd.f17, Tryd.func17, rfl, by kernel_rfl, by kernel_rfl, Tryd.call17⟩
def A18 : ACode :=
 (.seq (.region [⟨(some 1), none, .op (.box (.tmp 0))⟩,
 ⟨(some 2), none, .op (.move (.const (.bool false)))⟩])
 (.seq (.region [⟨(some 7), none, .op (.fieldA 0 (.tmp 1))⟩,
 ⟨(some 8), none, .op (.load 1 false (.tmp 7))⟩,
 ⟨(some 9), none, .op (.fieldA 5 (.tmp 1))⟩,
 ⟨(some 10), none, .op (.load 1 false (.tmp 9))⟩,
 ⟨(some 11), none, .op (.build [(.int .u8 0), (.int .i64 0), (.int .u64 0), (.str []), (.int .u8 0), .nilS] [(0, 1, (.tmp 8)), (5, 1, (.tmp 10))])⟩,
 ⟨(some 3), none, .op (.alloc [(.int .u8 0), (.int .i64 0), (.int .u64 0), (.str []), (.int .u8 0), .nilS])⟩,
 ⟨none, none, .op (.store 6 (.tmp 3) (.tmp 11))⟩])
 (.seq (.region [⟨(some 4), none, .op (.move (.const (.int .i64 0)))⟩])
 (.seq (.region [⟨(some 5), none, .op (.move (.const (.bool true)))⟩])
 (.seq (.seq (.region [⟨(some 12), none, .op (.fieldA 0 (.tmp 1))⟩,
 ⟨(some 13), none, .op (.load 1 false (.tmp 12))⟩])
 (.block 0 (.seq (.region [⟨(some 15), none, .op (.bin .eql (.tmp 13) (.const (.int .u8 1)))⟩,
 ⟨(some 14), none, .op (.move (.tmp 15))⟩])
 (.cond (.tmp 14) (.seq (.dregion [⟨0, ⟨(some 16), none, .op (.fieldA 1 (.tmp 1))⟩, []⟩,
 ⟨1, ⟨(some 17), none, .op (.load 1 false (.tmp 16))⟩, []⟩,
 ⟨2, ⟨(some 18), none, .op (.fieldA 2 (.tmp 1))⟩, []⟩,
 ⟨3, ⟨(some 19), none, .op (.load 1 false (.tmp 18))⟩, []⟩,
 ⟨4, ⟨(some 20), none, .op (.fieldA 1 (.tmp 3))⟩, []⟩,
 ⟨5, ⟨none, none, .op (.store 1 (.tmp 20) (.tmp 17))⟩, [2, 3]⟩,
 ⟨6, ⟨(some 21), none, .op (.fieldA 2 (.tmp 3))⟩, []⟩,
 ⟨7, ⟨none, none, .op (.store 1 (.tmp 21) (.tmp 19))⟩, []⟩])
 (.region [⟨(some 22), none, .op (.fieldA 1 (.tmp 1))⟩,
 ⟨(some 23), none, .op (.load 1 false (.tmp 22))⟩,
 ⟨(some 24), none, .call (.func 35) [(.tmp 23)]⟩,
 ⟨(some 25), none, .op (.move (.tmp 24))⟩,
 ⟨(some 26), (some (25, true)), .op (.fieldA 1 (.tmp 1))⟩,
 ⟨(some 27), (some (25, true)), .op (.load 1 false (.tmp 26))⟩,
 ⟨(some 28), (some (25, true)), .op (.fieldA 2 (.tmp 1))⟩,
 ⟨(some 29), (some (25, true)), .op (.load 1 false (.tmp 28))⟩,
 ⟨(some 30), (some (25, true)), .call (.func 36) [(.tmp 27), (.tmp 29)]⟩,
 ⟨(some 31), none, .op (.pick (.tmp 25) (.tmp 30) (.const (.bool false)))⟩,
 ⟨(some 5), none, .op (.move (.tmp 31))⟩])) (.seq (.seq (.region [⟨(some 33), none, .op (.bin .eql (.tmp 13) (.const (.int .u8 2)))⟩,
 ⟨(some 32), none, .op (.move (.tmp 33))⟩])
 (.cond (.tmp 32) .skip (.region [⟨(some 34), none, .op (.bin .eql (.tmp 13) (.const (.int .u8 3)))⟩,
 ⟨(some 32), none, .op (.move (.tmp 34))⟩])))
 (.cond (.tmp 32) (.seq (.region [⟨(some 35), none, .op (.fieldA 3 (.tmp 1))⟩,
 ⟨(some 36), none, .op (.load 1 false (.tmp 35))⟩,
 ⟨(some 37), none, .op (.fieldA 3 (.tmp 3))⟩,
 ⟨none, none, .op (.store 1 (.tmp 37) (.tmp 36))⟩])
 (.seq (.region [⟨(some 38), none, .op (.fieldA 3 (.tmp 1))⟩,
 ⟨(some 39), none, .op (.load 1 false (.tmp 38))⟩,
 ⟨(some 40), none, .call (.func 37) [(.tmp 39)]⟩,
 ⟨(some 5), none, .op (.move (.tmp 40))⟩])
 (.region [⟨(some 41), none, .op (.fieldA 0 (.tmp 1))⟩,
 ⟨(some 42), none, .op (.load 1 false (.tmp 41))⟩,
 ⟨(some 43), none, .op (.bin .sub (.tmp 42) (.const (.int .u8 2)))⟩,
 ⟨(some 44), none, .op (.conv .i64 (.tmp 43))⟩,
 ⟨(some 4), none, .op (.move (.tmp 44))⟩]))) (.seq (.seq (.region [⟨(some 46), none, .op (.bin .eql (.tmp 13) (.const (.int .u8 4)))⟩,
 ⟨(some 45), none, .op (.move (.tmp 46))⟩])
 (.cond (.tmp 45) .skip (.region [⟨(some 47), none, .op (.bin .eql (.tmp 13) (.const (.int .u8 5)))⟩,
 ⟨(some 45), none, .op (.move (.tmp 47))⟩])))
 (.cond (.tmp 45) (.region [⟨(some 4), none, .op (.move (.const (.int .i64 1)))⟩]) (.seq (.region [⟨(some 49), none, .op (.bin .eql (.tmp 13) (.const (.int .u8 6)))⟩,
 ⟨(some 48), none, .op (.move (.tmp 49))⟩])
 (.cond (.tmp 48) (.seq (.region [⟨(some 50), none, .op (.fieldA 4 (.tmp 1))⟩,
 ⟨(some 51), none, .op (.load 1 false (.tmp 50))⟩,
 ⟨(some 52), none, .op (.fieldA 4 (.tmp 3))⟩,
 ⟨none, none, .op (.store 1 (.tmp 52) (.tmp 51))⟩])
 (.seq (.region [⟨(some 53), none, .op (.fieldA 4 (.tmp 1))⟩,
 ⟨(some 54), none, .op (.load 1 false (.tmp 53))⟩,
 ⟨(some 55), none, .op (.bin .geq (.tmp 54) (.const (.int .u8 5)))⟩,
 ⟨(some 56), none, .op (.move (.tmp 55))⟩,
 ⟨(some 57), (some (56, true)), .op (.fieldA 4 (.tmp 1))⟩,
 ⟨(some 58), (some (56, true)), .op (.load 1 false (.tmp 57))⟩,
 ⟨(some 59), (some (56, true)), .op (.bin .leq (.tmp 58) (.const (.int .u8 18)))⟩,
 ⟨(some 60), none, .op (.pick (.tmp 56) (.tmp 59) (.const (.bool false)))⟩,
 ⟨(some 5), none, .op (.move (.tmp 60))⟩])
 (.region [⟨(some 4), none, .op (.move (.const (.int .i64 2)))⟩]))) (.seq (.seq (.region [⟨(some 62), none, .op (.bin .eql (.tmp 13) (.const (.int .u8 7)))⟩,
 ⟨(some 61), none, .op (.move (.tmp 62))⟩])
 (.cond (.tmp 61) .skip (.region [⟨(some 63), none, .op (.bin .eql (.tmp 13) (.const (.int .u8 8)))⟩,
 ⟨(some 61), none, .op (.move (.tmp 63))⟩])))
 (.cond (.tmp 61) (.seq (.region [⟨(some 64), none, .op (.fieldA 1 (.tmp 1))⟩,
 ⟨(some 65), none, .op (.load 1 false (.tmp 64))⟩,
 ⟨(some 66), none, .op (.fieldA 1 (.tmp 3))⟩,
 ⟨none, none, .op (.store 1 (.tmp 66) (.tmp 65))⟩])
 (.seq (.region [⟨(some 67), none, .op (.fieldA 1 (.tmp 1))⟩,
 ⟨(some 68), none, .op (.load 1 false (.tmp 67))⟩,
 ⟨(some 69), none, .call (.func 35) [(.tmp 68)]⟩,
 ⟨(some 5), none, .op (.move (.tmp 69))⟩])
 (.region [⟨(some 4), none, .op (.move (.const (.int .i64 1)))⟩]))) (.region [⟨(some 5), none, .op (.move (.const (.bool false)))⟩])))))))))))))
 (.seq (.region [⟨(some 70), none, .op (.fieldA 1 (.tmp 1))⟩,
 ⟨(some 71), none, .op (.load 1 false (.tmp 70))⟩,
 ⟨(some 72), none, .op (.fieldA 1 (.tmp 3))⟩,
 ⟨(some 73), none, .op (.load 1 false (.tmp 72))⟩,
 ⟨(some 74), none, .op (.bin .eql (.tmp 71) (.tmp 73))⟩,
 ⟨(some 75), none, .op (.move (.tmp 74))⟩,
 ⟨(some 76), (some (75, true)), .op (.fieldA 2 (.tmp 1))⟩,
 ⟨(some 77), (some (75, true)), .op (.load 1 false (.tmp 76))⟩,
 ⟨(some 78), (some (75, true)), .op (.fieldA 2 (.tmp 3))⟩,
 ⟨(some 79), (some (75, true)), .op (.load 1 false (.tmp 78))⟩,
 ⟨(some 80), (some (75, true)), .op (.bin .eql (.tmp 77) (.tmp 79))⟩,
 ⟨(some 81), none, .op (.pick (.tmp 75) (.tmp 80) (.const (.bool false)))⟩,
 ⟨(some 82), none, .op (.move (.tmp 81))⟩,
 ⟨(some 83), (some (82, true)), .op (.fieldA 3 (.tmp 1))⟩,
 ⟨(some 84), (some (82, true)), .op (.load 1 false (.tmp 83))⟩,
 ⟨(some 85), (some (82, true)), .op (.fieldA 3 (.tmp 3))⟩,
 ⟨(some 86), (some (82, true)), .op (.load 1 false (.tmp 85))⟩,
 ⟨(some 87), (some (82, true)), .op (.bin .eql (.tmp 84) (.tmp 86))⟩,
 ⟨(some 88), none, .op (.pick (.tmp 82) (.tmp 87) (.const (.bool false)))⟩,
 ⟨(some 89), none, .op (.move (.tmp 88))⟩,
 ⟨(some 90), (some (89, true)), .op (.fieldA 4 (.tmp 1))⟩,
 ⟨(some 91), (some (89, true)), .op (.load 1 false (.tmp 90))⟩,
 ⟨(some 92), (some (89, true)), .op (.fieldA 4 (.tmp 3))⟩,
 ⟨(some 93), (some (89, true)), .op (.load 1 false (.tmp 92))⟩,
 ⟨(some 94), (some (89, true)), .op (.bin .eql (.tmp 91) (.tmp 93))⟩,
 ⟨(some 95), none, .op (.pick (.tmp 89) (.tmp 94) (.const (.bool false)))⟩,
 ⟨(some 6), none, .op (.move (.tmp 95))⟩])
 (.seq (.region [⟨(some 96), none, .op (.move (.tmp 5))⟩,
 ⟨(some 97), none, .op (.move (.tmp 96))⟩,
 ⟨(some 98), (some (97, true)), .op (.move (.tmp 6))⟩,
 ⟨(some 99), none, .op (.pick (.tmp 97) (.tmp 98) (.const (.bool false)))⟩,
 ⟨(some 100), none, .op (.move (.tmp 99))⟩,
 ⟨(some 101), (some (100, true)), .op (.fieldA 5 (.tmp 1))⟩,
 ⟨(some 102), (some (100, true)), .op (.load 1 false (.tmp 101))⟩,
 ⟨(some 103), (some (100, true)), .op (.len (.tmp 102))⟩,
 ⟨(some 104), (some (100, true)), .op (.move (.tmp 4))⟩,
 ⟨(some 105), (some (100, true)), .op (.bin .eql (.tmp 103) (.tmp 104))⟩,
 ⟨(some 106), none, .op (.pick (.tmp 100) (.tmp 105) (.const (.bool false)))⟩,
 ⟨(some 107), none, .op (.move (.tmp 106))⟩,
 ⟨(some 108), (some (107, true)), .op (.fieldA 5 (.tmp 1))⟩,
 ⟨(some 109), (some (107, true)), .op (.load 1 false (.tmp 108))⟩,
 ⟨(some 110), (some (107, true)), .call (.func 38) [(.tmp 109), (.func 18)]⟩,
 ⟨(some 111), none, .op (.pick (.tmp 107) (.tmp 110) (.const (.bool false)))⟩,
 ⟨(some 2), none, .op (.move (.tmp 111))⟩])
 .ret)))))))
def R18 : List RV := [.tmp 2]
theorem is18 : Is Tryd.prog (fun _ _ => false) 18 112 A18 R18 := ⟨Tryd.f18, Tryd.func18, rfl, by kernel_rfl, by kernel_rfl, Tryd.call18⟩
def A19l0 : ACode :=
 (.seq (.region [⟨(some 17), none, .op (.bin .lss (.tmp 16) (.tmp 15))⟩])
 (.seq (.cond (.tmp 17) .skip (.exit 0))
 (.seq (.block 1 (.seq (.region [⟨(some 18), none, .op (.idxA 6 (.tmp 14) (.tmp 16))⟩,
 ⟨(some 19), none, .op (.load 6 true (.tmp 18))⟩,
 ⟨(some 8), none, .op (.alloc [(.int .u8 0), (.int .i64 0), (.int .u64 0), (.str []), (.int .u8 0), .nilS])⟩,
 ⟨none, none, .op (.store 6 (.tmp 8) (.tmp 19))⟩])
 (.seq (.region [⟨(some 21), none, .op (.move (.tmp 0))⟩,
 ⟨(some 22), none, .op (.load 6 true (.tmp 8))⟩,
 ⟨(some 23), none, .call (.func 19) [(.tmp 21), (.tmp 22)]⟩,
 ⟨(some 20), none, .op (.move (.tmp 23))⟩,
 ⟨(some 24), none, .op (.ext (.tmp 20) 0)⟩,
 ⟨(some 25), none, .op (.ext (.tmp 20) 1)⟩,
 ⟨(some 9), none, .op (.move (.tmp 24))⟩,
 ⟨(some 10), none, .op (.move (.tmp 25))⟩])
 (.seq (.seq (.region [⟨(some 26), none, .op (.move (.tmp 10))⟩,
 ⟨(some 27), none, .op (.bin .neq (.tmp 26) (.const (.int .i64 0)))⟩])
 (.cond (.tmp 27) (.seq (.region [⟨(some 28), none, .op (.move (.tmp 10))⟩,
 ⟨(some 4), none, .op (.move (.const (.int .i64 0)))⟩,
 ⟨(some 5), none, .op (.move (.tmp 28))⟩])
 .ret) .skip))
 (.region [⟨(some 29), none, .op (.move (.tmp 6))⟩,
 ⟨(some 30), none, .op (.move (.tmp 9))⟩,
 ⟨(some 31), none, .op (.buildF [(.int .i64 0)] 1 [(0, (.tmp 30))])⟩,
 ⟨(some 32), none, .op (.app 3 1 8 (.tmp 29) (.tmp 31))⟩,
 ⟨(some 6), none, .op (.move (.tmp 32))⟩])))))
 (.region [⟨(some 33), none, .op (.bin .add (.tmp 16) (.const (.int .i64 1)))⟩,
 ⟨(some 16), none, .op (.move (.tmp 33))⟩]))))
def A19 : ACode :=
 (.seq (.region [⟨(some 3), none, .op (.box (.tmp 1))⟩,
 ⟨(some 4), none, .op (.move (.const (.int .i64 0)))⟩,
 ⟨(some 5), none, .op (.move (.const (.int .i64 0)))⟩])
 (.seq (.region [⟨(some 6), none, .op (.move (.const (.slice none 0 0)))⟩])
 (.seq (.seq (.region [⟨(some 13), none, .op (.fieldA 5 (.tmp 3))⟩,
 ⟨(some 14), none, .op (.load 1 false (.tmp 13))⟩,
 ⟨(some 15), none, .op (.len (.tmp 14))⟩,
 ⟨(some 16), none, .op (.move (.const (.int .i64 0)))⟩])
 (.block 0 (.loop A19l0)))
 (.seq (.seq (.region [⟨(some 34), none, .op (.fieldA 0 (.tmp 3))⟩,
 ⟨(some 35), none, .op (.load 1 false (.tmp 34))⟩])
 (.block 2 (.seq (.region [⟨(some 37), none, .op (.bin .eql (.tmp 35) (.const (.int .u8 2)))⟩,
 ⟨(some 36), none, .op (.move (.tmp 37))⟩])
 (.cond (.tmp 36) (.seq (.region [⟨(some 38), none, .op (.move (.tmp 0))⟩,
 ⟨(some 39), none, .op (.fieldA 3 (.tmp 3))⟩,
 ⟨(some 40), none, .op (.load 1 false (.tmp 39))⟩,
 ⟨(some 41), none, .call (.func 39) [(.tmp 38), (.tmp 40)]⟩,
 ⟨(some 11), none, .op (.move (.tmp 41))⟩])
 (.seq (.seq (.region [⟨(some 42), none, .op (.move (.tmp 11))⟩,
 ⟨(some 43), none, .op (.bin .eql (.tmp 42) (.const (.int .i64 0)))⟩])
 (.cond (.tmp 43) (.seq (.region [⟨(some 4), none, .op (.move (.const (.int .i64 0)))⟩,
 ⟨(some 5), none, .op (.move (.const (.int .i64 16)))⟩])
 .ret) .skip))
 (.seq (.region [⟨(some 44), none, .op (.move (.tmp 11))⟩,
 ⟨(some 4), none, .op (.move (.tmp 44))⟩,
 ⟨(some 5), none, .op (.move (.const (.int .i64 0)))⟩])
 .ret))) (.seq (.region [⟨(some 46), none, .op (.bin .eql (.tmp 35) (.const (.int .u8 3)))⟩,
 ⟨(some 45), none, .op (.move (.tmp 46))⟩])
 (.cond (.tmp 45) (.seq (.dregion [⟨0, ⟨(some 47), none, .op (.move (.tmp 0))⟩, []⟩,
 ⟨1, ⟨(some 48), none, .op (.nilck (.tmp 47))⟩, []⟩,
 ⟨2, ⟨(some 49), none, .op (.fieldA 0 (.tmp 48))⟩, []⟩,
 ⟨3, ⟨(some 50), none, .op (.load 2 true (.tmp 49))⟩, []⟩,
 ⟨4, ⟨(some 51), none, .op (.fieldA 3 (.tmp 3))⟩, []⟩,
 ⟨5, ⟨(some 52), none, .op (.load 1 false (.tmp 51))⟩, []⟩,
 ⟨6, ⟨(some 53), none, .call (.func 40) [(.tmp 50), (.tmp 52)]⟩, []⟩,
 ⟨7, ⟨(some 12), none, .op (.move (.tmp 53))⟩, []⟩])
 (.seq (.seq (.region [⟨(some 54), none, .op (.move (.tmp 12))⟩,
 ⟨(some 55), none, .op (.bin .lss (.tmp 54) (.const (.int .i64 0)))⟩])
 (.cond (.tmp 55) (.seq (.region [⟨(some 4), none, .op (.move (.const (.int .i64 0)))⟩,
 ⟨(some 5), none, .op (.move (.const (.int .i64 16)))⟩])
 .ret) .skip))
 (.seq (.seq (.dregion [⟨0, ⟨(some 56), none, .op (.move (.tmp 6))⟩, []⟩,
 ⟨1, ⟨(some 57), none, .op (.idxA 1 (.tmp 56) (.const (.int .i64 0)))⟩, []⟩,
 ⟨2, ⟨(some 58), none, .op (.load 1 false (.tmp 57))⟩, []⟩,
 ⟨3, ⟨(some 59), none, .call (.func 41) []⟩, [0, 1, 2]⟩,
 ⟨4, ⟨(some 60), none, .op (.m (.look .str (.int .i64 0) false (.tmp 59) (.const (.string ⟨#[119, 111, 114, 100]⟩))))⟩, [0, 1, 2]⟩,
 ⟨5, ⟨(some 61), none, .op (.bin .neq (.tmp 58) (.tmp 60))⟩, []⟩])
 (.cond (.tmp 61) (.seq (.region [⟨(some 4), none, .op (.move (.const (.int .i64 0)))⟩,
 ⟨(some 5), none, .op (.move (.const (.int .i64 14)))⟩])
 .ret) .skip))
 (.seq (.region [⟨(some 62), none, .op (.move (.tmp 0))⟩,
 ⟨(some 63), none, .op (.nilck (.tmp 62))⟩,
 ⟨(some 64), none, .op (.fieldA 0 (.tmp 63))⟩,
 ⟨(some 65), none, .op (.fieldA 0 (.tmp 64))⟩,
 ⟨(some 66), none, .op (.load 1 false (.tmp 65))⟩,
 ⟨(some 67), none, .op (.move (.tmp 12))⟩,
 ⟨(some 68), none, .op (.idxA 3 (.tmp 66) (.tmp 67))⟩,
 ⟨(some 69), none, .op (.fieldA 1 (.tmp 68))⟩,
 ⟨(some 70), none, .op (.load 1 false (.tmp 69))⟩,
 ⟨(some 4), none, .op (.move (.tmp 70))⟩,
 ⟨(some 5), none, .op (.move (.const (.int .i64 0)))⟩])
 .ret)))) (.seq (.seq (.region [⟨(some 72), none, .op (.bin .eql (.tmp 35) (.const (.int .u8 4)))⟩,
 ⟨(some 71), none, .op (.move (.tmp 72))⟩])
 (.cond (.tmp 71) .skip (.region [⟨(some 73), none, .op (.bin .eql (.tmp 35) (.const (.int .u8 5)))⟩,
 ⟨(some 71), none, .op (.move (.tmp 73))⟩])))
 (.cond (.tmp 71) (.seq (.region [⟨(some 74), none, .op (.move (.tmp 6))⟩,
 ⟨(some 75), none, .op (.idxA 1 (.tmp 74) (.const (.int .i64 0)))⟩,
 ⟨(some 76), none, .op (.load 1 false (.tmp 75))⟩,
 ⟨(some 4), none, .op (.move (.tmp 76))⟩,
 ⟨(some 5), none, .op (.move (.const (.int .i64 0)))⟩])
 .ret) (.seq (.region [⟨(some 78), none, .op (.bin .eql (.tmp 35) (.const (.int .u8 6)))⟩,
 ⟨(some 77), none, .op (.move (.tmp 78))⟩])
 (.cond (.tmp 77) (.seq (.seq (.dregion [⟨0, ⟨(some 79), none, .op (.move (.tmp 6))⟩, []⟩,
 ⟨1, ⟨(some 80), none, .op (.idxA 1 (.tmp 79) (.const (.int .i64 0)))⟩, []⟩,
 ⟨2, ⟨(some 81), none, .op (.load 1 false (.tmp 80))⟩, []⟩,
 ⟨3, ⟨(some 82), none, .op (.move (.tmp 6))⟩, []⟩,
 ⟨4, ⟨(some 83), none, .op (.idxA 1 (.tmp 82) (.const (.int .i64 1)))⟩, []⟩,
 ⟨5, ⟨(some 84), none, .op (.load 1 false (.tmp 83))⟩, []⟩,
 ⟨6, ⟨(some 85), none, .op (.bin .neq (.tmp 81) (.tmp 84))⟩, []⟩])
 (.cond (.tmp 85) (.seq (.region [⟨(some 4), none, .op (.move (.const (.int .i64 0)))⟩,
 ⟨(some 5), none, .op (.move (.const (.int .i64 14)))⟩])
 .ret) .skip))
 (.seq (.seq (.region [⟨(some 86), none, .op (.fieldA 4 (.tmp 3))⟩,
 ⟨(some 87), none, .op (.load 1 false (.tmp 86))⟩,
 ⟨(some 88), none, .op (.bin .geq (.tmp 87) (.const (.int .u8 16)))⟩])
 (.cond (.tmp 88) (.seq (.region [⟨(some 4), none, .op (.move (.const (.int .i64 1)))⟩,
 ⟨(some 5), none, .op (.move (.const (.int .i64 0)))⟩])
 .ret) .skip))
 (.seq (.region [⟨(some 89), none, .op (.move (.tmp 6))⟩,
 ⟨(some 90), none, .op (.idxA 1 (.tmp 89) (.const (.int .i64 0)))⟩,
 ⟨(some 91), none, .op (.load 1 false (.tmp 90))⟩,
 ⟨(some 4), none, .op (.move (.tmp 91))⟩,
 ⟨(some 5), none, .op (.move (.const (.int .i64 0)))⟩])
 .ret))) .skip))))))))))
 (.seq (.region [⟨(some 92), none, .op (.fieldA 1 (.tmp 3))⟩,
 ⟨(some 93), none, .op (.load 1 false (.tmp 92))⟩,
 ⟨(some 4), none, .op (.move (.tmp 93))⟩,
 ⟨(some 5), none, .op (.move (.const (.int .i64 0)))⟩])
 .ret)))))
def R19 : List RV := [.tmp 4, .tmp 5]
theorem is19 : Is Tryd.prog (fun _ _ => false) 19 94 A19 R19 := ⟨Tryd.f19, Tryd.func19, rfl, by kernel_rfl, by kernel_rfl, Tryd.call19⟩
def A20 : ACode :=
 (.seq (.region [⟨(some 1), none, .op (.box (.tmp 0))⟩,
 ⟨(some 2), none, .op (.move (.const (.bool false)))⟩])
 (.seq (.region [⟨(some 3), none, .op (.load 6 true (.tmp 1))⟩,
 ⟨(some 4), none, .call (.func 42) [(.tmp 3)]⟩,
 ⟨(some 5), none, .op (.bin .gtr (.tmp 4) (.const (.int .i64 50)))⟩,
 ⟨(some 6), none, .op (.move (.tmp 5))⟩,
 ⟨(some 7), (some (6, false)), .op (.load 6 true (.tmp 1))⟩,
 ⟨(some 8), (some (6, false)), .call (.func 43) [(.tmp 7)]⟩,
 ⟨(some 9), (some (6, false)), .op (.bin .gtr (.tmp 8) (.const (.int .i64 14)))⟩,
 ⟨(some 10), none, .op (.pick (.tmp 6) (.const (.bool true)) (.tmp 9))⟩,
 ⟨(some 2), none, .op (.move (.tmp 10))⟩])
 .ret))
def R20 : List RV := [.tmp 2]
theorem is20 : Is Tryd.prog (fun _ _ => false) 20 11 A20 R20 := ⟨Tryd.f20, Tryd.func20, rfl, by kernel_rfl, by kernel_rfl, Tryd.call20⟩
def A21l0 : ACode :=
 (.seq (.seq (.region [⟨(some 6), none, .op (.move (.tmp 3))⟩,
 ⟨(some 7), none, .op (.fieldA 5 (.tmp 1))⟩,
 ⟨(some 8), none, .op (.load 1 false (.tmp 7))⟩,
 ⟨(some 9), none, .op (.len (.tmp 8))⟩,
 ⟨(some 10), none, .op (.bin .lss (.tmp 6) (.tmp 9))⟩])
 (.cond (.tmp 10) .skip (.exit 0)))
 (.seq (.block 1 (.seq (.region [⟨(some 13), none, .op (.fieldA 5 (.tmp 1))⟩,
 ⟨(some 14), none, .op (.load 1 false (.tmp 13))⟩,
 ⟨(some 15), none, .op (.move (.tmp 3))⟩,
 ⟨(some 16), none, .op (.idxA 6 (.tmp 14) (.tmp 15))⟩,
 ⟨(some 17), none, .op (.load 6 true (.tmp 16))⟩,
 ⟨(some 18), none, .call (.func 21) [(.tmp 17)]⟩,
 ⟨(some 19), none, .op (.un .not (.tmp 18))⟩])
 (.cond (.tmp 19) (.seq (.region [⟨(some 2), none, .op (.move (.const (.bool false)))⟩])
 .ret) .skip)))
 (.region [⟨(some 11), none, .op (.move (.tmp 3))⟩,
 ⟨(some 12), none, .op (.bin .add (.tmp 11) (.const (.int .i64 1)))⟩,
 ⟨(some 3), none, .op (.move (.tmp 12))⟩])))
def A21 : ACode :=
 (.seq (.region [⟨(some 1), none, .op (.box (.tmp 0))⟩,
 ⟨(some 2), none, .op (.move (.const (.bool false)))⟩])
 (.seq (.seq (.region [⟨(some 3), none, .op (.move (.const (.int .i64 0)))⟩])
 (.block 0 (.loop A21l0)))
 (.seq (.region [⟨(some 20), none, .op (.fieldA 5 (.tmp 1))⟩,
 ⟨(some 21), none, .op (.load 1 false (.tmp 20))⟩,
 ⟨(some 22), none, .op (.len (.tmp 21))⟩,
 ⟨(some 4), none, .op (.move (.tmp 22))⟩])
 (.seq (.region [⟨(some 23), none, .op (.fieldA 1 (.tmp 1))⟩,
 ⟨(some 24), none, .op (.load 1 false (.tmp 23))⟩,
 ⟨(some 25), none, .op (.bin .eql (.tmp 24) (.const (.int .i64 0)))⟩,
 ⟨(some 26), none, .op (.move (.tmp 25))⟩,
 ⟨(some 27), (some (26, true)), .op (.fieldA 2 (.tmp 1))⟩,
 ⟨(some 28), (some (26, true)), .op (.load 1 false (.tmp 27))⟩,
 ⟨(some 29), (some (26, true)), .op (.bin .eql (.tmp 28) (.const (.int .u64 0)))⟩,
 ⟨(some 30), none, .op (.pick (.tmp 26) (.tmp 29) (.const (.bool false)))⟩,
 ⟨(some 31), none, .op (.move (.tmp 30))⟩,
 ⟨(some 32), (some (31, true)), .op (.fieldA 4 (.tmp 1))⟩,
 ⟨(some 33), (some (31, true)), .op (.load 1 false (.tmp 32))⟩,
 ⟨(some 34), (some (31, true)), .op (.bin .eql (.tmp 33) (.const (.int .u8 0)))⟩,
 ⟨(some 35), none, .op (.pick (.tmp 31) (.tmp 34) (.const (.bool false)))⟩,
 ⟨(some 5), none, .op (.move (.tmp 35))⟩])
 (.seq (.seq (.region [⟨(some 36), none, .op (.fieldA 0 (.tmp 1))⟩,
 ⟨(some 37), none, .op (.load 1 false (.tmp 36))⟩])
 (.block 2 (.seq (.region [⟨(some 39), none, .op (.bin .eql (.tmp 37) (.const (.int .u8 1)))⟩,
 ⟨(some 38), none, .op (.move (.tmp 39))⟩])
 (.cond (.tmp 38) (.seq (.region [⟨(some 40), none, .op (.fieldA 1 (.tmp 1))⟩,
 ⟨(some 41), none, .op (.load 1 false (.tmp 40))⟩,
 ⟨(some 42), none, .call (.func 44) [(.tmp 41)]⟩,
 ⟨(some 43), none, .op (.move (.tmp 42))⟩,
 ⟨(some 44), (some (43, true)), .op (.fieldA 2 (.tmp 1))⟩,
 ⟨(some 45), (some (43, true)), .op (.load 1 false (.tmp 44))⟩,
 ⟨(some 46), (some (43, true)), .op (.fieldA 1 (.tmp 1))⟩,
 ⟨(some 47), (some (43, true)), .op (.load 1 false (.tmp 46))⟩,
 ⟨(some 48), (some (43, true)), .op (.conv .u64 (.tmp 47))⟩,
 ⟨(some 49), (some (43, true)), .op (.bin .shl (.const (.int .u64 1)) (.tmp 48))⟩,
 ⟨(some 50), (some (43, true)), .op (.bin .lss (.tmp 45) (.tmp 49))⟩,
 ⟨(some 51), none, .op (.pick (.tmp 43) (.tmp 50) (.const (.bool false)))⟩,
 ⟨(some 52), none, .op (.move (.tmp 51))⟩,
 ⟨(some 53), (some (52, true)), .op (.fieldA 3 (.tmp 1))⟩,
 ⟨(some 54), (some (52, true)), .op (.load 1 false (.tmp 53))⟩,
 ⟨(some 55), (some (52, true)), .op (.bin .eql (.tmp 54) (.const (.string ⟨#[]⟩)))⟩,
 ⟨(some 56), none, .op (.pick (.tmp 52) (.tmp 55) (.const (.bool false)))⟩,
 ⟨(some 57), none, .op (.move (.tmp 56))⟩,
 ⟨(some 58), (some (57, true)), .op (.fieldA 4 (.tmp 1))⟩,
 ⟨(some 59), (some (57, true)), .op (.load 1 false (.tmp 58))⟩,
 ⟨(some 60), (some (57, true)), .op (.bin .eql (.tmp 59) (.const (.int .u8 0)))⟩,
 ⟨(some 61), none, .op (.pick (.tmp 57) (.tmp 60) (.const (.bool false)))⟩,
 ⟨(some 62), none, .op (.move (.tmp 61))⟩,
 ⟨(some 63), (some (62, true)), .op (.move (.tmp 4))⟩,
 ⟨(some 64), (some (62, true)), .op (.bin .eql (.tmp 63) (.const (.int .i64 0)))⟩,
 ⟨(some 65), none, .op (.pick (.tmp 62) (.tmp 64) (.const (.bool false)))⟩,
 ⟨(some 2), none, .op (.move (.tmp 65))⟩])
 .ret) (.seq (.region [⟨(some 67), none, .op (.bin .eql (.tmp 37) (.const (.int .u8 2)))⟩,
 ⟨(some 66), none, .op (.move (.tmp 67))⟩])
 (.cond (.tmp 66) (.seq (.region [⟨(some 68), none, .op (.move (.tmp 5))⟩,
 ⟨(some 69), none, .op (.move (.tmp 68))⟩,
 ⟨(some 70), (some (69, true)), .op (.fieldA 3 (.tmp 1))⟩,
 ⟨(some 71), (some (69, true)), .op (.load 1 false (.tmp 70))⟩,
 ⟨(some 72), (some (69, true)), .call (.func 45) [(.tmp 71)]⟩,
 ⟨(some 73), none, .op (.pick (.tmp 69) (.tmp 72) (.const (.bool false)))⟩,
 ⟨(some 74), none, .op (.move (.tmp 73))⟩,
 ⟨(some 75), (some (74, true)), .op (.move (.tmp 4))⟩,
 ⟨(some 76), (some (74, true)), .op (.bin .eql (.tmp 75) (.const (.int .i64 0)))⟩,
 ⟨(some 77), none, .op (.pick (.tmp 74) (.tmp 76) (.const (.bool false)))⟩,
 ⟨(some 2), none, .op (.move (.tmp 77))⟩])
 .ret) (.seq (.region [⟨(some 79), none, .op (.bin .eql (.tmp 37) (.const (.int .u8 3)))⟩,
 ⟨(some 78), none, .op (.move (.tmp 79))⟩])
 (.cond (.tmp 78) (.seq (.region [⟨(some 80), none, .op (.move (.tmp 5))⟩,
 ⟨(some 81), none, .op (.move (.tmp 80))⟩,
 ⟨(some 82), (some (81, true)), .op (.fieldA 3 (.tmp 1))⟩,
 ⟨(some 83), (some (81, true)), .op (.load 1 false (.tmp 82))⟩,
 ⟨(some 84), (some (81, true)), .call (.func 45) [(.tmp 83)]⟩,
 ⟨(some 85), none, .op (.pick (.tmp 81) (.tmp 84) (.const (.bool false)))⟩,
 ⟨(some 86), none, .op (.move (.tmp 85))⟩,
 ⟨(some 87), (some (86, true)), .op (.move (.tmp 4))⟩,
 ⟨(some 88), (some (86, true)), .op (.bin .eql (.tmp 87) (.const (.int .i64 1)))⟩,
 ⟨(some 89), none, .op (.pick (.tmp 86) (.tmp 88) (.const (.bool false)))⟩,
 ⟨(some 2), none, .op (.move (.tmp 89))⟩])
 .ret) (.seq (.seq (.region [⟨(some 91), none, .op (.bin .eql (.tmp 37) (.const (.int .u8 4)))⟩,
 ⟨(some 90), none, .op (.move (.tmp 91))⟩])
 (.cond (.tmp 90) .skip (.region [⟨(some 92), none, .op (.bin .eql (.tmp 37) (.const (.int .u8 5)))⟩,
 ⟨(some 90), none, .op (.move (.tmp 92))⟩])))
 (.cond (.tmp 90) (.seq (.region [⟨(some 93), none, .op (.move (.tmp 5))⟩,
 ⟨(some 94), none, .op (.move (.tmp 93))⟩,
 ⟨(some 95), (some (94, true)), .op (.fieldA 3 (.tmp 1))⟩,
 ⟨(some 96), (some (94, true)), .op (.load 1 false (.tmp 95))⟩,
 ⟨(some 97), (some (94, true)), .op (.bin .eql (.tmp 96) (.const (.string ⟨#[]⟩)))⟩,
 ⟨(some 98), none, .op (.pick (.tmp 94) (.tmp 97) (.const (.bool false)))⟩,
 ⟨(some 99), none, .op (.move (.tmp 98))⟩,
 ⟨(some 100), (some (99, true)), .op (.move (.tmp 4))⟩,
 ⟨(some 101), (some (99, true)), .op (.bin .eql (.tmp 100) (.const (.int .i64 1)))⟩,
 ⟨(some 102), none, .op (.pick (.tmp 99) (.tmp 101) (.const (.bool false)))⟩,
 ⟨(some 2), none, .op (.move (.tmp 102))⟩])
 .ret) (.seq (.region [⟨(some 104), none, .op (.bin .eql (.tmp 37) (.const (.int .u8 6)))⟩,
 ⟨(some 103), none, .op (.move (.tmp 104))⟩])
 (.cond (.tmp 103) (.seq (.region [⟨(some 105), none, .op (.fieldA 1 (.tmp 1))⟩,
 ⟨(some 106), none, .op (.load 1 false (.tmp 105))⟩,
 ⟨(some 107), none, .op (.bin .eql (.tmp 106) (.const (.int .i64 0)))⟩,
 ⟨(some 108), none, .op (.move (.tmp 107))⟩,
 ⟨(some 109), (some (108, true)), .op (.fieldA 2 (.tmp 1))⟩,
 ⟨(some 110), (some (108, true)), .op (.load 1 false (.tmp 109))⟩,
 ⟨(some 111), (some (108, true)), .op (.bin .eql (.tmp 110) (.const (.int .u64 0)))⟩,
 ⟨(some 112), none, .op (.pick (.tmp 108) (.tmp 111) (.const (.bool false)))⟩,
 ⟨(some 113), none, .op (.move (.tmp 112))⟩,
 ⟨(some 114), (some (113, true)), .op (.fieldA 3 (.tmp 1))⟩,
 ⟨(some 115), (some (113, true)), .op (.load 1 false (.tmp 114))⟩,
 ⟨(some 116), (some (113, true)), .op (.bin .eql (.tmp 115) (.const (.string ⟨#[]⟩)))⟩,
 ⟨(some 117), none, .op (.pick (.tmp 113) (.tmp 116) (.const (.bool false)))⟩,
 ⟨(some 118), none, .op (.move (.tmp 117))⟩,
 ⟨(some 119), (some (118, true)), .op (.fieldA 4 (.tmp 1))⟩,
 ⟨(some 120), (some (118, true)), .op (.load 1 false (.tmp 119))⟩,
 ⟨(some 121), (some (118, true)), .call (.func 46) [(.tmp 120)]⟩,
 ⟨(some 122), (some (118, true)), .op (.bin .neq (.tmp 121) (.const (.string ⟨#[]⟩)))⟩,
 ⟨(some 123), none, .op (.pick (.tmp 118) (.tmp 122) (.const (.bool false)))⟩,
 ⟨(some 124), none, .op (.move (.tmp 123))⟩,
 ⟨(some 125), (some (124, true)), .op (.move (.tmp 4))⟩,
 ⟨(some 126), (some (124, true)), .op (.bin .eql (.tmp 125) (.const (.int .i64 2)))⟩,
 ⟨(some 127), none, .op (.pick (.tmp 124) (.tmp 126) (.const (.bool false)))⟩,
 ⟨(some 2), none, .op (.move (.tmp 127))⟩])
 .ret) (.seq (.seq (.region [⟨(some 129), none, .op (.bin .eql (.tmp 37) (.const (.int .u8 7)))⟩,
 ⟨(some 128), none, .op (.move (.tmp 129))⟩])
 (.cond (.tmp 128) .skip (.region [⟨(some 130), none, .op (.bin .eql (.tmp 37) (.const (.int .u8 8)))⟩,
 ⟨(some 128), none, .op (.move (.tmp 130))⟩])))
 (.cond (.tmp 128) (.seq (.region [⟨(some 131), none, .op (.fieldA 1 (.tmp 1))⟩,
 ⟨(some 132), none, .op (.load 1 false (.tmp 131))⟩,
 ⟨(some 133), none, .call (.func 44) [(.tmp 132)]⟩,
 ⟨(some 134), none, .op (.move (.tmp 133))⟩,
 ⟨(some 135), (some (134, true)), .op (.fieldA 2 (.tmp 1))⟩,
 ⟨(some 136), (some (134, true)), .op (.load 1 false (.tmp 135))⟩,
 ⟨(some 137), (some (134, true)), .op (.bin .eql (.tmp 136) (.const (.int .u64 0)))⟩,
 ⟨(some 138), none, .op (.pick (.tmp 134) (.tmp 137) (.const (.bool false)))⟩,
 ⟨(some 139), none, .op (.move (.tmp 138))⟩,
 ⟨(some 140), (some (139, true)), .op (.fieldA 4 (.tmp 1))⟩,
 ⟨(some 141), (some (139, true)), .op (.load 1 false (.tmp 140))⟩,
 ⟨(some 142), (some (139, true)), .op (.bin .eql (.tmp 141) (.const (.int .u8 0)))⟩,
 ⟨(some 143), none, .op (.pick (.tmp 139) (.tmp 142) (.const (.bool false)))⟩,
 ⟨(some 144), none, .op (.move (.tmp 143))⟩,
 ⟨(some 145), (some (144, true)), .op (.fieldA 3 (.tmp 1))⟩,
 ⟨(some 146), (some (144, true)), .op (.load 1 false (.tmp 145))⟩,
 ⟨(some 147), (some (144, true)), .op (.bin .eql (.tmp 146) (.const (.string ⟨#[]⟩)))⟩,
 ⟨(some 148), none, .op (.pick (.tmp 144) (.tmp 147) (.const (.bool false)))⟩,
 ⟨(some 149), none, .op (.move (.tmp 148))⟩,
 ⟨(some 150), (some (149, true)), .op (.move (.tmp 4))⟩,
 ⟨(some 151), (some (149, true)), .op (.bin .eql (.tmp 150) (.const (.int .i64 1)))⟩,
 ⟨(some 152), none, .op (.pick (.tmp 149) (.tmp 151) (.const (.bool false)))⟩,
 ⟨(some 2), none, .op (.move (.tmp 152))⟩])
 .ret) .skip))))))))))))))
 (.seq (.region [⟨(some 2), none, .op (.move (.const (.bool false)))⟩])
 .ret))))))
def R21 : List RV := [.tmp 2]
theorem is21 : Is Tryd.prog (fun _ _ => false) 21 153 A21 R21 := ⟨Tryd.f21, Tryd.func21, rfl, by kernel_rfl, by kernel_rfl, Tryd.call21⟩
def A22l0 : ACode :=
 (.seq (.seq (.region [⟨(some 8), none, .op (.move (.tmp 6))⟩,
 ⟨(some 9), none, .op (.fieldA 5 (.tmp 3))⟩,
 ⟨(some 10), none, .op (.load 1 false (.tmp 9))⟩,
 ⟨(some 11), none, .op (.len (.tmp 10))⟩,
 ⟨(some 12), none, .op (.bin .lss (.tmp 8) (.tmp 11))⟩])
 (.cond (.tmp 12) .skip (.exit 0)))
 (.seq (.block 1 (.region [⟨(some 15), none, .op (.move (.tmp 5))⟩,
 ⟨(some 16), none, .op (.move (.tmp 0))⟩,
 ⟨(some 17), none, .op (.fieldA 5 (.tmp 3))⟩,
 ⟨(some 18), none, .op (.load 1 false (.tmp 17))⟩,
 ⟨(some 19), none, .op (.move (.tmp 6))⟩,
 ⟨(some 20), none, .op (.idxA 6 (.tmp 18) (.tmp 19))⟩,
 ⟨(some 21), none, .op (.load 6 true (.tmp 20))⟩,
 ⟨(some 22), none, .call (.func 22) [(.tmp 16), (.tmp 21)]⟩,
 ⟨(some 23), none, .op (.buildF [(.int .i64 0)] 1 [(0, (.tmp 22))])⟩,
 ⟨(some 24), none, .op (.app 3 1 8 (.tmp 15) (.tmp 23))⟩,
 ⟨(some 5), none, .op (.move (.tmp 24))⟩]))
 (.region [⟨(some 13), none, .op (.move (.tmp 6))⟩,
 ⟨(some 14), none, .op (.bin .add (.tmp 13) (.const (.int .i64 1)))⟩,
 ⟨(some 6), none, .op (.move (.tmp 14))⟩])))
def A22 : ACode :=
 (.seq (.region [⟨(some 3), none, .op (.box (.tmp 1))⟩,
 ⟨(some 4), none, .op (.move (.const (.int .i64 0)))⟩])
 (.seq (.region [⟨(some 5), none, .op (.move (.const (.slice none 0 0)))⟩])
 (.seq (.seq (.region [⟨(some 6), none, .op (.move (.const (.int .i64 0)))⟩])
 (.block 0 (.loop A22l0)))
 (.seq (.seq (.region [⟨(some 25), none, .op (.move (.tmp 0))⟩,
 ⟨(some 26), none, .op (.nilck (.tmp 25))⟩,
 ⟨(some 27), none, .op (.fieldA 4 (.tmp 26))⟩,
 ⟨(some 28), none, .op (.load 1 false (.tmp 27))⟩,
 ⟨(some 29), none, .op (.bin .neq (.tmp 28) (.const (.int .i64 0)))⟩])
 (.cond (.tmp 29) (.seq (.region [⟨(some 4), none, .op (.move (.const (.int .i64 0)))⟩])
 .ret) .skip))
 (.seq (.seq (.region [⟨(some 30), none, .op (.fieldA 0 (.tmp 3))⟩,
 ⟨(some 31), none, .op (.load 1 false (.tmp 30))⟩])
 (.block 2 (.seq (.region [⟨(some 33), none, .op (.bin .eql (.tmp 31) (.const (.int .u8 2)))⟩,
 ⟨(some 32), none, .op (.move (.tmp 33))⟩])
 (.cond (.tmp 32) (.seq (.region [⟨(some 34), none, .op (.move (.tmp 0))⟩,
 ⟨(some 35), none, .op (.move (.tmp 0))⟩,
 ⟨(some 36), none, .op (.fieldA 3 (.tmp 3))⟩,
 ⟨(some 37), none, .op (.load 1 false (.tmp 36))⟩,
 ⟨(some 38), none, .call (.func 48) [(.tmp 35), (.tmp 37)]⟩,
 ⟨(some 39), none, .op (.bin .eql (.tmp 38) (.const (.int .i64 0)))⟩,
 ⟨(some 40), none, .call (.func 47) [(.tmp 34), (.tmp 39), (.const (.int .i64 16))]⟩])
 (.seq (.region [⟨(some 41), none, .op (.move (.tmp 0))⟩,
 ⟨(some 42), none, .op (.fieldA 3 (.tmp 3))⟩,
 ⟨(some 43), none, .op (.load 1 false (.tmp 42))⟩,
 ⟨(some 44), none, .call (.func 48) [(.tmp 41), (.tmp 43)]⟩,
 ⟨(some 4), none, .op (.move (.tmp 44))⟩])
 .ret)) (.seq (.region [⟨(some 46), none, .op (.bin .eql (.tmp 31) (.const (.int .u8 3)))⟩,
 ⟨(some 45), none, .op (.move (.tmp 46))⟩])
 (.cond (.tmp 45) (.seq (.dregion [⟨0, ⟨(some 47), none, .op (.move (.tmp 0))⟩, []⟩,
 ⟨1, ⟨(some 48), none, .op (.nilck (.tmp 47))⟩, []⟩,
 ⟨2, ⟨(some 49), none, .op (.fieldA 0 (.tmp 48))⟩, []⟩,
 ⟨3, ⟨(some 50), none, .op (.load 2 true (.tmp 49))⟩, []⟩,
 ⟨4, ⟨(some 51), none, .op (.fieldA 3 (.tmp 3))⟩, []⟩,
 ⟨5, ⟨(some 52), none, .op (.load 1 false (.tmp 51))⟩, []⟩,
 ⟨6, ⟨(some 53), none, .call (.func 49) [(.tmp 50), (.tmp 52)]⟩, []⟩,
 ⟨7, ⟨(some 7), none, .op (.move (.tmp 53))⟩, []⟩])
 (.seq (.seq (.region [⟨(some 54), none, .op (.move (.tmp 7))⟩,
 ⟨(some 55), none, .op (.bin .lss (.tmp 54) (.const (.int .i64 0)))⟩])
 (.cond (.tmp 55) (.seq (.region [⟨(some 56), none, .op (.move (.tmp 0))⟩,
 ⟨(some 57), none, .call (.func 47) [(.tmp 56), (.const (.bool true)), (.const (.int .i64 16))]⟩])
 (.seq (.region [⟨(some 4), none, .op (.move (.const (.int .i64 0)))⟩])
 .ret)) .skip))
 (.seq (.region [⟨(some 58), none, .op (.move (.tmp 0))⟩,
 ⟨(some 59), none, .op (.move (.tmp 5))⟩,
 ⟨(some 60), none, .op (.idxA 1 (.tmp 59) (.const (.int .i64 0)))⟩,
 ⟨(some 61), none, .op (.load 1 false (.tmp 60))⟩,
 ⟨(some 62), none, .op (.bin .neq (.tmp 61) (.const (.int .i64 32)))⟩,
 ⟨(some 63), none, .call (.func 47) [(.tmp 58), (.tmp 62), (.const (.int .i64 14))]⟩])
 (.seq (.region [⟨(some 64), none, .op (.move (.tmp 0))⟩,
 ⟨(some 65), none, .op (.nilck (.tmp 64))⟩,
 ⟨(some 66), none, .op (.fieldA 0 (.tmp 65))⟩,
 ⟨(some 67), none, .op (.fieldA 0 (.tmp 66))⟩,
 ⟨(some 68), none, .op (.load 1 false (.tmp 67))⟩,
 ⟨(some 69), none, .op (.move (.tmp 7))⟩,
 ⟨(some 70), none, .op (.idxA 3 (.tmp 68) (.tmp 69))⟩,
 ⟨(some 71), none, .op (.fieldA 1 (.tmp 70))⟩,
 ⟨(some 72), none, .op (.load 1 false (.tmp 71))⟩,
 ⟨(some 4), none, .op (.move (.tmp 72))⟩])
 .ret)))) (.seq (.seq (.region [⟨(some 74), none, .op (.bin .eql (.tmp 31) (.const (.int .u8 4)))⟩,
 ⟨(some 73), none, .op (.move (.tmp 74))⟩])
 (.cond (.tmp 73) .skip (.region [⟨(some 75), none, .op (.bin .eql (.tmp 31) (.const (.int .u8 5)))⟩,
 ⟨(some 73), none, .op (.move (.tmp 75))⟩])))
 (.cond (.tmp 73) (.seq (.region [⟨(some 76), none, .op (.move (.tmp 5))⟩,
 ⟨(some 77), none, .op (.idxA 1 (.tmp 76) (.const (.int .i64 0)))⟩,
 ⟨(some 78), none, .op (.load 1 false (.tmp 77))⟩,
 ⟨(some 4), none, .op (.move (.tmp 78))⟩])
 .ret) (.seq (.region [⟨(some 80), none, .op (.bin .eql (.tmp 31) (.const (.int .u8 6)))⟩,
 ⟨(some 79), none, .op (.move (.tmp 80))⟩])
 (.cond (.tmp 79) (.seq (.dregion [⟨0, ⟨(some 81), none, .op (.move (.tmp 0))⟩, []⟩,
 ⟨1, ⟨(some 82), none, .op (.move (.tmp 5))⟩, []⟩,
 ⟨2, ⟨(some 83), none, .op (.idxA 1 (.tmp 82) (.const (.int .i64 0)))⟩, []⟩,
 ⟨3, ⟨(some 84), none, .op (.load 1 false (.tmp 83))⟩, []⟩,
 ⟨4, ⟨(some 85), none, .op (.move (.tmp 5))⟩, []⟩,
 ⟨5, ⟨(some 86), none, .op (.idxA 1 (.tmp 85) (.const (.int .i64 1)))⟩, []⟩,
 ⟨6, ⟨(some 87), none, .op (.load 1 false (.tmp 86))⟩, []⟩,
 ⟨7, ⟨(some 88), none, .op (.bin .neq (.tmp 84) (.tmp 87))⟩, []⟩,
 ⟨8, ⟨(some 89), none, .call (.func 47) [(.tmp 81), (.tmp 88), (.const (.int .i64 14))]⟩, []⟩])
 (.seq (.seq (.region [⟨(some 90), none, .op (.fieldA 4 (.tmp 3))⟩,
 ⟨(some 91), none, .op (.load 1 false (.tmp 90))⟩,
 ⟨(some 92), none, .op (.bin .geq (.tmp 91) (.const (.int .u8 16)))⟩])
 (.cond (.tmp 92) (.seq (.region [⟨(some 4), none, .op (.move (.const (.int .i64 1)))⟩])
 .ret) .skip))
 (.seq (.region [⟨(some 93), none, .op (.move (.tmp 5))⟩,
 ⟨(some 94), none, .op (.idxA 1 (.tmp 93) (.const (.int .i64 0)))⟩,
 ⟨(some 95), none, .op (.load 1 false (.tmp 94))⟩,
 ⟨(some 4), none, .op (.move (.tmp 95))⟩])
 .ret))) .skip))))))))))
 (.seq (.region [⟨(some 96), none, .op (.fieldA 1 (.tmp 3))⟩,
 ⟨(some 97), none, .op (.load 1 false (.tmp 96))⟩,
 ⟨(some 4), none, .op (.move (.tmp 97))⟩])
 .ret))))))
def R22 : List RV := [.tmp 4]
theorem is22 : Is Tryd.prog (fun _ _ => false) 22 98 A22 R22 := ⟨Tryd.f22, Tryd.func22, rfl, by kernel_rfl, by kernel_rfl, Tryd.call22⟩
def A23l0 : ACode :=
 (.seq (.region [⟨(some 20), none, .op (.bin .lss (.tmp 19) (.tmp 18))⟩])
 (.seq (.cond (.tmp 20) .skip (.exit 0))
 (.seq (.block 1 (.seq (.region [⟨(some 21), none, .op (.idxA 4 (.tmp 17) (.tmp 19))⟩,
 ⟨(some 22), none, .op (.load 4 true (.tmp 21))⟩,
 ⟨(some 4), none, .op (.alloc [(.str []), .nilS, (.int .i64 0), .nilS])⟩,
 ⟨none, none, .op (.store 4 (.tmp 4) (.tmp 22))⟩])
 (.seq (.region [⟨(some 5), none, .op (.alloc [(.int .i64 0), (.int .i64 0), (.int .i64 0), (.bool false)])⟩])
 (.seq (.region [⟨(some 23), none, .op (.fieldA 3 (.tmp 4))⟩,
 ⟨(some 24), none, .op (.load 1 false (.tmp 23))⟩,
 ⟨(some 25), none, .call (.func 50) [(.tmp 5), (.tmp 24), (.const (.int .i64 1))]⟩])
 (.seq (.region [⟨(some 26), none, .op (.fieldA 1 (.tmp 4))⟩,
 ⟨(some 27), none, .op (.load 1 false (.tmp 26))⟩,
 ⟨(some 28), none, .op (.len (.tmp 27))⟩,
 ⟨(some 29), none, .op (.bin .gtr (.tmp 28) (.const (.int .i64 8)))⟩,
 ⟨(some 30), none, .op (.move (.tmp 29))⟩,
 ⟨(some 31), (some (30, false)), .op (.fieldA 1 (.tmp 4))⟩,
 ⟨(some 32), (some (30, false)), .op (.load 1 false (.tmp 31))⟩,
 ⟨(some 33), (some (30, false)), .op (.len (.tmp 32))⟩,
 ⟨(some 34), (some (30, false)), .op (.fieldA 1 (.tmp 5))⟩,
 ⟨(some 35), (some (30, false)), .op (.load 1 false (.tmp 34))⟩,
 ⟨(some 36), (some (30, false)), .op (.bin .add (.tmp 33) (.tmp 35))⟩,
 ⟨(some 37), (some (30, false)), .op (.bin .gtr (.tmp 36) (.const (.int .i64 40)))⟩,
 ⟨(some 38), none, .op (.pick (.tmp 30) (.const (.bool true)) (.tmp 37))⟩,
 ⟨(some 39), none, .op (.move (.tmp 38))⟩,
 ⟨(some 40), (some (39, false)), .op (.fieldA 0 (.tmp 5))⟩,
 ⟨(some 41), (some (39, false)), .op (.load 1 false (.tmp 40))⟩,
 ⟨(some 42), (some (39, false)), .op (.bin .gtr (.tmp 41) (.const (.int .i64 100)))⟩,
 ⟨(some 43), none, .op (.pick (.tmp 39) (.const (.bool true)) (.tmp 42))⟩,
 ⟨(some 44), none, .op (.move (.tmp 43))⟩,
 ⟨(some 45), (some (44, false)), .op (.fieldA 2 (.tmp 5))⟩,
 ⟨(some 46), (some (44, false)), .op (.load 1 false (.tmp 45))⟩,
 ⟨(some 47), (some (44, false)), .op (.bin .gtr (.tmp 46) (.const (.int .i64 8)))⟩,
 ⟨(some 48), none, .op (.pick (.tmp 44) (.const (.bool true)) (.tmp 47))⟩,
 ⟨(some 49), none, .op (.move (.tmp 48))⟩,
 ⟨(some 50), (some (49, false)), .op (.fieldA 3 (.tmp 5))⟩,
 ⟨(some 51), (some (49, false)), .op (.load 1 false (.tmp 50))⟩,
 ⟨(some 52), none, .op (.pick (.tmp 49) (.const (.bool true)) (.tmp 51))⟩])
 (.cond (.tmp 52) (.seq (.region [⟨(some 2), none, .op (.move (.const (.bool true)))⟩])
 .ret) .skip))))))
 (.region [⟨(some 53), none, .op (.bin .add (.tmp 19) (.const (.int .i64 1)))⟩,
 ⟨(some 19), none, .op (.move (.tmp 53))⟩]))))
def A23 : ACode :=
 (.seq (.region [⟨(some 1), none, .op (.box (.tmp 0))⟩,
 ⟨(some 2), none, .op (.move (.const (.bool false)))⟩])
 (.seq (.seq (.region [⟨(some 6), none, .op (.fieldA 0 (.tmp 1))⟩,
 ⟨(some 7), none, .op (.load 1 false (.tmp 6))⟩,
 ⟨(some 8), none, .op (.len (.tmp 7))⟩,
 ⟨(some 9), none, .op (.bin .gtr (.tmp 8) (.const (.int .i64 8)))⟩,
 ⟨(some 10), none, .op (.move (.tmp 9))⟩,
 ⟨(some 11), (some (10, false)), .op (.fieldA 1 (.tmp 1))⟩,
 ⟨(some 12), (some (10, false)), .op (.load 1 false (.tmp 11))⟩,
 ⟨(some 13), (some (10, false)), .op (.len (.tmp 12))⟩,
 ⟨(some 14), (some (10, false)), .op (.bin .gtr (.tmp 13) (.const (.int .i64 16)))⟩,
 ⟨(some 15), none, .op (.pick (.tmp 10) (.const (.bool true)) (.tmp 14))⟩])
 (.cond (.tmp 15) (.seq (.region [⟨(some 2), none, .op (.move (.const (.bool true)))⟩])
 .ret) .skip))
 (.seq (.seq (.region [⟨(some 16), none, .op (.fieldA 1 (.tmp 1))⟩,
 ⟨(some 17), none, .op (.load 1 false (.tmp 16))⟩,
 ⟨(some 18), none, .op (.len (.tmp 17))⟩,
 ⟨(some 19), none, .op (.move (.const (.int .i64 0)))⟩])
 (.block 0 (.loop A23l0)))
 (.seq (.region [⟨(some 2), none, .op (.move (.const (.bool false)))⟩])
 .ret))))
def R23 : List RV := [.tmp 2]
theorem is23 : Is Tryd.prog (fun _ _ => false) 23 54 A23 R23 := ⟨Tryd.f23, Tryd.func23, rfl, by kernel_rfl, by kernel_rfl, Tryd.call23⟩
def A24 : ACode :=
 (.seq (.region [⟨(some 3), none, .op (.box (.tmp 1))⟩,
 ⟨(some 4), none, .op (.move (.const (.bool false)))⟩])
 (.seq (.region [⟨(some 5), none, .op (.move (.tmp 0))⟩,
 ⟨(some 6), none, .op (.mkfn (.func 52) [(.tmp 3)])⟩,
 ⟨(some 7), none, .call (.func 51) [(.tmp 5), (.tmp 6)]⟩,
 ⟨(some 8), none, .op (.un .not (.tmp 7))⟩,
 ⟨(some 4), none, .op (.move (.tmp 8))⟩])
 .ret))
def R24 : List RV := [.tmp 4]
theorem is24 : Is Tryd.prog (fun _ _ => false) 24 9 A24 R24 := ⟨Tryd.f24, Tryd.func24, rfl, by kernel_rfl, by kernel_rfl, Tryd.call24⟩
def A25 : ACode :=
 (.seq (.region [⟨(some 1), none, .op (.box (.tmp 0))⟩,
 ⟨(some 2), none, .op (.move (.const (.bool false)))⟩])
 (.seq (.region [⟨(some 3), none, .op (.fieldA 0 (.tmp 1))⟩,
 ⟨(some 4), none, .op (.load 1 false (.tmp 3))⟩,
 ⟨(some 5), none, .call (.func 37) [(.tmp 4)]⟩,
 ⟨(some 6), none, .op (.move (.tmp 5))⟩,
 ⟨(some 7), (some (6, true)), .op (.fieldA 1 (.tmp 1))⟩,
 ⟨(some 8), (some (6, true)), .op (.load 1 false (.tmp 7))⟩,
 ⟨(some 9), (some (6, true)), .call (.func 35) [(.tmp 8)]⟩,
 ⟨(some 10), none, .op (.pick (.tmp 6) (.tmp 9) (.const (.bool false)))⟩,
 ⟨(some 11), none, .op (.move (.tmp 10))⟩,
 ⟨(some 12), (some (11, true)), .op (.fieldA 1 (.tmp 1))⟩,
 ⟨(some 13), (some (11, true)), .op (.load 1 false (.tmp 12))⟩,
 ⟨(some 14), (some (11, true)), .op (.bin .gtr (.tmp 13) (.const (.int .i64 1)))⟩,
 ⟨(some 15), none, .op (.pick (.tmp 11) (.tmp 14) (.const (.bool false)))⟩,
 ⟨(some 16), none, .op (.move (.tmp 15))⟩,
 ⟨(some 17), (some (16, true)), .op (.fieldA 2 (.tmp 1))⟩,
 ⟨(some 18), (some (16, true)), .op (.load 1 false (.tmp 17))⟩,
 ⟨(some 19), (some (16, true)), .op (.bin .geq (.tmp 18) (.const (.int .i64 1)))⟩,
 ⟨(some 20), none, .op (.pick (.tmp 16) (.tmp 19) (.const (.bool false)))⟩,
 ⟨(some 21), none, .op (.move (.tmp 20))⟩,
 ⟨(some 22), (some (21, true)), .op (.fieldA 2 (.tmp 1))⟩,
 ⟨(some 23), (some (21, true)), .op (.load 1 false (.tmp 22))⟩,
 ⟨(some 24), (some (21, true)), .op (.bin .leq (.tmp 23) (.const (.int .i64 64)))⟩,
 ⟨(some 25), none, .op (.pick (.tmp 21) (.tmp 24) (.const (.bool false)))⟩,
 ⟨(some 26), none, .op (.move (.tmp 25))⟩,
 ⟨(some 27), (some (26, true)), .op (.fieldA 2 (.tmp 1))⟩,
 ⟨(some 28), (some (26, true)), .op (.load 1 false (.tmp 27))⟩,
 ⟨(some 29), (some (26, true)), .op (.fieldA 2 (.tmp 1))⟩,
 ⟨(some 30), (some (26, true)), .op (.load 1 false (.tmp 29))⟩,
 ⟨(some 31), (some (26, true)), .op (.bin .sub (.tmp 30) (.const (.int .i64 1)))⟩,
 ⟨(some 32), (some (26, true)), .op (.bin .and (.tmp 28) (.tmp 31))⟩,
 ⟨(some 33), (some (26, true)), .op (.bin .eql (.tmp 32) (.const (.int .i64 0)))⟩,
 ⟨(some 34), none, .op (.pick (.tmp 26) (.tmp 33) (.const (.bool false)))⟩,
 ⟨(some 2), none, .op (.move (.tmp 34))⟩])
 .ret))
def R25 : List RV := [.tmp 2]
theorem is25 : Is Tryd.prog (fun _ _ => false) 25 35 A25 R25 := ⟨Tryd.f25, Tryd.func25, rfl, by kernel_rfl, by kernel_rfl, Tryd.call25⟩
def A26 : ACode :=
 (.seq (.region [⟨(some 3), none, .op (.box (.tmp 1))⟩,
 ⟨(some 4), none, .op (.move (.const (.bool false)))⟩])
 (.seq (.region [⟨(some 5), none, .op (.move (.tmp 0))⟩,
 ⟨(some 6), none, .op (.mkfn (.func 54) [(.tmp 3)])⟩,
 ⟨(some 7), none, .call (.func 53) [(.tmp 5), (.tmp 6)]⟩,
 ⟨(some 8), none, .op (.un .not (.tmp 7))⟩,
 ⟨(some 4), none, .op (.move (.tmp 8))⟩])
 .ret))
def R26 : List RV := [.tmp 4]
theorem is26 : Is Tryd.prog (fun _ _ => false) 26 9 A26 R26 := ⟨Tryd.f26, Tryd.func26, rfl, by kernel_rfl, by kernel_rfl, Tryd.call26⟩
def A27 : ACode :=
 (.seq (.region [⟨(some 1), none, .op (.box (.tmp 0))⟩,
 ⟨(some 2), none, .op (.move (.const (.bool false)))⟩])
 (.seq (.region [⟨(some 4), none, .op (.fieldA 1 (.tmp 1))⟩,
 ⟨(some 5), none, .op (.load 1 false (.tmp 4))⟩,
 ⟨(some 6), none, .call (.func 55) [(.tmp 5), (.func 56)]⟩,
 ⟨(some 3), none, .op (.move (.tmp 6))⟩])
 (.seq (.region [⟨(some 7), none, .op (.fieldA 0 (.tmp 1))⟩,
 ⟨(some 8), none, .op (.load 1 false (.tmp 7))⟩,
 ⟨(some 9), none, .call (.func 37) [(.tmp 8)]⟩,
 ⟨(some 10), none, .op (.move (.tmp 9))⟩,
 ⟨(some 11), (some (10, true)), .op (.move (.tmp 3))⟩,
 ⟨(some 12), none, .op (.pick (.tmp 10) (.tmp 11) (.const (.bool false)))⟩,
 ⟨(some 13), none, .op (.move (.tmp 12))⟩,
 ⟨(some 14), (some (13, true)), .op (.fieldA 2 (.tmp 1))⟩,
 ⟨(some 15), (some (13, true)), .op (.load 1 false (.tmp 14))⟩,
 ⟨(some 16), (some (13, true)), .op (.bin .eql (.tmp 15) (.const (.int .i64 0)))⟩,
 ⟨(some 17), (some (13, true)), .op (.move (.tmp 16))⟩,
 ⟨(some 18), (some (17, false)), .op (.fieldA 2 (.tmp 1))⟩,
 ⟨(some 19), (some (17, false)), .op (.load 1 false (.tmp 18))⟩,
 ⟨(some 20), (some (17, false)), .call (.func 35) [(.tmp 19)]⟩,
 ⟨(some 21), (some (13, true)), .op (.pick (.tmp 17) (.const (.bool true)) (.tmp 20))⟩,
 ⟨(some 22), none, .op (.pick (.tmp 13) (.tmp 21) (.const (.bool false)))⟩,
 ⟨(some 23), none, .op (.move (.tmp 22))⟩,
 ⟨(some 24), (some (23, true)), .op (.fieldA 3 (.tmp 1))⟩,
 ⟨(some 25), (some (23, true)), .op (.load 1 false (.tmp 24))⟩,
 ⟨(some 26), (some (23, true)), .call (.func 57) [(.tmp 25), (.func 58)]⟩,
 ⟨(some 27), none, .op (.pick (.tmp 23) (.tmp 26) (.const (.bool false)))⟩,
 ⟨(some 2), none, .op (.move (.tmp 27))⟩])
 .ret)))
def R27 : List RV := [.tmp 2]
theorem is27 : Is Tryd.prog (fun _ _ => false) 27 28 A27 R27 := ⟨Tryd.f27, Tryd.func27, rfl, by kernel_rfl, by kernel_rfl, Tryd.call27⟩
def A28 : ACode :=
 (.seq (.region [⟨(some 6), none, .op (.move (.const (.int .i64 0)))⟩])
 (.seq (.seq (.region [⟨(some 7), none, .op (.move (.tmp 0))⟩,
 ⟨(some 8), none, .op (.move (.tmp 1))⟩,
 ⟨(some 9), none, .call (.func 39) [(.tmp 7), (.tmp 8)]⟩,
 ⟨(some 10), none, .op (.bin .gtr (.tmp 9) (.const (.int .i64 0)))⟩,
 ⟨(some 11), none, .op (.move (.tmp 10))⟩,
 ⟨(some 12), (some (11, false)), .op (.move (.tmp 0))⟩,
 ⟨(some 13), (some (11, false)), .op (.nilck (.tmp 12))⟩,
 ⟨(some 14), (some (11, false)), .op (.fieldA 0 (.tmp 13))⟩,
 ⟨(some 15), (some (11, false)), .op (.load 2 true (.tmp 14))⟩,
 ⟨(some 16), (some (11, false)), .op (.move (.tmp 1))⟩,
 ⟨(some 17), (some (11, false)), .call (.func 40) [(.tmp 15), (.tmp 16)]⟩,
 ⟨(some 18), (some (11, false)), .op (.bin .geq (.tmp 17) (.const (.int .i64 0)))⟩,
 ⟨(some 19), none, .op (.pick (.tmp 11) (.const (.bool true)) (.tmp 18))⟩])
 (.cond (.tmp 19) (.seq (.region [⟨(some 6), none, .op (.move (.const (.int .i64 18)))⟩])
 .ret) .skip))
 (.seq (.region [⟨(some 20), none, .op (.move (.tmp 0))⟩,
 ⟨(some 21), none, .op (.move (.tmp 0))⟩,
 ⟨(some 22), none, .op (.nilck (.tmp 21))⟩,
 ⟨(some 23), none, .op (.fieldA 6 (.tmp 22))⟩,
 ⟨(some 24), none, .op (.load 1 false (.tmp 23))⟩,
 ⟨(some 25), none, .op (.move (.tmp 1))⟩,
 ⟨(some 26), none, .op (.move (.tmp 2))⟩,
 ⟨(some 27), none, .op (.build [(.str []), (.int .i64 0)] [(0, 1, (.tmp 25)), (1, 1, (.tmp 26))])⟩,
 ⟨(some 28), none, .op (.buildF [(.str []), (.int .i64 0)] 1 [(0, (.tmp 27))])⟩,
 ⟨(some 29), none, .op (.app 50 2 24 (.tmp 24) (.tmp 28))⟩,
 ⟨(some 30), none, .op (.nilck (.tmp 20))⟩,
 ⟨(some 31), none, .op (.fieldA 6 (.tmp 30))⟩,
 ⟨none, none, .op (.store 1 (.tmp 31) (.tmp 29))⟩])
 (.seq (.region [⟨(some 6), none, .op (.move (.const (.int .i64 0)))⟩])
 .ret))))
def R28 : List RV := [.tmp 6]
theorem is28 : Is Tryd.prog (fun _ _ => false) 28 32 A28 R28 := ⟨Tryd.f28, Tryd.func28, rfl, by kernel_rfl, by kernel_rfl, Tryd.call28⟩
def A29l0 : ACode :=
 (.seq (.region [⟨(some 25), none, .op (.bin .lss (.tmp 24) (.tmp 23))⟩])
 (.seq (.cond (.tmp 25) .skip (.exit 2))
 (.seq (.block 3 (.seq (.region [⟨(some 26), none, .op (.idxA 6 (.tmp 22) (.tmp 24))⟩,
 ⟨(some 27), none, .op (.load 6 true (.tmp 26))⟩,
 ⟨(some 11), none, .op (.alloc [(.int .u8 0), (.int .i64 0), (.int .u64 0), (.str []), (.int .u8 0), .nilS])⟩,
 ⟨none, none, .op (.store 6 (.tmp 11) (.tmp 27))⟩])
 (.seq (.region [⟨(some 29), none, .op (.move (.tmp 0))⟩,
 ⟨(some 30), none, .op (.load 6 true (.tmp 11))⟩,
 ⟨(some 31), none, .call (.func 19) [(.tmp 29), (.tmp 30)]⟩,
 ⟨(some 28), none, .op (.move (.tmp 31))⟩,
 ⟨(some 32), none, .op (.ext (.tmp 28) 0)⟩,
 ⟨(some 33), none, .op (.ext (.tmp 28) 1)⟩,
 ⟨(some 12), none, .op (.move (.tmp 32))⟩,
 ⟨(some 13), none, .op (.move (.tmp 33))⟩])
 (.seq (.seq (.region [⟨(some 34), none, .op (.move (.tmp 13))⟩,
 ⟨(some 35), none, .op (.bin .neq (.tmp 34) (.const (.int .i64 0)))⟩])
 (.cond (.tmp 35) (.seq (.region [⟨(some 36), none, .op (.move (.tmp 13))⟩,
 ⟨(some 6), none, .op (.move (.tmp 36))⟩])
 .ret) .skip))
 (.region [⟨(some 37), none, .op (.move (.tmp 9))⟩,
 ⟨(some 38), none, .op (.move (.tmp 12))⟩,
 ⟨(some 39), none, .op (.buildF [(.int .i64 0)] 1 [(0, (.tmp 38))])⟩,
 ⟨(some 40), none, .op (.app 3 1 8 (.tmp 37) (.tmp 39))⟩,
 ⟨(some 9), none, .op (.move (.tmp 40))⟩])))))
 (.region [⟨(some 41), none, .op (.bin .add (.tmp 24) (.const (.int .i64 1)))⟩,
 ⟨(some 24), none, .op (.move (.tmp 41))⟩]))))
def A29l1 : ACode :=
 (.seq (.region [⟨(some 18), none, .op (.bin .lss (.tmp 17) (.tmp 16))⟩])
 (.seq (.cond (.tmp 18) .skip (.exit 0))
 (.seq (.block 1 (.seq (.region [⟨(some 19), none, .op (.idxA 7 (.tmp 15) (.tmp 17))⟩,
 ⟨(some 20), none, .op (.load 7 true (.tmp 19))⟩,
 ⟨(some 8), none, .op (.alloc [(.int .u8 0), (.str []), (.str []), (.int .i64 0), .nilS, .nilS, .nilS])⟩,
 ⟨none, none, .op (.store 7 (.tmp 8) (.tmp 20))⟩])
 (.seq (.region [⟨(some 9), none, .op (.move (.const (.slice none 0 0)))⟩])
 (.seq (.seq (.region [⟨(some 21), none, .op (.fieldA 4 (.tmp 8))⟩,
 ⟨(some 22), none, .op (.load 1 false (.tmp 21))⟩,
 ⟨(some 23), none, .op (.len (.tmp 22))⟩,
 ⟨(some 24), none, .op (.move (.const (.int .i64 0)))⟩])
 (.block 2 (.loop A29l0)))
 (.seq (.region [⟨(some 42), none, .op (.move (.tmp 0))⟩,
 ⟨(some 43), none, .op (.load 7 true (.tmp 8))⟩,
 ⟨(some 44), none, .op (.move (.tmp 9))⟩,
 ⟨(some 45), none, .op (.move (.tmp 2))⟩,
 ⟨(some 46), none, .call (.func 59) [(.tmp 42), (.tmp 43), (.tmp 44), (.tmp 45)]⟩,
 ⟨(some 14), none, .op (.move (.tmp 46))⟩])
 (.seq (.seq (.region [⟨(some 47), none, .op (.move (.tmp 14))⟩,
 ⟨(some 48), none, .op (.bin .eql (.tmp 47) (.const (.int .i64 0)))⟩])
 (.cond (.tmp 48) (.region [⟨(some 49), none, .op (.move (.tmp 0))⟩,
 ⟨(some 50), none, .op (.fieldA 5 (.tmp 8))⟩,
 ⟨(some 51), none, .op (.load 1 false (.tmp 50))⟩,
 ⟨(some 52), none, .op (.move (.tmp 2))⟩,
 ⟨(some 53), none, .op (.move (.tmp 52))⟩,
 ⟨(some 54), (some (53, false)), .op (.fieldA 0 (.tmp 8))⟩,
 ⟨(some 55), (some (53, false)), .op (.load 1 false (.tmp 54))⟩,
 ⟨(some 56), (some (53, false)), .op (.bin .eql (.tmp 55) (.const (.int .u8 5)))⟩,
 ⟨(some 57), none, .op (.pick (.tmp 53) (.const (.bool true)) (.tmp 56))⟩,
 ⟨(some 58), none, .call (.func 29) [(.tmp 49), (.tmp 51), (.tmp 57)]⟩,
 ⟨(some 14), none, .op (.move (.tmp 58))⟩]) .skip))
 (.seq (.seq (.region [⟨(some 59), none, .op (.move (.tmp 14))⟩,
 ⟨(some 60), none, .op (.bin .eql (.tmp 59) (.const (.int .i64 0)))⟩])
 (.cond (.tmp 60) (.region [⟨(some 61), none, .op (.move (.tmp 0))⟩,
 ⟨(some 62), none, .op (.fieldA 6 (.tmp 8))⟩,
 ⟨(some 63), none, .op (.load 1 false (.tmp 62))⟩,
 ⟨(some 64), none, .op (.move (.tmp 2))⟩,
 ⟨(some 65), none, .call (.func 29) [(.tmp 61), (.tmp 63), (.tmp 64)]⟩,
 ⟨(some 14), none, .op (.move (.tmp 65))⟩]) .skip))
 (.seq (.region [⟨(some 66), none, .op (.move (.tmp 14))⟩,
 ⟨(some 67), none, .op (.bin .neq (.tmp 66) (.const (.int .i64 0)))⟩])
 (.cond (.tmp 67) (.seq (.region [⟨(some 68), none, .op (.move (.tmp 14))⟩,
 ⟨(some 6), none, .op (.move (.tmp 68))⟩])
 .ret) .skip)))))))))
 (.region [⟨(some 69), none, .op (.bin .add (.tmp 17) (.const (.int .i64 1)))⟩,
 ⟨(some 17), none, .op (.move (.tmp 69))⟩]))))
def A29 : ACode :=
 (.seq (.region [⟨(some 6), none, .op (.move (.const (.int .i64 0)))⟩])
 (.seq (.seq (.region [⟨(some 15), none, .op (.move (.tmp 1))⟩,
 ⟨(some 16), none, .op (.len (.tmp 15))⟩,
 ⟨(some 17), none, .op (.move (.const (.int .i64 0)))⟩])
 (.block 0 (.loop A29l1)))
 (.seq (.region [⟨(some 6), none, .op (.move (.const (.int .i64 0)))⟩])
 .ret)))
def R29 : List RV := [.tmp 6]
theorem is29 : Is Tryd.prog (fun _ _ => false) 29 70 A29 R29 := ⟨Tryd.f29, Tryd.func29, rfl, by kernel_rfl, by kernel_rfl, Tryd.call29⟩
def A30l0 : ACode :=
 (.seq (.seq (.region [⟨(some 19), none, .op (.move (.tmp 3))⟩,
 ⟨(some 20), none, .op (.fieldA 1 (.tmp 1))⟩,
 ⟨(some 21), none, .op (.load 1 false (.tmp 20))⟩,
 ⟨(some 22), none, .op (.len (.tmp 21))⟩,
 ⟨(some 23), none, .op (.bin .lss (.tmp 19) (.tmp 22))⟩])
 (.cond (.tmp 23) .skip (.exit 0)))
 (.seq (.block 1 (.seq (.region [⟨(some 26), none, .op (.fieldA 1 (.tmp 1))⟩,
 ⟨(some 27), none, .op (.load 1 false (.tmp 26))⟩,
 ⟨(some 28), none, .op (.move (.tmp 3))⟩,
 ⟨(some 29), none, .op (.idxA 4 (.tmp 27) (.tmp 28))⟩,
 ⟨(some 30), none, .op (.load 4 true (.tmp 29))⟩,
 ⟨(some 4), none, .op (.alloc [(.str []), .nilS, (.int .i64 0), .nilS])⟩,
 ⟨none, none, .op (.store 4 (.tmp 4) (.tmp 30))⟩])
 (.seq (.region [⟨(some 32), none, .op (.fieldA 3 (.tmp 4))⟩,
 ⟨(some 33), none, .op (.load 1 false (.tmp 32))⟩,
 ⟨(some 34), none, .call (.func 60) [(.tmp 33)]⟩,
 ⟨(some 31), none, .op (.move (.tmp 34))⟩,
 ⟨(some 35), none, .op (.ext (.tmp 31) 0)⟩,
 ⟨(some 36), none, .op (.ext (.tmp 31) 1)⟩,
 ⟨(some 37), none, .op (.ext (.tmp 31) 2)⟩,
 ⟨(some 38), none, .op (.ext (.tmp 31) 3)⟩,
 ⟨(some 5), none, .op (.move (.tmp 35))⟩,
 ⟨(some 6), none, .op (.move (.tmp 36))⟩,
 ⟨(some 7), none, .op (.move (.tmp 37))⟩,
 ⟨(some 8), none, .op (.move (.tmp 38))⟩])
 (.seq (.region [⟨(some 39), none, .op (.fieldA 1 (.tmp 4))⟩,
 ⟨(some 40), none, .op (.load 1 false (.tmp 39))⟩,
 ⟨(some 41), none, .op (.len (.tmp 40))⟩,
 ⟨(some 42), none, .op (.bin .gtr (.tmp 41) (.const (.int .i64 8)))⟩,
 ⟨(some 43), none, .op (.move (.tmp 42))⟩,
 ⟨(some 44), (some (43, false)), .op (.fieldA 1 (.tmp 4))⟩,
 ⟨(some 45), (some (43, false)), .op (.load 1 false (.tmp 44))⟩,
 ⟨(some 46), (some (43, false)), .op (.len (.tmp 45))⟩,
 ⟨(some 47), (some (43, false)), .op (.move (.tmp 6))⟩,
 ⟨(some 48), (some (43, false)), .op (.bin .add (.tmp 46) (.tmp 47))⟩,
 ⟨(some 49), (some (43, false)), .op (.bin .gtr (.tmp 48) (.const (.int .i64 40)))⟩,
 ⟨(some 50), none, .op (.pick (.tmp 43) (.const (.bool true)) (.tmp 49))⟩,
 ⟨(some 51), none, .op (.move (.tmp 50))⟩,
 ⟨(some 52), (some (51, false)), .op (.move (.tmp 5))⟩,
 ⟨(some 53), (some (51, false)), .op (.bin .gtr (.tmp 52) (.const (.int .i64 100)))⟩,
 ⟨(some 54), none, .op (.pick (.tmp 51) (.const (.bool true)) (.tmp 53))⟩,
 ⟨(some 55), none, .op (.move (.tmp 54))⟩,
 ⟨(some 56), (some (55, false)), .op (.move (.tmp 7))⟩,
 ⟨(some 57), (some (55, false)), .op (.bin .gtr (.tmp 56) (.const (.int .i64 8)))⟩,
 ⟨(some 58), none, .op (.pick (.tmp 55) (.const (.bool true)) (.tmp 57))⟩,
 ⟨(some 59), none, .op (.move (.tmp 58))⟩,
 ⟨(some 60), (some (59, false)), .op (.move (.tmp 8))⟩,
 ⟨(some 61), none, .op (.pick (.tmp 59) (.const (.bool true)) (.tmp 60))⟩])
 (.cond (.tmp 61) (.seq (.region [⟨(some 2), none, .op (.move (.const (.bool true)))⟩])
 .ret) .skip)))))
 (.region [⟨(some 24), none, .op (.move (.tmp 3))⟩,
 ⟨(some 25), none, .op (.bin .add (.tmp 24) (.const (.int .i64 1)))⟩,
 ⟨(some 3), none, .op (.move (.tmp 25))⟩])))
def A30 : ACode :=
 (.seq (.region [⟨(some 1), none, .op (.box (.tmp 0))⟩,
 ⟨(some 2), none, .op (.move (.const (.bool false)))⟩])
 (.seq (.seq (.region [⟨(some 9), none, .op (.fieldA 0 (.tmp 1))⟩,
 ⟨(some 10), none, .op (.load 1 false (.tmp 9))⟩,
 ⟨(some 11), none, .op (.len (.tmp 10))⟩,
 ⟨(some 12), none, .op (.bin .gtr (.tmp 11) (.const (.int .i64 8)))⟩,
 ⟨(some 13), none, .op (.move (.tmp 12))⟩,
 ⟨(some 14), (some (13, false)), .op (.fieldA 1 (.tmp 1))⟩,
 ⟨(some 15), (some (13, false)), .op (.load 1 false (.tmp 14))⟩,
 ⟨(some 16), (some (13, false)), .op (.len (.tmp 15))⟩,
 ⟨(some 17), (some (13, false)), .op (.bin .gtr (.tmp 16) (.const (.int .i64 16)))⟩,
 ⟨(some 18), none, .op (.pick (.tmp 13) (.const (.bool true)) (.tmp 17))⟩])
 (.cond (.tmp 18) (.seq (.region [⟨(some 2), none, .op (.move (.const (.bool true)))⟩])
 .ret) .skip))
 (.seq (.seq (.region [⟨(some 3), none, .op (.move (.const (.int .i64 0)))⟩])
 (.block 0 (.loop A30l0)))
 (.seq (.region [⟨(some 2), none, .op (.move (.const (.bool false)))⟩])
 .ret))))
def R30 : List RV := [.tmp 2]
theorem is30 : Is Tryd.prog (fun _ _ => false) 30 62 A30 R30 := ⟨Tryd.f30, Tryd.func30, rfl, by kernel_rfl, by kernel_rfl, Tryd.call30⟩
def A31l0 : ACode :=
 (.seq (.seq (.region [⟨(some 8), none, .op (.move (.tmp 3))⟩,
 ⟨(some 9), none, .op (.fieldA 0 (.tmp 1))⟩,
 ⟨(some 10), none, .op (.load 1 false (.tmp 9))⟩,
 ⟨(some 11), none, .op (.len (.tmp 10))⟩,
 ⟨(some 12), none, .op (.bin .lss (.tmp 8) (.tmp 11))⟩])
 (.cond (.tmp 12) .skip (.exit 0)))
 (.seq (.block 1 (.seq (.region [⟨(some 15), none, .op (.fieldA 0 (.tmp 1))⟩,
 ⟨(some 16), none, .op (.load 1 false (.tmp 15))⟩,
 ⟨(some 17), none, .op (.move (.tmp 3))⟩,
 ⟨(some 18), none, .op (.idxA 3 (.tmp 16) (.tmp 17))⟩,
 ⟨(some 19), none, .op (.load 3 true (.tmp 18))⟩,
 ⟨(some 4), none, .op (.alloc [(.str []), (.int .i64 0), (.int .i64 0)])⟩,
 ⟨none, none, .op (.store 3 (.tmp 4) (.tmp 19))⟩])
 (.seq (.region [⟨(some 20), none, .op (.fieldA 0 (.tmp 4))⟩,
 ⟨(some 21), none, .op (.load 1 false (.tmp 20))⟩,
 ⟨(some 22), none, .call (.func 45) [(.tmp 21)]⟩,
 ⟨(some 23), none, .op (.un .not (.tmp 22))⟩,
 ⟨(some 24), none, .op (.move (.tmp 23))⟩,
 ⟨(some 25), (some (24, false)), .op (.fieldA 1 (.tmp 4))⟩,
 ⟨(some 26), (some (24, false)), .op (.load 1 false (.tmp 25))⟩,
 ⟨(some 27), (some (24, false)), .op (.bin .eql (.tmp 26) (.const (.int .i64 1)))⟩,
 ⟨(some 28), none, .op (.pick (.tmp 24) (.const (.bool true)) (.tmp 27))⟩,
 ⟨(some 29), none, .op (.move (.tmp 28))⟩,
 ⟨(some 30), (some (29, false)), .op (.fieldA 1 (.tmp 4))⟩,
 ⟨(some 31), (some (29, false)), .op (.load 1 false (.tmp 30))⟩,
 ⟨(some 32), (some (29, false)), .call (.func 44) [(.tmp 31)]⟩,
 ⟨(some 33), (some (29, false)), .op (.un .not (.tmp 32))⟩,
 ⟨(some 34), none, .op (.pick (.tmp 29) (.const (.bool true)) (.tmp 33))⟩,
 ⟨(some 35), none, .op (.move (.tmp 34))⟩,
 ⟨(some 36), (some (35, false)), .op (.fieldA 2 (.tmp 4))⟩,
 ⟨(some 37), (some (35, false)), .op (.load 1 false (.tmp 36))⟩,
 ⟨(some 38), (some (35, false)), .op (.bin .lss (.tmp 37) (.const (.int .i64 1)))⟩,
 ⟨(some 39), none, .op (.pick (.tmp 35) (.const (.bool true)) (.tmp 38))⟩,
 ⟨(some 40), none, .op (.move (.tmp 39))⟩,
 ⟨(some 41), (some (40, false)), .op (.fieldA 2 (.tmp 4))⟩,
 ⟨(some 42), (some (40, false)), .op (.load 1 false (.tmp 41))⟩,
 ⟨(some 43), (some (40, false)), .op (.bin .gtr (.tmp 42) (.const (.int .i64 64)))⟩,
 ⟨(some 44), none, .op (.pick (.tmp 40) (.const (.bool true)) (.tmp 43))⟩,
 ⟨(some 45), none, .op (.move (.tmp 44))⟩,
 ⟨(some 46), (some (45, false)), .op (.fieldA 2 (.tmp 4))⟩,
 ⟨(some 47), (some (45, false)), .op (.load 1 false (.tmp 46))⟩,
 ⟨(some 48), (some (45, false)), .op (.fieldA 2 (.tmp 4))⟩,
 ⟨(some 49), (some (45, false)), .op (.load 1 false (.tmp 48))⟩,
 ⟨(some 50), (some (45, false)), .op (.bin .sub (.tmp 49) (.const (.int .i64 1)))⟩,
 ⟨(some 51), (some (45, false)), .op (.bin .and (.tmp 47) (.tmp 50))⟩,
 ⟨(some 52), (some (45, false)), .op (.bin .neq (.tmp 51) (.const (.int .i64 0)))⟩,
 ⟨(some 53), none, .op (.pick (.tmp 45) (.const (.bool true)) (.tmp 52))⟩])
 (.cond (.tmp 53) (.seq (.region [⟨(some 2), none, .op (.move (.const (.bool false)))⟩])
 .ret) .skip))))
 (.region [⟨(some 13), none, .op (.move (.tmp 3))⟩,
 ⟨(some 14), none, .op (.bin .add (.tmp 13) (.const (.int .i64 1)))⟩,
 ⟨(some 3), none, .op (.move (.tmp 14))⟩])))
def A31l1 : ACode :=
 (.seq (.seq (.region [⟨(some 66), none, .op (.move (.tmp 7))⟩,
 ⟨(some 67), none, .op (.fieldA 1 (.tmp 6))⟩,
 ⟨(some 68), none, .op (.load 1 false (.tmp 67))⟩,
 ⟨(some 69), none, .op (.len (.tmp 68))⟩,
 ⟨(some 70), none, .op (.bin .lss (.tmp 66) (.tmp 69))⟩])
 (.cond (.tmp 70) .skip (.exit 4)))
 (.seq (.block 5 (.seq (.region [⟨(some 73), none, .op (.fieldA 1 (.tmp 6))⟩,
 ⟨(some 74), none, .op (.load 1 false (.tmp 73))⟩,
 ⟨(some 75), none, .op (.move (.tmp 7))⟩,
 ⟨(some 76), none, .op (.idxA 2 (.tmp 74) (.tmp 75))⟩,
 ⟨(some 77), none, .op (.fieldA 0 (.tmp 76))⟩,
 ⟨(some 78), none, .op (.load 1 false (.tmp 77))⟩,
 ⟨(some 79), none, .call (.func 45) [(.tmp 78)]⟩,
 ⟨(some 80), none, .op (.un .not (.tmp 79))⟩,
 ⟨(some 81), none, .op (.move (.tmp 80))⟩,
 ⟨(some 82), (some (81, false)), .op (.fieldA 1 (.tmp 6))⟩,
 ⟨(some 83), (some (81, false)), .op (.load 1 false (.tmp 82))⟩,
 ⟨(some 84), (some (81, false)), .op (.move (.tmp 7))⟩,
 ⟨(some 85), (some (81, false)), .op (.idxA 2 (.tmp 83) (.tmp 84))⟩,
 ⟨(some 86), (some (81, false)), .op (.fieldA 1 (.tmp 85))⟩,
 ⟨(some 87), (some (81, false)), .op (.load 1 false (.tmp 86))⟩,
 ⟨(some 88), (some (81, false)), .call (.func 44) [(.tmp 87)]⟩,
 ⟨(some 89), (some (81, false)), .op (.un .not (.tmp 88))⟩,
 ⟨(some 90), none, .op (.pick (.tmp 81) (.const (.bool true)) (.tmp 89))⟩])
 (.cond (.tmp 90) (.seq (.region [⟨(some 2), none, .op (.move (.const (.bool false)))⟩])
 .ret) .skip)))
 (.region [⟨(some 71), none, .op (.move (.tmp 7))⟩,
 ⟨(some 72), none, .op (.bin .add (.tmp 71) (.const (.int .i64 1)))⟩,
 ⟨(some 7), none, .op (.move (.tmp 72))⟩])))
def A31l2 : ACode :=
 (.seq (.seq (.region [⟨(some 54), none, .op (.move (.tmp 5))⟩,
 ⟨(some 55), none, .op (.fieldA 1 (.tmp 1))⟩,
 ⟨(some 56), none, .op (.load 1 false (.tmp 55))⟩,
 ⟨(some 57), none, .op (.len (.tmp 56))⟩,
 ⟨(some 58), none, .op (.bin .lss (.tmp 54) (.tmp 57))⟩])
 (.cond (.tmp 58) .skip (.exit 2)))
 (.seq (.block 3 (.seq (.region [⟨(some 61), none, .op (.fieldA 1 (.tmp 1))⟩,
 ⟨(some 62), none, .op (.load 1 false (.tmp 61))⟩,
 ⟨(some 63), none, .op (.move (.tmp 5))⟩,
 ⟨(some 64), none, .op (.idxA 4 (.tmp 62) (.tmp 63))⟩,
 ⟨(some 65), none, .op (.load 4 true (.tmp 64))⟩,
 ⟨(some 6), none, .op (.alloc [(.str []), .nilS, (.int .i64 0), .nilS])⟩,
 ⟨none, none, .op (.store 4 (.tmp 6) (.tmp 65))⟩])
 (.seq (.seq (.region [⟨(some 7), none, .op (.move (.const (.int .i64 0)))⟩])
 (.block 4 (.loop A31l1)))
 (.seq (.region [⟨(some 91), none, .op (.fieldA 0 (.tmp 6))⟩,
 ⟨(some 92), none, .op (.load 1 false (.tmp 91))⟩,
 ⟨(some 93), none, .call (.func 45) [(.tmp 92)]⟩,
 ⟨(some 94), none, .op (.un .not (.tmp 93))⟩,
 ⟨(some 95), none, .op (.move (.tmp 94))⟩,
 ⟨(some 96), (some (95, false)), .op (.fieldA 2 (.tmp 6))⟩,
 ⟨(some 97), (some (95, false)), .op (.load 1 false (.tmp 96))⟩,
 ⟨(some 98), (some (95, false)), .op (.bin .neq (.tmp 97) (.const (.int .i64 0)))⟩,
 ⟨(some 99), (some (95, false)), .op (.move (.tmp 98))⟩,
 ⟨(some 100), (some (99, true)), .op (.fieldA 2 (.tmp 6))⟩,
 ⟨(some 101), (some (99, true)), .op (.load 1 false (.tmp 100))⟩,
 ⟨(some 102), (some (99, true)), .call (.func 44) [(.tmp 101)]⟩,
 ⟨(some 103), (some (99, true)), .op (.un .not (.tmp 102))⟩,
 ⟨(some 104), (some (95, false)), .op (.pick (.tmp 99) (.tmp 103) (.const (.bool false)))⟩,
 ⟨(some 105), none, .op (.pick (.tmp 95) (.const (.bool true)) (.tmp 104))⟩,
 ⟨(some 106), none, .op (.move (.tmp 105))⟩,
 ⟨(some 107), (some (106, false)), .op (.fieldA 3 (.tmp 6))⟩,
 ⟨(some 108), (some (106, false)), .op (.load 1 false (.tmp 107))⟩,
 ⟨(some 109), (some (106, false)), .call (.func 61) [(.tmp 108)]⟩,
 ⟨(some 110), (some (106, false)), .op (.un .not (.tmp 109))⟩,
 ⟨(some 111), none, .op (.pick (.tmp 106) (.const (.bool true)) (.tmp 110))⟩])
 (.cond (.tmp 111) (.seq (.region [⟨(some 2), none, .op (.move (.const (.bool false)))⟩])
 .ret) .skip)))))
 (.region [⟨(some 59), none, .op (.move (.tmp 5))⟩,
 ⟨(some 60), none, .op (.bin .add (.tmp 59) (.const (.int .i64 1)))⟩,
 ⟨(some 5), none, .op (.move (.tmp 60))⟩])))
def A31 : ACode :=
 (.seq (.region [⟨(some 1), none, .op (.box (.tmp 0))⟩,
 ⟨(some 2), none, .op (.move (.const (.bool false)))⟩])
 (.seq (.seq (.region [⟨(some 3), none, .op (.move (.const (.int .i64 0)))⟩])
 (.block 0 (.loop A31l0)))
 (.seq (.seq (.region [⟨(some 5), none, .op (.move (.const (.int .i64 0)))⟩])
 (.block 2 (.loop A31l2)))
 (.seq (.region [⟨(some 112), none, .op (.fieldA 1 (.tmp 1))⟩,
 ⟨(some 113), none, .op (.load 1 false (.tmp 112))⟩,
 ⟨(some 114), none, .op (.len (.tmp 113))⟩,
 ⟨(some 115), none, .op (.bin .gtr (.tmp 114) (.const (.int .i64 0)))⟩,
 ⟨(some 2), none, .op (.move (.tmp 115))⟩])
 .ret))))
def R31 : List RV := [.tmp 2]
theorem is31 : Is Tryd.prog (fun _ _ => false) 31 116 A31 R31 := ⟨Tryd.f31, Tryd.func31, rfl, by kernel_rfl, by kernel_rfl, Tryd.call31⟩
def A32 : ACode :=
 (.seq (.region [⟨(some 3), none, .op (.box (.tmp 1))⟩])
 (.seq (.dregion [⟨0, ⟨(some 4), none, .op (.move (.tmp 0))⟩, []⟩,
 ⟨1, ⟨(some 5), none, .op (.move (.tmp 0))⟩, []⟩,
 ⟨2, ⟨(some 6), none, .op (.fieldA 0 (.tmp 3))⟩, []⟩,
 ⟨3, ⟨(some 7), none, .op (.load 1 false (.tmp 6))⟩, []⟩,
 ⟨4, ⟨(some 8), none, .call (.func 48) [(.tmp 5), (.tmp 7)]⟩, [0]⟩,
 ⟨5, ⟨(some 9), none, .op (.bin .gtr (.tmp 8) (.const (.int .i64 0)))⟩, []⟩,
 ⟨6, ⟨(some 10), none, .op (.move (.tmp 9))⟩, []⟩,
 ⟨7, ⟨(some 11), (some (10, false)), .op (.move (.tmp 0))⟩, []⟩,
 ⟨8, ⟨(some 12), (some (10, false)), .op (.nilck (.tmp 11))⟩, []⟩,
 ⟨9, ⟨(some 13), (some (10, false)), .op (.fieldA 0 (.tmp 12))⟩, []⟩,
 ⟨10, ⟨(some 14), (some (10, false)), .op (.load 2 true (.tmp 13))⟩, []⟩,
 ⟨11, ⟨(some 15), (some (10, false)), .op (.fieldA 0 (.tmp 3))⟩, []⟩,
 ⟨12, ⟨(some 16), (some (10, false)), .op (.load 1 false (.tmp 15))⟩, []⟩,
 ⟨13, ⟨(some 17), (some (10, false)), .call (.func 49) [(.tmp 14), (.tmp 16)]⟩, [0]⟩,
 ⟨14, ⟨(some 18), (some (10, false)), .op (.bin .geq (.tmp 17) (.const (.int .i64 0)))⟩, []⟩,
 ⟨15, ⟨(some 19), none, .op (.pick (.tmp 10) (.const (.bool true)) (.tmp 18))⟩, []⟩,
 ⟨16, ⟨(some 20), none, .call (.func 47) [(.tmp 4), (.tmp 19), (.const (.int .i64 18))]⟩, []⟩])
 (.dregion [⟨0, ⟨(some 21), none, .op (.move (.tmp 0))⟩, []⟩,
 ⟨1, ⟨(some 22), none, .op (.move (.tmp 0))⟩, []⟩,
 ⟨2, ⟨(some 23), none, .op (.nilck (.tmp 22))⟩, []⟩,
 ⟨3, ⟨(some 24), none, .op (.fieldA 3 (.tmp 23))⟩, []⟩,
 ⟨4, ⟨(some 25), none, .op (.load 1 false (.tmp 24))⟩, []⟩,
 ⟨5, ⟨(some 26), none, .op (.load 2 true (.tmp 3))⟩, []⟩,
 ⟨6, ⟨(some 27), none, .op (.buildF [(.str []), (.int .i64 0)] 1 [(0, (.tmp 26))])⟩, []⟩,
 ⟨7, ⟨(some 28), none, .op (.app 50 2 24 (.tmp 25) (.tmp 27))⟩, [0]⟩,
 ⟨8, ⟨(some 29), none, .op (.nilck (.tmp 21))⟩, []⟩,
 ⟨9, ⟨(some 30), none, .op (.fieldA 3 (.tmp 29))⟩, []⟩,
 ⟨10, ⟨none, none, .op (.store 1 (.tmp 30) (.tmp 28))⟩, []⟩])))
def R32 : List RV := []
theorem is32 : Is Tryd.prog (fun _ _ => false) 32 31 A32 R32 := ⟨Tryd.f32, Tryd.func32, rfl, by kernel_rfl, by kernel_rfl, Tryd.call32⟩
def A33l0 : ACode :=
 (.seq (.seq (.region [⟨(some 7), none, .op (.move (.tmp 6))⟩,
 ⟨(some 8), none, .op (.move (.tmp 1))⟩,
 ⟨(some 9), none, .op (.len (.tmp 8))⟩,
 ⟨(some 10), none, .op (.bin .lss (.tmp 7) (.tmp 9))⟩,
 ⟨(some 11), none, .op (.move (.tmp 10))⟩,
 ⟨(some 12), (some (11, true)), .op (.move (.tmp 0))⟩,
 ⟨(some 13), (some (11, true)), .op (.nilck (.tmp 12))⟩,
 ⟨(some 14), (some (11, true)), .op (.fieldA 4 (.tmp 13))⟩,
 ⟨(some 15), (some (11, true)), .op (.load 1 false (.tmp 14))⟩,
 ⟨(some 16), (some (11, true)), .op (.bin .eql (.tmp 15) (.const (.int .i64 0)))⟩,
 ⟨(some 17), none, .op (.pick (.tmp 11) (.tmp 16) (.const (.bool false)))⟩])
 (.cond (.tmp 17) .skip (.exit 0)))
 (.seq (.block 1 (.region [⟨(some 20), none, .op (.move (.tmp 0))⟩,
 ⟨(some 21), none, .op (.move (.tmp 1))⟩,
 ⟨(some 22), none, .op (.move (.tmp 6))⟩,
 ⟨(some 23), none, .op (.idxA 7 (.tmp 21) (.tmp 22))⟩,
 ⟨(some 24), none, .op (.load 7 true (.tmp 23))⟩,
 ⟨(some 25), none, .op (.move (.tmp 2))⟩,
 ⟨(some 26), none, .call (.func 62) [(.tmp 20), (.tmp 24), (.tmp 25)]⟩]))
 (.region [⟨(some 18), none, .op (.move (.tmp 6))⟩,
 ⟨(some 19), none, .op (.bin .add (.tmp 18) (.const (.int .i64 1)))⟩,
 ⟨(some 6), none, .op (.move (.tmp 19))⟩])))
def A33 : ACode :=
 (.seq (.region [⟨(some 6), none, .op (.move (.const (.int .i64 0)))⟩])
 (.block 0 (.loop A33l0)))
def R33 : List RV := []
theorem is33 : Is Tryd.prog (fun _ _ => false) 33 27 A33 R33 := ⟨Tryd.f33, Tryd.func33, rfl, by kernel_rfl, by kernel_rfl, Tryd.call33⟩
end Go.Proofs.YtkfldbimfbacmaaDoor
/- Abstract code, part 2. -/
namespace Go.Proofs.YtkfldbimfbacmaaDoor
open Go Go.Ab Go.Proofs
set_option maxRecDepth 100000
def A34l0 : ACode :=
 (.seq (.region [⟨(some 12), none, .op (.bin .lss (.tmp 11) (.tmp 10))⟩])
 (.seq (.cond (.tmp 12) .skip (.exit 0))
 (.seq (.block 1 (.seq (.region [⟨(some 13), none, .op (.idxA 6 (.tmp 9) (.tmp 11))⟩,
 ⟨(some 14), none, .op (.load 6 true (.tmp 13))⟩,
 ⟨(some 5), none, .op (.alloc [(.int .u8 0), (.int .i64 0), (.int .u64 0), (.str []), (.int .u8 0), .nilS])⟩,
 ⟨none, none, .op (.store 6 (.tmp 5) (.tmp 14))⟩])
 (.seq (.region [⟨(some 16), none, .op (.load 6 true (.tmp 5))⟩,
 ⟨(some 17), none, .call (.func 34) [(.tmp 16)]⟩,
 ⟨(some 15), none, .op (.move (.tmp 17))⟩,
 ⟨(some 18), none, .op (.ext (.tmp 15) 0)⟩,
 ⟨(some 19), none, .op (.ext (.tmp 15) 1)⟩,
 ⟨(some 6), none, .op (.move (.tmp 18))⟩,
 ⟨(some 7), none, .op (.move (.tmp 19))⟩])
 (.region [⟨(some 20), none, .op (.move (.tmp 2))⟩,
 ⟨(some 21), none, .op (.move (.tmp 6))⟩,
 ⟨(some 22), none, .op (.bin .add (.tmp 20) (.tmp 21))⟩,
 ⟨(some 23), none, .op (.move (.tmp 3))⟩,
 ⟨(some 24), none, .op (.move (.tmp 7))⟩,
 ⟨(some 25), none, .op (.mx (.tmp 23) (.tmp 24))⟩,
 ⟨(some 2), none, .op (.move (.tmp 22))⟩,
 ⟨(some 3), none, .op (.move (.tmp 25))⟩]))))
 (.region [⟨(some 26), none, .op (.bin .add (.tmp 11) (.const (.int .i64 1)))⟩,
 ⟨(some 11), none, .op (.move (.tmp 26))⟩]))))
def A34 : ACode :=
 (.seq (.region [⟨(some 1), none, .op (.box (.tmp 0))⟩,
 ⟨(some 2), none, .op (.move (.const (.int .i64 0)))⟩,
 ⟨(some 3), none, .op (.move (.const (.int .i64 0)))⟩])
 (.seq (.seq (.region [⟨(some 8), none, .op (.fieldA 5 (.tmp 1))⟩,
 ⟨(some 9), none, .op (.load 1 false (.tmp 8))⟩,
 ⟨(some 10), none, .op (.len (.tmp 9))⟩,
 ⟨(some 11), none, .op (.move (.const (.int .i64 0)))⟩])
 (.block 0 (.loop A34l0)))
 (.seq (.region [⟨(some 27), none, .op (.move (.tmp 2))⟩,
 ⟨(some 28), none, .op (.bin .add (.tmp 27) (.const (.int .i64 1)))⟩,
 ⟨(some 29), none, .op (.move (.tmp 3))⟩,
 ⟨(some 30), none, .op (.bin .add (.tmp 29) (.const (.int .i64 1)))⟩,
 ⟨(some 2), none, .op (.move (.tmp 28))⟩,
 ⟨(some 3), none, .op (.move (.tmp 30))⟩])
 .ret)))
def R34 : List RV := [.tmp 2, .tmp 3]
theorem is34 : Is Tryd.prog (fun _ _ => false) 34 31 A34 R34 := ⟨Tryd.f34, Tryd.func34, rfl, by kernel_rfl, by kernel_rfl, Tryd.call34⟩
def A35 : ACode :=
 (.seq (.region [⟨(some 2), none, .op (.move (.const (.bool false)))⟩])
 (.seq (.region [⟨(some 3), none, .op (.move (.tmp 0))⟩,
 ⟨(some 4), none, .call (.func 63) [(.tmp 3)]⟩,
 ⟨(some 5), none, .op (.bin .neq (.tmp 4) (.const (.string ⟨#[]⟩)))⟩,
 ⟨(some 2), none, .op (.move (.tmp 5))⟩])
 .ret))
def R35 : List RV := [.tmp 2]
theorem is35 : Is Tryd.prog (fun _ _ => false) 35 6 A35 R35 := ⟨Tryd.f35, Tryd.func35, rfl, by kernel_rfl, by kernel_rfl, Tryd.call35⟩
def A36 : ACode :=
 (.seq (.region [⟨(some 4), none, .op (.move (.const (.bool false)))⟩])
 (.seq (.region [⟨(some 5), none, .op (.move (.tmp 0))⟩,
 ⟨(some 6), none, .call (.func 64) [(.tmp 5)]⟩,
 ⟨(some 7), none, .op (.move (.tmp 6))⟩,
 ⟨(some 8), (some (7, true)), .op (.move (.tmp 1))⟩,
 ⟨(some 9), (some (7, true)), .op (.move (.tmp 0))⟩,
 ⟨(some 10), (some (7, true)), .call (.func 65) [(.tmp 9)]⟩,
 ⟨(some 11), (some (7, true)), .op (.bin .leq (.tmp 8) (.tmp 10))⟩,
 ⟨(some 12), none, .op (.pick (.tmp 7) (.tmp 11) (.const (.bool false)))⟩,
 ⟨(some 4), none, .op (.move (.tmp 12))⟩])
 .ret))
def R36 : List RV := [.tmp 4]
theorem is36 : Is Tryd.prog (fun _ _ => false) 36 13 A36 R36 := ⟨Tryd.f36, Tryd.func36, rfl, by kernel_rfl, by kernel_rfl, Tryd.call36⟩
def A37 : ACode :=
 (.seq (.region [⟨(some 2), none, .op (.move (.const (.bool false)))⟩])
 (.seq (.region [⟨(some 3), none, .op (.move (.tmp 0))⟩,
 ⟨(some 4), none, .call (.func 66) [(.tmp 3)]⟩,
 ⟨(some 5), none, .op (.move (.tmp 4))⟩,
 ⟨(some 6), (some (5, true)), .call (.func 68) []⟩,
 ⟨(some 7), (some (5, true)), .op (.move (.tmp 0))⟩,
 ⟨(some 8), (some (5, true)), .call (.func 67) [(.tmp 6), (.tmp 7)]⟩,
 ⟨(some 9), (some (5, true)), .op (.un .not (.tmp 8))⟩,
 ⟨(some 10), none, .op (.pick (.tmp 5) (.tmp 9) (.const (.bool false)))⟩,
 ⟨(some 2), none, .op (.move (.tmp 10))⟩])
 .ret))
def R37 : List RV := [.tmp 2]
theorem is37 : Is Tryd.prog (fun _ _ => false) 37 11 A37 R37 := ⟨Tryd.f37, Tryd.func37, rfl, by kernel_rfl, by kernel_rfl, Tryd.call37⟩
def A38 : ACode :=
 (.seq (.region [⟨(some 3), none, .op (.box (.tmp 1))⟩,
 ⟨(some 4), none, .op (.move (.const (.bool false)))⟩])
 (.seq (.region [⟨(some 5), none, .op (.move (.tmp 0))⟩,
 ⟨(some 6), none, .op (.mkfn (.func 70) [(.tmp 3)])⟩,
 ⟨(some 7), none, .call (.func 69) [(.tmp 5), (.tmp 6)]⟩,
 ⟨(some 8), none, .op (.un .not (.tmp 7))⟩,
 ⟨(some 4), none, .op (.move (.tmp 8))⟩])
 .ret))
def R38 : List RV := [.tmp 4]
theorem is38 : Is Tryd.prog (fun _ _ => false) 38 9 A38 R38 := ⟨Tryd.f38, Tryd.func38, rfl, by kernel_rfl, by kernel_rfl, Tryd.call38⟩
def A39l0 : ACode :=
 (.seq (.region [⟨(some 13), none, .op (.bin .lss (.tmp 12) (.tmp 11))⟩])
 (.seq (.cond (.tmp 13) .skip (.exit 0))
 (.seq (.block 1 (.seq (.region [⟨(some 14), none, .op (.idxA 2 (.tmp 10) (.tmp 12))⟩,
 ⟨(some 15), none, .op (.load 2 true (.tmp 14))⟩,
 ⟨(some 6), none, .op (.alloc [(.str []), (.int .i64 0)])⟩,
 ⟨none, none, .op (.store 2 (.tmp 6) (.tmp 15))⟩])
 (.seq (.region [⟨(some 16), none, .op (.fieldA 0 (.tmp 6))⟩,
 ⟨(some 17), none, .op (.load 1 false (.tmp 16))⟩,
 ⟨(some 18), none, .op (.move (.tmp 1))⟩,
 ⟨(some 19), none, .op (.bin .eql (.tmp 17) (.tmp 18))⟩])
 (.cond (.tmp 19) (.seq (.region [⟨(some 20), none, .op (.fieldA 1 (.tmp 6))⟩,
 ⟨(some 21), none, .op (.load 1 false (.tmp 20))⟩,
 ⟨(some 4), none, .op (.move (.tmp 21))⟩])
 .ret) .skip))))
 (.region [⟨(some 22), none, .op (.bin .add (.tmp 12) (.const (.int .i64 1)))⟩,
 ⟨(some 12), none, .op (.move (.tmp 22))⟩]))))
def A39 : ACode :=
 (.seq (.region [⟨(some 4), none, .op (.move (.const (.int .i64 0)))⟩])
 (.seq (.seq (.region [⟨(some 7), none, .op (.move (.tmp 0))⟩,
 ⟨(some 8), none, .op (.nilck (.tmp 7))⟩,
 ⟨(some 9), none, .op (.fieldA 6 (.tmp 8))⟩,
 ⟨(some 10), none, .op (.load 1 false (.tmp 9))⟩,
 ⟨(some 11), none, .op (.len (.tmp 10))⟩,
 ⟨(some 12), none, .op (.move (.const (.int .i64 0)))⟩])
 (.block 0 (.loop A39l0)))
 (.seq (.region [⟨(some 4), none, .op (.move (.const (.int .i64 0)))⟩])
 .ret)))
def R39 : List RV := [.tmp 4]
theorem is39 : Is Tryd.prog (fun _ _ => false) 39 23 A39 R39 := ⟨Tryd.f39, Tryd.func39, rfl, by kernel_rfl, by kernel_rfl, Tryd.call39⟩
def A40 : ACode :=
 (.seq (.region [⟨(some 2), none, .op (.box (.tmp 0))⟩,
 ⟨(some 3), none, .op (.box (.tmp 1))⟩,
 ⟨(some 4), none, .op (.move (.const (.int .i64 0)))⟩])
 (.seq (.region [⟨(some 5), none, .op (.fieldA 0 (.tmp 2))⟩,
 ⟨(some 6), none, .op (.load 1 false (.tmp 5))⟩,
 ⟨(some 7), none, .op (.mkfn (.func 72) [(.tmp 3)])⟩,
 ⟨(some 8), none, .call (.func 71) [(.tmp 6), (.tmp 7)]⟩,
 ⟨(some 4), none, .op (.move (.tmp 8))⟩])
 .ret))
def R40 : List RV := [.tmp 4]
theorem is40 : Is Tryd.prog (fun _ _ => false) 40 9 A40 R40 := ⟨Tryd.f40, Tryd.func40, rfl, by kernel_rfl, by kernel_rfl, Tryd.call40⟩
def A41 : ACode :=
 (.seq (.region [⟨(some 0), none, .op (.move (.const (.map none)))⟩])
 (.seq (.region [⟨(some 1), none, .op (.m .mk)⟩,
 ⟨none, none, .op (.m (.set .str (.tmp 1) (.const (.string ⟨#[98, 105, 116]⟩)) (.const (.int .i64 1))))⟩,
 ⟨none, none, .op (.m (.set .str (.tmp 1) (.const (.string ⟨#[98, 121, 116, 101]⟩)) (.const (.int .i64 8))))⟩,
 ⟨none, none, .op (.m (.set .str (.tmp 1) (.const (.string ⟨#[104, 97, 108, 102]⟩)) (.const (.int .i64 16))))⟩,
 ⟨none, none, .op (.m (.set .str (.tmp 1) (.const (.string ⟨#[119, 111, 114, 100]⟩)) (.const (.int .i64 32))))⟩,
 ⟨(some 2), none, .op (.move (.tmp 1))⟩,
 ⟨(some 0), none, .op (.move (.tmp 2))⟩])
 .ret))
def R41 : List RV := [.tmp 0]
theorem is41 : Is Tryd.prog (fun _ _ => false) 41 3 A41 R41 := ⟨Tryd.f41, Tryd.func41, rfl, by kernel_rfl, by kernel_rfl, Tryd.call41⟩
def A42l0 : ACode :=
 (.seq (.seq (.region [⟨(some 5), none, .op (.move (.tmp 4))⟩,
 ⟨(some 6), none, .op (.fieldA 5 (.tmp 1))⟩,
 ⟨(some 7), none, .op (.load 1 false (.tmp 6))⟩,
 ⟨(some 8), none, .op (.len (.tmp 7))⟩,
 ⟨(some 9), none, .op (.bin .lss (.tmp 5) (.tmp 8))⟩])
 (.cond (.tmp 9) .skip (.exit 0)))
 (.seq (.block 1 (.region [⟨(some 12), none, .op (.move (.tmp 3))⟩,
 ⟨(some 13), none, .op (.fieldA 5 (.tmp 1))⟩,
 ⟨(some 14), none, .op (.load 1 false (.tmp 13))⟩,
 ⟨(some 15), none, .op (.move (.tmp 4))⟩,
 ⟨(some 16), none, .op (.idxA 6 (.tmp 14) (.tmp 15))⟩,
 ⟨(some 17), none, .op (.load 6 true (.tmp 16))⟩,
 ⟨(some 18), none, .call (.func 42) [(.tmp 17)]⟩,
 ⟨(some 19), none, .op (.bin .add (.tmp 12) (.tmp 18))⟩,
 ⟨(some 3), none, .op (.move (.tmp 19))⟩]))
 (.region [⟨(some 10), none, .op (.move (.tmp 4))⟩,
 ⟨(some 11), none, .op (.bin .add (.tmp 10) (.const (.int .i64 1)))⟩,
 ⟨(some 4), none, .op (.move (.tmp 11))⟩])))
def A42 : ACode :=
 (.seq (.region [⟨(some 1), none, .op (.box (.tmp 0))⟩,
 ⟨(some 2), none, .op (.move (.const (.int .i64 0)))⟩])
 (.seq (.region [⟨(some 3), none, .op (.move (.const (.int .i64 1)))⟩])
 (.seq (.seq (.region [⟨(some 4), none, .op (.move (.const (.int .i64 0)))⟩])
 (.block 0 (.loop A42l0)))
 (.seq (.region [⟨(some 20), none, .op (.move (.tmp 3))⟩,
 ⟨(some 2), none, .op (.move (.tmp 20))⟩])
 .ret))))
def R42 : List RV := [.tmp 2]
theorem is42 : Is Tryd.prog (fun _ _ => false) 42 21 A42 R42 := ⟨Tryd.f42, Tryd.func42, rfl, by kernel_rfl, by kernel_rfl, Tryd.call42⟩
def A43l0 : ACode :=
 (.seq (.seq (.region [⟨(some 5), none, .op (.move (.tmp 4))⟩,
 ⟨(some 6), none, .op (.fieldA 5 (.tmp 1))⟩,
 ⟨(some 7), none, .op (.load 1 false (.tmp 6))⟩,
 ⟨(some 8), none, .op (.len (.tmp 7))⟩,
 ⟨(some 9), none, .op (.bin .lss (.tmp 5) (.tmp 8))⟩])
 (.cond (.tmp 9) .skip (.exit 0)))
 (.seq (.block 1 (.region [⟨(some 12), none, .op (.move (.tmp 3))⟩,
 ⟨(some 13), none, .op (.fieldA 5 (.tmp 1))⟩,
 ⟨(some 14), none, .op (.load 1 false (.tmp 13))⟩,
 ⟨(some 15), none, .op (.move (.tmp 4))⟩,
 ⟨(some 16), none, .op (.idxA 6 (.tmp 14) (.tmp 15))⟩,
 ⟨(some 17), none, .op (.load 6 true (.tmp 16))⟩,
 ⟨(some 18), none, .call (.func 43) [(.tmp 17)]⟩,
 ⟨(some 19), none, .op (.mx (.tmp 12) (.tmp 18))⟩,
 ⟨(some 3), none, .op (.move (.tmp 19))⟩]))
 (.region [⟨(some 10), none, .op (.move (.tmp 4))⟩,
 ⟨(some 11), none, .op (.bin .add (.tmp 10) (.const (.int .i64 1)))⟩,
 ⟨(some 4), none, .op (.move (.tmp 11))⟩])))
def A43 : ACode :=
 (.seq (.region [⟨(some 1), none, .op (.box (.tmp 0))⟩,
 ⟨(some 2), none, .op (.move (.const (.int .i64 0)))⟩])
 (.seq (.region [⟨(some 3), none, .op (.move (.const (.int .i64 0)))⟩])
 (.seq (.seq (.region [⟨(some 4), none, .op (.move (.const (.int .i64 0)))⟩])
 (.block 0 (.loop A43l0)))
 (.seq (.region [⟨(some 20), none, .op (.move (.tmp 3))⟩,
 ⟨(some 21), none, .op (.bin .add (.tmp 20) (.const (.int .i64 1)))⟩,
 ⟨(some 2), none, .op (.move (.tmp 21))⟩])
 .ret))))
def R43 : List RV := [.tmp 2]
theorem is43 : Is Tryd.prog (fun _ _ => false) 43 22 A43 R43 := ⟨Tryd.f43, Tryd.func43, rfl, by kernel_rfl, by kernel_rfl, Tryd.call43⟩
def A44 : ACode :=
 (.seq (.region [⟨(some 2), none, .op (.move (.const (.bool false)))⟩])
 (.seq (.region [⟨(some 3), none, .op (.move (.tmp 0))⟩,
 ⟨(some 4), none, .op (.bin .eql (.tmp 3) (.const (.int .i64 1)))⟩,
 ⟨(some 5), none, .op (.move (.tmp 4))⟩,
 ⟨(some 6), (some (5, false)), .op (.move (.tmp 0))⟩,
 ⟨(some 7), (some (5, false)), .op (.bin .eql (.tmp 6) (.const (.int .i64 8)))⟩,
 ⟨(some 8), none, .op (.pick (.tmp 5) (.const (.bool true)) (.tmp 7))⟩,
 ⟨(some 9), none, .op (.move (.tmp 8))⟩,
 ⟨(some 10), (some (9, false)), .op (.move (.tmp 0))⟩,
 ⟨(some 11), (some (9, false)), .op (.bin .eql (.tmp 10) (.const (.int .i64 16)))⟩,
 ⟨(some 12), none, .op (.pick (.tmp 9) (.const (.bool true)) (.tmp 11))⟩,
 ⟨(some 13), none, .op (.move (.tmp 12))⟩,
 ⟨(some 14), (some (13, false)), .op (.move (.tmp 0))⟩,
 ⟨(some 15), (some (13, false)), .op (.bin .eql (.tmp 14) (.const (.int .i64 32)))⟩,
 ⟨(some 16), none, .op (.pick (.tmp 13) (.const (.bool true)) (.tmp 15))⟩,
 ⟨(some 2), none, .op (.move (.tmp 16))⟩])
 .ret))
def R44 : List RV := [.tmp 2]
theorem is44 : Is Tryd.prog (fun _ _ => false) 44 17 A44 R44 := ⟨Tryd.f44, Tryd.func44, rfl, by kernel_rfl, by kernel_rfl, Tryd.call44⟩
def A45 : ACode :=
 (.seq (.region [⟨(some 2), none, .op (.move (.const (.bool false)))⟩])
 (.seq (.region [⟨(some 3), none, .op (.move (.tmp 0))⟩,
 ⟨(some 4), none, .call (.func 73) [(.tmp 3)]⟩,
 ⟨(some 5), none, .op (.move (.tmp 4))⟩,
 ⟨(some 6), (some (5, true)), .op (.move (.tmp 0))⟩,
 ⟨(some 7), (some (5, true)), .call (.func 74) [(.tmp 6)]⟩,
 ⟨(some 8), (some (5, true)), .op (.un .not (.tmp 7))⟩,
 ⟨(some 9), none, .op (.pick (.tmp 5) (.tmp 8) (.const (.bool false)))⟩,
 ⟨(some 2), none, .op (.move (.tmp 9))⟩])
 .ret))
def R45 : List RV := [.tmp 2]
theorem is45 : Is Tryd.prog (fun _ _ => false) 45 10 A45 R45 := ⟨Tryd.f45, Tryd.func45, rfl, by kernel_rfl, by kernel_rfl, Tryd.call45⟩
def A46 : ACode :=
 (.seq (.region [⟨(some 2), none, .op (.move (.const (.string ⟨#[]⟩)))⟩])
 (.seq (.seq (.region [⟨(some 3), none, .op (.move (.tmp 0))⟩])
 (.block 0 (.seq (.region [⟨(some 5), none, .op (.bin .eql (.tmp 3) (.const (.int .u8 5)))⟩,
 ⟨(some 4), none, .op (.move (.tmp 5))⟩])
 (.cond (.tmp 4) (.seq (.region [⟨(some 2), none, .op (.move (.const (.string ⟨#[43]⟩)))⟩])
 .ret) (.seq (.region [⟨(some 7), none, .op (.bin .eql (.tmp 3) (.const (.int .u8 6)))⟩,
 ⟨(some 6), none, .op (.move (.tmp 7))⟩])
 (.cond (.tmp 6) (.seq (.region [⟨(some 2), none, .op (.move (.const (.string ⟨#[45]⟩)))⟩])
 .ret) (.seq (.region [⟨(some 9), none, .op (.bin .eql (.tmp 3) (.const (.int .u8 7)))⟩,
 ⟨(some 8), none, .op (.move (.tmp 9))⟩])
 (.cond (.tmp 8) (.seq (.region [⟨(some 2), none, .op (.move (.const (.string ⟨#[42]⟩)))⟩])
 .ret) (.seq (.region [⟨(some 11), none, .op (.bin .eql (.tmp 3) (.const (.int .u8 8)))⟩,
 ⟨(some 10), none, .op (.move (.tmp 11))⟩])
 (.cond (.tmp 10) (.seq (.region [⟨(some 2), none, .op (.move (.const (.string ⟨#[38]⟩)))⟩])
 .ret) (.seq (.region [⟨(some 13), none, .op (.bin .eql (.tmp 3) (.const (.int .u8 9)))⟩,
 ⟨(some 12), none, .op (.move (.tmp 13))⟩])
 (.cond (.tmp 12) (.seq (.region [⟨(some 2), none, .op (.move (.const (.string ⟨#[124]⟩)))⟩])
 .ret) (.seq (.region [⟨(some 15), none, .op (.bin .eql (.tmp 3) (.const (.int .u8 10)))⟩,
 ⟨(some 14), none, .op (.move (.tmp 15))⟩])
 (.cond (.tmp 14) (.seq (.region [⟨(some 2), none, .op (.move (.const (.string ⟨#[94]⟩)))⟩])
 .ret) (.seq (.region [⟨(some 17), none, .op (.bin .eql (.tmp 3) (.const (.int .u8 11)))⟩,
 ⟨(some 16), none, .op (.move (.tmp 17))⟩])
 (.cond (.tmp 16) (.seq (.region [⟨(some 2), none, .op (.move (.const (.string ⟨#[60, 60]⟩)))⟩])
 .ret) (.seq (.region [⟨(some 19), none, .op (.bin .eql (.tmp 3) (.const (.int .u8 12)))⟩,
 ⟨(some 18), none, .op (.move (.tmp 19))⟩])
 (.cond (.tmp 18) (.seq (.region [⟨(some 2), none, .op (.move (.const (.string ⟨#[62, 62]⟩)))⟩])
 .ret) (.seq (.region [⟨(some 21), none, .op (.bin .eql (.tmp 3) (.const (.int .u8 13)))⟩,
 ⟨(some 20), none, .op (.move (.tmp 21))⟩])
 (.cond (.tmp 20) (.seq (.region [⟨(some 2), none, .op (.move (.const (.string ⟨#[126, 62]⟩)))⟩])
 .ret) (.seq (.region [⟨(some 23), none, .op (.bin .eql (.tmp 3) (.const (.int .u8 14)))⟩,
 ⟨(some 22), none, .op (.move (.tmp 23))⟩])
 (.cond (.tmp 22) (.seq (.region [⟨(some 2), none, .op (.move (.const (.string ⟨#[47]⟩)))⟩])
 .ret) (.seq (.region [⟨(some 25), none, .op (.bin .eql (.tmp 3) (.const (.int .u8 15)))⟩,
 ⟨(some 24), none, .op (.move (.tmp 25))⟩])
 (.cond (.tmp 24) (.seq (.region [⟨(some 2), none, .op (.move (.const (.string ⟨#[37]⟩)))⟩])
 .ret) (.seq (.region [⟨(some 27), none, .op (.bin .eql (.tmp 3) (.const (.int .u8 16)))⟩,
 ⟨(some 26), none, .op (.move (.tmp 27))⟩])
 (.cond (.tmp 26) (.seq (.region [⟨(some 2), none, .op (.move (.const (.string ⟨#[61, 61]⟩)))⟩])
 .ret) (.seq (.region [⟨(some 29), none, .op (.bin .eql (.tmp 3) (.const (.int .u8 17)))⟩,
 ⟨(some 28), none, .op (.move (.tmp 29))⟩])
 (.cond (.tmp 28) (.seq (.region [⟨(some 2), none, .op (.move (.const (.string ⟨#[60]⟩)))⟩])
 .ret) (.seq (.region [⟨(some 31), none, .op (.bin .eql (.tmp 3) (.const (.int .u8 18)))⟩,
 ⟨(some 30), none, .op (.move (.tmp 31))⟩])
 (.cond (.tmp 30) (.seq (.region [⟨(some 2), none, .op (.move (.const (.string ⟨#[60, 126]⟩)))⟩])
 .ret) .skip))))))))))))))))))))))))))))))
 (.seq (.region [⟨(some 2), none, .op (.move (.const (.string ⟨#[]⟩)))⟩])
 .ret)))
def R46 : List RV := [.tmp 2]
theorem is46 : Is Tryd.prog (fun _ _ => false) 46 32 A46 R46 := ⟨Tryd.f46, Tryd.func46, rfl, by kernel_rfl, by kernel_rfl, Tryd.call46⟩
def A47 : ACode :=
 (.seq (.region [⟨(some 6), none, .op (.move (.tmp 1))⟩,
 ⟨(some 7), none, .op (.move (.tmp 6))⟩,
 ⟨(some 8), (some (7, true)), .op (.move (.tmp 0))⟩,
 ⟨(some 9), (some (7, true)), .op (.nilck (.tmp 8))⟩,
 ⟨(some 10), (some (7, true)), .op (.fieldA 4 (.tmp 9))⟩,
 ⟨(some 11), (some (7, true)), .op (.load 1 false (.tmp 10))⟩,
 ⟨(some 12), (some (7, true)), .op (.bin .eql (.tmp 11) (.const (.int .i64 0)))⟩,
 ⟨(some 13), none, .op (.pick (.tmp 7) (.tmp 12) (.const (.bool false)))⟩])
 (.cond (.tmp 13) (.region [⟨(some 14), none, .op (.move (.tmp 0))⟩,
 ⟨(some 15), none, .op (.move (.tmp 2))⟩,
 ⟨(some 16), none, .op (.nilck (.tmp 14))⟩,
 ⟨(some 17), none, .op (.fieldA 4 (.tmp 16))⟩,
 ⟨none, none, .op (.store 1 (.tmp 17) (.tmp 15))⟩]) .skip))
def R47 : List RV := []
theorem is47 : Is Tryd.prog (fun _ _ => false) 47 18 A47 R47 := ⟨Tryd.f47, Tryd.func47, rfl, by kernel_rfl, by kernel_rfl, Tryd.call47⟩
def A48l0 : ACode :=
 (.seq (.seq (.region [⟨(some 6), none, .op (.move (.tmp 5))⟩,
 ⟨(some 7), none, .op (.move (.tmp 0))⟩,
 ⟨(some 8), none, .op (.nilck (.tmp 7))⟩,
 ⟨(some 9), none, .op (.fieldA 3 (.tmp 8))⟩,
 ⟨(some 10), none, .op (.load 1 false (.tmp 9))⟩,
 ⟨(some 11), none, .op (.len (.tmp 10))⟩,
 ⟨(some 12), none, .op (.bin .lss (.tmp 6) (.tmp 11))⟩])
 (.cond (.tmp 12) .skip (.exit 0)))
 (.seq (.block 1 (.seq (.region [⟨(some 15), none, .op (.move (.tmp 0))⟩,
 ⟨(some 16), none, .op (.nilck (.tmp 15))⟩,
 ⟨(some 17), none, .op (.fieldA 3 (.tmp 16))⟩,
 ⟨(some 18), none, .op (.load 1 false (.tmp 17))⟩,
 ⟨(some 19), none, .op (.move (.tmp 5))⟩,
 ⟨(some 20), none, .op (.idxA 2 (.tmp 18) (.tmp 19))⟩,
 ⟨(some 21), none, .op (.fieldA 0 (.tmp 20))⟩,
 ⟨(some 22), none, .op (.load 1 false (.tmp 21))⟩,
 ⟨(some 23), none, .op (.move (.tmp 1))⟩,
 ⟨(some 24), none, .op (.bin .eql (.tmp 22) (.tmp 23))⟩])
 (.cond (.tmp 24) (.seq (.region [⟨(some 25), none, .op (.move (.tmp 0))⟩,
 ⟨(some 26), none, .op (.nilck (.tmp 25))⟩,
 ⟨(some 27), none, .op (.fieldA 3 (.tmp 26))⟩,
 ⟨(some 28), none, .op (.load 1 false (.tmp 27))⟩,
 ⟨(some 29), none, .op (.move (.tmp 5))⟩,
 ⟨(some 30), none, .op (.idxA 2 (.tmp 28) (.tmp 29))⟩,
 ⟨(some 31), none, .op (.fieldA 1 (.tmp 30))⟩,
 ⟨(some 32), none, .op (.load 1 false (.tmp 31))⟩,
 ⟨(some 4), none, .op (.move (.tmp 32))⟩])
 .ret) .skip)))
 (.region [⟨(some 13), none, .op (.move (.tmp 5))⟩,
 ⟨(some 14), none, .op (.bin .add (.tmp 13) (.const (.int .i64 1)))⟩,
 ⟨(some 5), none, .op (.move (.tmp 14))⟩])))
def A48 : ACode :=
 (.seq (.region [⟨(some 4), none, .op (.move (.const (.int .i64 0)))⟩])
 (.seq (.seq (.region [⟨(some 5), none, .op (.move (.const (.int .i64 0)))⟩])
 (.block 0 (.loop A48l0)))
 (.seq (.region [⟨(some 4), none, .op (.move (.const (.int .i64 0)))⟩])
 .ret)))
def R48 : List RV := [.tmp 4]
theorem is48 : Is Tryd.prog (fun _ _ => false) 48 33 A48 R48 := ⟨Tryd.f48, Tryd.func48, rfl, by kernel_rfl, by kernel_rfl, Tryd.call48⟩
def A49l0 : ACode :=
 (.seq (.seq (.region [⟨(some 6), none, .op (.move (.tmp 5))⟩,
 ⟨(some 7), none, .op (.fieldA 0 (.tmp 2))⟩,
 ⟨(some 8), none, .op (.load 1 false (.tmp 7))⟩,
 ⟨(some 9), none, .op (.len (.tmp 8))⟩,
 ⟨(some 10), none, .op (.bin .lss (.tmp 6) (.tmp 9))⟩])
 (.cond (.tmp 10) .skip (.exit 0)))
 (.seq (.block 1 (.seq (.region [⟨(some 13), none, .op (.fieldA 0 (.tmp 2))⟩,
 ⟨(some 14), none, .op (.load 1 false (.tmp 13))⟩,
 ⟨(some 15), none, .op (.move (.tmp 5))⟩,
 ⟨(some 16), none, .op (.idxA 3 (.tmp 14) (.tmp 15))⟩,
 ⟨(some 17), none, .op (.fieldA 0 (.tmp 16))⟩,
 ⟨(some 18), none, .op (.load 1 false (.tmp 17))⟩,
 ⟨(some 19), none, .op (.move (.tmp 1))⟩,
 ⟨(some 20), none, .op (.bin .eql (.tmp 18) (.tmp 19))⟩])
 (.cond (.tmp 20) (.seq (.region [⟨(some 21), none, .op (.move (.tmp 5))⟩,
 ⟨(some 4), none, .op (.move (.tmp 21))⟩])
 .ret) .skip)))
 (.region [⟨(some 11), none, .op (.move (.tmp 5))⟩,
 ⟨(some 12), none, .op (.bin .add (.tmp 11) (.const (.int .i64 1)))⟩,
 ⟨(some 5), none, .op (.move (.tmp 12))⟩])))
def A49 : ACode :=
 (.seq (.region [⟨(some 2), none, .op (.box (.tmp 0))⟩,
 ⟨(some 4), none, .op (.move (.const (.int .i64 0)))⟩])
 (.seq (.seq (.region [⟨(some 5), none, .op (.move (.const (.int .i64 0)))⟩])
 (.block 0 (.loop A49l0)))
 (.seq (.region [⟨(some 4), none, .op (.move (.const (.int .i64 (-1))))⟩])
 .ret)))
def R49 : List RV := [.tmp 4]
theorem is49 : Is Tryd.prog (fun _ _ => false) 49 22 A49 R49 := ⟨Tryd.f49, Tryd.func49, rfl, by kernel_rfl, by kernel_rfl, Tryd.call49⟩
def A50l0 : ACode :=
 (.seq (.region [⟨(some 11), none, .op (.bin .lss (.tmp 10) (.tmp 9))⟩])
 (.seq (.cond (.tmp 11) .skip (.exit 0))
 (.seq (.block 1 (.seq (.region [⟨(some 12), none, .op (.idxA 7 (.tmp 8) (.tmp 10))⟩,
 ⟨(some 13), none, .op (.load 7 true (.tmp 12))⟩,
 ⟨(some 7), none, .op (.alloc [(.int .u8 0), (.str []), (.str []), (.int .i64 0), .nilS, .nilS, .nilS])⟩,
 ⟨none, none, .op (.store 7 (.tmp 7) (.tmp 13))⟩])
 (.seq (.region [⟨(some 14), none, .op (.move (.tmp 0))⟩,
 ⟨(some 15), none, .op (.nilck (.tmp 14))⟩,
 ⟨(some 16), none, .op (.fieldA 0 (.tmp 15))⟩,
 ⟨(some 17), none, .op (.load 1 false (.tmp 16))⟩,
 ⟨(some 18), none, .op (.bin .add (.tmp 17) (.const (.int .i64 1)))⟩,
 ⟨(some 19), none, .op (.nilck (.tmp 14))⟩,
 ⟨(some 20), none, .op (.fieldA 0 (.tmp 19))⟩,
 ⟨none, none, .op (.store 1 (.tmp 20) (.tmp 18))⟩])
 (.seq (.region [⟨(some 21), none, .op (.move (.tmp 0))⟩,
 ⟨(some 22), none, .op (.move (.tmp 0))⟩,
 ⟨(some 23), none, .op (.nilck (.tmp 22))⟩,
 ⟨(some 24), none, .op (.fieldA 2 (.tmp 23))⟩,
 ⟨(some 25), none, .op (.load 1 false (.tmp 24))⟩,
 ⟨(some 26), none, .op (.move (.tmp 2))⟩,
 ⟨(some 27), none, .op (.mx (.tmp 25) (.tmp 26))⟩,
 ⟨(some 28), none, .op (.nilck (.tmp 21))⟩,
 ⟨(some 29), none, .op (.fieldA 2 (.tmp 28))⟩,
 ⟨none, none, .op (.store 1 (.tmp 29) (.tmp 27))⟩])
 (.seq (.seq (.region [⟨(some 30), none, .op (.fieldA 0 (.tmp 7))⟩,
 ⟨(some 31), none, .op (.load 1 false (.tmp 30))⟩,
 ⟨(some 32), none, .op (.bin .eql (.tmp 31) (.const (.int .u8 1)))⟩])
 (.cond (.tmp 32) (.region [⟨(some 33), none, .op (.move (.tmp 0))⟩,
 ⟨(some 34), none, .op (.nilck (.tmp 33))⟩,
 ⟨(some 35), none, .op (.fieldA 1 (.tmp 34))⟩,
 ⟨(some 36), none, .op (.load 1 false (.tmp 35))⟩,
 ⟨(some 37), none, .op (.bin .add (.tmp 36) (.const (.int .i64 1)))⟩,
 ⟨(some 38), none, .op (.nilck (.tmp 33))⟩,
 ⟨(some 39), none, .op (.fieldA 1 (.tmp 38))⟩,
 ⟨none, none, .op (.store 1 (.tmp 39) (.tmp 37))⟩]) .skip))
 (.seq (.region [⟨(some 40), none, .op (.move (.tmp 0))⟩,
 ⟨(some 41), none, .op (.move (.tmp 0))⟩,
 ⟨(some 42), none, .op (.nilck (.tmp 41))⟩,
 ⟨(some 43), none, .op (.fieldA 3 (.tmp 42))⟩,
 ⟨(some 44), none, .op (.load 1 false (.tmp 43))⟩,
 ⟨(some 45), none, .op (.move (.tmp 44))⟩,
 ⟨(some 46), (some (45, false)), .op (.fieldA 4 (.tmp 7))⟩,
 ⟨(some 47), (some (45, false)), .op (.load 1 false (.tmp 46))⟩,
 ⟨(some 48), (some (45, false)), .call (.func 69) [(.tmp 47), (.func 17)]⟩,
 ⟨(some 49), none, .op (.pick (.tmp 45) (.const (.bool true)) (.tmp 48))⟩,
 ⟨(some 50), none, .op (.nilck (.tmp 40))⟩,
 ⟨(some 51), none, .op (.fieldA 3 (.tmp 50))⟩,
 ⟨none, none, .op (.store 1 (.tmp 51) (.tmp 49))⟩])
 (.seq (.region [⟨(some 52), none, .op (.move (.tmp 0))⟩,
 ⟨(some 53), none, .op (.fieldA 5 (.tmp 7))⟩,
 ⟨(some 54), none, .op (.load 1 false (.tmp 53))⟩,
 ⟨(some 55), none, .op (.move (.tmp 2))⟩,
 ⟨(some 56), none, .op (.bin .add (.tmp 55) (.const (.int .i64 1)))⟩,
 ⟨(some 57), none, .call (.func 50) [(.tmp 52), (.tmp 54), (.tmp 56)]⟩])
 (.region [⟨(some 58), none, .op (.move (.tmp 0))⟩,
 ⟨(some 59), none, .op (.fieldA 6 (.tmp 7))⟩,
 ⟨(some 60), none, .op (.load 1 false (.tmp 59))⟩,
 ⟨(some 61), none, .op (.move (.tmp 2))⟩,
 ⟨(some 62), none, .op (.bin .add (.tmp 61) (.const (.int .i64 1)))⟩,
 ⟨(some 63), none, .call (.func 50) [(.tmp 58), (.tmp 60), (.tmp 62)]⟩]))))))))
 (.region [⟨(some 64), none, .op (.bin .add (.tmp 10) (.const (.int .i64 1)))⟩,
 ⟨(some 10), none, .op (.move (.tmp 64))⟩]))))
def A50 : ACode :=
 (.seq (.region [⟨(some 8), none, .op (.move (.tmp 1))⟩,
 ⟨(some 9), none, .op (.len (.tmp 8))⟩,
 ⟨(some 10), none, .op (.move (.const (.int .i64 0)))⟩])
 (.block 0 (.loop A50l0)))
def R50 : List RV := []
theorem is50 : Is Tryd.prog (fun _ _ => false) 50 65 A50 R50 := ⟨Tryd.f50, Tryd.func50, rfl, by kernel_rfl, by kernel_rfl, Tryd.call50⟩
def A51 : ACode :=
 (.seq (.region [⟨(some 4), none, .op (.move (.const (.bool false)))⟩])
 (.seq (.region [⟨(some 5), none, .op (.move (.tmp 0))⟩,
 ⟨(some 6), none, .op (.move (.tmp 1))⟩,
 ⟨(some 7), none, .call (.func 71) [(.tmp 5), (.tmp 6)]⟩,
 ⟨(some 8), none, .op (.bin .geq (.tmp 7) (.const (.int .i64 0)))⟩,
 ⟨(some 4), none, .op (.move (.tmp 8))⟩])
 .ret))
def R51 : List RV := [.tmp 4]
theorem is51 : Is Tryd.prog (fun _ _ => false) 51 9 A51 R51 := ⟨Tryd.f51, Tryd.func51, rfl, by kernel_rfl, by kernel_rfl, Tryd.call51⟩
def A52 : ACode :=
 (.seq (.region [⟨(some 2), none, .op (.box (.tmp 0))⟩,
 ⟨(some 3), none, .op (.move (.const (.bool false)))⟩])
 (.seq (.region [⟨(some 4), none, .op (.load 1 false (.tmp 1))⟩,
 ⟨(some 5), none, .op (.load 3 true (.tmp 2))⟩,
 ⟨(some 6), none, .call (.tmp 4) [(.tmp 5)]⟩,
 ⟨(some 7), none, .op (.un .not (.tmp 6))⟩,
 ⟨(some 3), none, .op (.move (.tmp 7))⟩])
 .ret))
def R52 : List RV := [.tmp 3]
theorem is52 : Is Tryd.prog (fun _ _ => false) 52 8 A52 R52 := ⟨Tryd.f52, Tryd.func52, rfl, by kernel_rfl, by kernel_rfl, Tryd.call52⟩
def A53 : ACode :=
 (.seq (.region [⟨(some 4), none, .op (.move (.const (.bool false)))⟩])
 (.seq (.region [⟨(some 5), none, .op (.move (.tmp 0))⟩,
 ⟨(some 6), none, .op (.move (.tmp 1))⟩,
 ⟨(some 7), none, .call (.func 75) [(.tmp 5), (.tmp 6)]⟩,
 ⟨(some 8), none, .op (.bin .geq (.tmp 7) (.const (.int .i64 0)))⟩,
 ⟨(some 4), none, .op (.move (.tmp 8))⟩])
 .ret))
def R53 : List RV := [.tmp 4]
theorem is53 : Is Tryd.prog (fun _ _ => false) 53 9 A53 R53 := ⟨Tryd.f53, Tryd.func53, rfl, by kernel_rfl, by kernel_rfl, Tryd.call53⟩
def A54 : ACode :=
 (.seq (.region [⟨(some 2), none, .op (.box (.tmp 0))⟩,
 ⟨(some 3), none, .op (.move (.const (.bool false)))⟩])
 (.seq (.region [⟨(some 4), none, .op (.load 1 false (.tmp 1))⟩,
 ⟨(some 5), none, .op (.load 4 true (.tmp 2))⟩,
 ⟨(some 6), none, .call (.tmp 4) [(.tmp 5)]⟩,
 ⟨(some 7), none, .op (.un .not (.tmp 6))⟩,
 ⟨(some 3), none, .op (.move (.tmp 7))⟩])
 .ret))
def R54 : List RV := [.tmp 3]
theorem is54 : Is Tryd.prog (fun _ _ => false) 54 8 A54 R54 := ⟨Tryd.f54, Tryd.func54, rfl, by kernel_rfl, by kernel_rfl, Tryd.call54⟩
def A55 : ACode :=
 (.seq (.region [⟨(some 3), none, .op (.box (.tmp 1))⟩,
 ⟨(some 4), none, .op (.move (.const (.bool false)))⟩])
 (.seq (.region [⟨(some 5), none, .op (.move (.tmp 0))⟩,
 ⟨(some 6), none, .op (.mkfn (.func 77) [(.tmp 3)])⟩,
 ⟨(some 7), none, .call (.func 76) [(.tmp 5), (.tmp 6)]⟩,
 ⟨(some 8), none, .op (.un .not (.tmp 7))⟩,
 ⟨(some 4), none, .op (.move (.tmp 8))⟩])
 .ret))
def R55 : List RV := [.tmp 4]
theorem is55 : Is Tryd.prog (fun _ _ => false) 55 9 A55 R55 := ⟨Tryd.f55, Tryd.func55, rfl, by kernel_rfl, by kernel_rfl, Tryd.call55⟩
def A56 : ACode :=
 (.seq (.region [⟨(some 1), none, .op (.box (.tmp 0))⟩,
 ⟨(some 2), none, .op (.move (.const (.bool false)))⟩])
 (.seq (.region [⟨(some 3), none, .op (.fieldA 0 (.tmp 1))⟩,
 ⟨(some 4), none, .op (.load 1 false (.tmp 3))⟩,
 ⟨(some 5), none, .call (.func 37) [(.tmp 4)]⟩,
 ⟨(some 6), none, .op (.move (.tmp 5))⟩,
 ⟨(some 7), (some (6, true)), .op (.fieldA 1 (.tmp 1))⟩,
 ⟨(some 8), (some (6, true)), .op (.load 1 false (.tmp 7))⟩,
 ⟨(some 9), (some (6, true)), .call (.func 35) [(.tmp 8)]⟩,
 ⟨(some 10), none, .op (.pick (.tmp 6) (.tmp 9) (.const (.bool false)))⟩,
 ⟨(some 2), none, .op (.move (.tmp 10))⟩])
 .ret))
def R56 : List RV := [.tmp 2]
theorem is56 : Is Tryd.prog (fun _ _ => false) 56 11 A56 R56 := ⟨Tryd.f56, Tryd.func56, rfl, by kernel_rfl, by kernel_rfl, Tryd.call56⟩
def A57 : ACode :=
 (.seq (.region [⟨(some 3), none, .op (.box (.tmp 1))⟩,
 ⟨(some 4), none, .op (.move (.const (.bool false)))⟩])
 (.seq (.region [⟨(some 5), none, .op (.move (.tmp 0))⟩,
 ⟨(some 6), none, .op (.mkfn (.func 79) [(.tmp 3)])⟩,
 ⟨(some 7), none, .call (.func 78) [(.tmp 5), (.tmp 6)]⟩,
 ⟨(some 8), none, .op (.un .not (.tmp 7))⟩,
 ⟨(some 4), none, .op (.move (.tmp 8))⟩])
 .ret))
def R57 : List RV := [.tmp 4]
theorem is57 : Is Tryd.prog (fun _ _ => false) 57 9 A57 R57 := ⟨Tryd.f57, Tryd.func57, rfl, by kernel_rfl, by kernel_rfl, Tryd.call57⟩
def A58 : ACode :=
 (.seq (.region [⟨(some 1), none, .op (.box (.tmp 0))⟩,
 ⟨(some 2), none, .op (.move (.const (.bool false)))⟩])
 (.seq (.region [⟨(some 3), none, .op (.move (.const (.bool false)))⟩,
 ⟨(some 4), none, .op (.move (.const (.int .i64 1)))⟩])
 (.seq (.seq (.region [⟨(some 7), none, .op (.fieldA 0 (.tmp 1))⟩,
 ⟨(some 8), none, .op (.load 1 false (.tmp 7))⟩])
 (.block 0 (.seq (.seq (.region [⟨(some 10), none, .op (.bin .eql (.tmp 8) (.const (.int .u8 1)))⟩,
 ⟨(some 9), none, .op (.move (.tmp 10))⟩])
 (.cond (.tmp 9) .skip (.region [⟨(some 11), none, .op (.bin .eql (.tmp 8) (.const (.int .u8 2)))⟩,
 ⟨(some 9), none, .op (.move (.tmp 11))⟩])))
 (.cond (.tmp 9) (.region [⟨(some 3), none, .op (.move (.const (.bool true)))⟩]) (.seq (.region [⟨(some 13), none, .op (.bin .eql (.tmp 8) (.const (.int .u8 3)))⟩,
 ⟨(some 12), none, .op (.move (.tmp 13))⟩])
 (.cond (.tmp 12) (.region [⟨(some 3), none, .op (.move (.const (.bool true)))⟩,
 ⟨(some 4), none, .op (.move (.const (.int .i64 2)))⟩]) (.seq (.seq (.region [⟨(some 15), none, .op (.bin .eql (.tmp 8) (.const (.int .u8 4)))⟩,
 ⟨(some 14), none, .op (.move (.tmp 15))⟩])
 (.cond (.tmp 14) .skip (.seq (.region [⟨(some 16), none, .op (.bin .eql (.tmp 8) (.const (.int .u8 5)))⟩,
 ⟨(some 14), none, .op (.move (.tmp 16))⟩])
 (.cond (.tmp 14) .skip (.region [⟨(some 17), none, .op (.bin .eql (.tmp 8) (.const (.int .u8 7)))⟩,
 ⟨(some 14), none, .op (.move (.tmp 17))⟩])))))
 (.cond (.tmp 14) .skip (.seq (.region [⟨(some 19), none, .op (.bin .eql (.tmp 8) (.const (.int .u8 6)))⟩,
 ⟨(some 18), none, .op (.move (.tmp 19))⟩])
 (.cond (.tmp 18) (.region [⟨(some 4), none, .op (.move (.const (.int .i64 0)))⟩]) (.seq (.region [⟨(some 21), none, .op (.bin .eql (.tmp 8) (.const (.int .u8 8)))⟩,
 ⟨(some 20), none, .op (.move (.tmp 21))⟩])
 (.cond (.tmp 20) (.region [⟨(some 22), none, .op (.fieldA 4 (.tmp 1))⟩,
 ⟨(some 23), none, .op (.load 1 false (.tmp 22))⟩,
 ⟨(some 24), none, .op (.len (.tmp 23))⟩,
 ⟨(some 25), none, .op (.mn (.tmp 24) (.const (.int .i64 1)))⟩,
 ⟨(some 4), none, .op (.move (.tmp 25))⟩]) (.seq (.region [⟨(some 27), none, .op (.bin .eql (.tmp 8) (.const (.int .u8 9)))⟩,
 ⟨(some 26), none, .op (.move (.tmp 27))⟩])
 (.cond (.tmp 26) (.dregion [⟨0, ⟨(some 28), none, .op (.fieldA 1 (.tmp 1))⟩, []⟩,
 ⟨1, ⟨(some 29), none, .op (.load 1 false (.tmp 28))⟩, []⟩,
 ⟨2, ⟨(some 30), none, .op (.bin .neq (.tmp 29) (.const (.string ⟨#[]⟩)))⟩, []⟩,
 ⟨3, ⟨(some 31), none, .op (.fieldA 4 (.tmp 1))⟩, []⟩,
 ⟨4, ⟨(some 32), none, .op (.load 1 false (.tmp 31))⟩, []⟩,
 ⟨5, ⟨(some 33), none, .op (.len (.tmp 32))⟩, []⟩,
 ⟨6, ⟨(some 3), none, .op (.move (.tmp 30))⟩, []⟩,
 ⟨7, ⟨(some 4), none, .op (.move (.tmp 33))⟩, []⟩]) (.seq (.region [⟨(some 2), none, .op (.move (.const (.bool false)))⟩])
 .ret)))))))))))))))
 (.seq (.dregion [⟨0, ⟨(some 34), none, .op (.fieldA 0 (.tmp 1))⟩, []⟩,
 ⟨1, ⟨(some 35), none, .op (.load 1 false (.tmp 34))⟩, []⟩,
 ⟨2, ⟨(some 36), none, .op (.bin .eql (.tmp 35) (.const (.int .u8 4)))⟩, []⟩,
 ⟨3, ⟨(some 37), none, .op (.move (.tmp 36))⟩, []⟩,
 ⟨4, ⟨(some 38), (some (37, false)), .op (.fieldA 0 (.tmp 1))⟩, []⟩,
 ⟨5, ⟨(some 39), (some (37, false)), .op (.load 1 false (.tmp 38))⟩, []⟩,
 ⟨6, ⟨(some 40), (some (37, false)), .op (.bin .eql (.tmp 39) (.const (.int .u8 5)))⟩, []⟩,
 ⟨7, ⟨(some 41), none, .op (.pick (.tmp 37) (.const (.bool true)) (.tmp 40))⟩, []⟩,
 ⟨8, ⟨(some 42), none, .op (.fieldA 0 (.tmp 1))⟩, []⟩,
 ⟨9, ⟨(some 43), none, .op (.load 1 false (.tmp 42))⟩, []⟩,
 ⟨10, ⟨(some 44), none, .op (.bin .eql (.tmp 43) (.const (.int .u8 4)))⟩, []⟩,
 ⟨11, ⟨(some 5), none, .op (.move (.tmp 41))⟩, []⟩,
 ⟨12, ⟨(some 6), none, .op (.move (.tmp 44))⟩, []⟩])
 (.seq (.seq (.region [⟨(some 45), none, .op (.move (.tmp 3))⟩,
 ⟨(some 46), none, .op (.move (.tmp 45))⟩,
 ⟨(some 47), (some (46, true)), .op (.fieldA 1 (.tmp 1))⟩,
 ⟨(some 48), (some (46, true)), .op (.load 1 false (.tmp 47))⟩,
 ⟨(some 49), (some (46, true)), .call (.func 37) [(.tmp 48)]⟩,
 ⟨(some 50), (some (46, true)), .op (.un .not (.tmp 49))⟩,
 ⟨(some 51), none, .op (.pick (.tmp 46) (.tmp 50) (.const (.bool false)))⟩,
 ⟨(some 52), none, .op (.move (.tmp 51))⟩,
 ⟨(some 53), (some (52, false)), .op (.move (.tmp 3))⟩,
 ⟨(some 54), (some (52, false)), .op (.un .not (.tmp 53))⟩,
 ⟨(some 55), (some (52, false)), .op (.move (.tmp 54))⟩,
 ⟨(some 56), (some (55, true)), .op (.fieldA 1 (.tmp 1))⟩,
 ⟨(some 57), (some (55, true)), .op (.load 1 false (.tmp 56))⟩,
 ⟨(some 58), (some (55, true)), .op (.bin .neq (.tmp 57) (.const (.string ⟨#[]⟩)))⟩,
 ⟨(some 59), (some (52, false)), .op (.pick (.tmp 55) (.tmp 58) (.const (.bool false)))⟩,
 ⟨(some 60), none, .op (.pick (.tmp 52) (.const (.bool true)) (.tmp 59))⟩,
 ⟨(some 61), none, .op (.move (.tmp 60))⟩,
 ⟨(some 62), (some (61, false)), .op (.fieldA 4 (.tmp 1))⟩,
 ⟨(some 63), (some (61, false)), .op (.load 1 false (.tmp 62))⟩,
 ⟨(some 64), (some (61, false)), .op (.len (.tmp 63))⟩,
 ⟨(some 65), (some (61, false)), .op (.move (.tmp 4))⟩,
 ⟨(some 66), (some (61, false)), .op (.bin .neq (.tmp 64) (.tmp 65))⟩,
 ⟨(some 67), none, .op (.pick (.tmp 61) (.const (.bool true)) (.tmp 66))⟩,
 ⟨(some 68), none, .op (.move (.tmp 67))⟩,
 ⟨(some 69), (some (68, false)), .op (.move (.tmp 5))⟩,
 ⟨(some 70), (some (68, false)), .op (.un .not (.tmp 69))⟩,
 ⟨(some 71), (some (68, false)), .op (.move (.tmp 70))⟩,
 ⟨(some 72), (some (71, true)), .op (.fieldA 5 (.tmp 1))⟩,
 ⟨(some 73), (some (71, true)), .op (.load 1 false (.tmp 72))⟩,
 ⟨(some 74), (some (71, true)), .op (.len (.tmp 73))⟩,
 ⟨(some 75), (some (71, true)), .op (.bin .gtr (.tmp 74) (.const (.int .i64 0)))⟩,
 ⟨(some 76), (some (68, false)), .op (.pick (.tmp 71) (.tmp 75) (.const (.bool false)))⟩,
 ⟨(some 77), none, .op (.pick (.tmp 68) (.const (.bool true)) (.tmp 76))⟩,
 ⟨(some 78), none, .op (.move (.tmp 77))⟩,
 ⟨(some 79), (some (78, false)), .op (.move (.tmp 6))⟩,
 ⟨(some 80), (some (78, false)), .op (.un .not (.tmp 79))⟩,
 ⟨(some 81), (some (78, false)), .op (.move (.tmp 80))⟩,
 ⟨(some 82), (some (81, true)), .op (.fieldA 6 (.tmp 1))⟩,
 ⟨(some 83), (some (81, true)), .op (.load 1 false (.tmp 82))⟩,
 ⟨(some 84), (some (81, true)), .op (.len (.tmp 83))⟩,
 ⟨(some 85), (some (81, true)), .op (.bin .gtr (.tmp 84) (.const (.int .i64 0)))⟩,
 ⟨(some 86), (some (78, false)), .op (.pick (.tmp 81) (.tmp 85) (.const (.bool false)))⟩,
 ⟨(some 87), none, .op (.pick (.tmp 78) (.const (.bool true)) (.tmp 86))⟩])
 (.cond (.tmp 87) (.seq (.region [⟨(some 2), none, .op (.move (.const (.bool false)))⟩])
 .ret) .skip))
 (.seq (.seq (.region [⟨(some 88), none, .op (.fieldA 0 (.tmp 1))⟩,
 ⟨(some 89), none, .op (.load 1 false (.tmp 88))⟩,
 ⟨(some 90), none, .op (.bin .eql (.tmp 89) (.const (.int .u8 9)))⟩,
 ⟨(some 91), none, .op (.move (.tmp 90))⟩,
 ⟨(some 92), (some (91, true)), .op (.fieldA 2 (.tmp 1))⟩,
 ⟨(some 93), (some (91, true)), .op (.load 1 false (.tmp 92))⟩,
 ⟨(some 94), (some (91, true)), .call (.func 37) [(.tmp 93)]⟩,
 ⟨(some 95), (some (91, true)), .op (.un .not (.tmp 94))⟩,
 ⟨(some 96), none, .op (.pick (.tmp 91) (.tmp 95) (.const (.bool false)))⟩,
 ⟨(some 97), none, .op (.move (.tmp 96))⟩,
 ⟨(some 98), (some (97, false)), .op (.fieldA 0 (.tmp 1))⟩,
 ⟨(some 99), (some (97, false)), .op (.load 1 false (.tmp 98))⟩,
 ⟨(some 100), (some (97, false)), .op (.bin .neq (.tmp 99) (.const (.int .u8 9)))⟩,
 ⟨(some 101), (some (97, false)), .op (.move (.tmp 100))⟩,
 ⟨(some 102), (some (101, true)), .op (.fieldA 2 (.tmp 1))⟩,
 ⟨(some 103), (some (101, true)), .op (.load 1 false (.tmp 102))⟩,
 ⟨(some 104), (some (101, true)), .op (.bin .neq (.tmp 103) (.const (.string ⟨#[]⟩)))⟩,
 ⟨(some 105), (some (97, false)), .op (.pick (.tmp 101) (.tmp 104) (.const (.bool false)))⟩,
 ⟨(some 106), none, .op (.pick (.tmp 97) (.const (.bool true)) (.tmp 105))⟩])
 (.cond (.tmp 106) (.seq (.region [⟨(some 2), none, .op (.move (.const (.bool false)))⟩])
 .ret) .skip))
 (.seq (.seq (.region [⟨(some 107), none, .op (.fieldA 0 (.tmp 1))⟩,
 ⟨(some 108), none, .op (.load 1 false (.tmp 107))⟩,
 ⟨(some 109), none, .op (.bin .eql (.tmp 108) (.const (.int .u8 1)))⟩,
 ⟨(some 110), none, .op (.move (.tmp 109))⟩,
 ⟨(some 111), (some (110, true)), .op (.fieldA 3 (.tmp 1))⟩,
 ⟨(some 112), (some (110, true)), .op (.load 1 false (.tmp 111))⟩,
 ⟨(some 113), (some (110, true)), .call (.func 35) [(.tmp 112)]⟩,
 ⟨(some 114), (some (110, true)), .op (.un .not (.tmp 113))⟩,
 ⟨(some 115), none, .op (.pick (.tmp 110) (.tmp 114) (.const (.bool false)))⟩,
 ⟨(some 116), none, .op (.move (.tmp 115))⟩,
 ⟨(some 117), (some (116, false)), .op (.fieldA 0 (.tmp 1))⟩,
 ⟨(some 118), (some (116, false)), .op (.load 1 false (.tmp 117))⟩,
 ⟨(some 119), (some (116, false)), .op (.bin .neq (.tmp 118) (.const (.int .u8 1)))⟩,
 ⟨(some 120), (some (116, false)), .op (.move (.tmp 119))⟩,
 ⟨(some 121), (some (120, true)), .op (.fieldA 3 (.tmp 1))⟩,
 ⟨(some 122), (some (120, true)), .op (.load 1 false (.tmp 121))⟩,
 ⟨(some 123), (some (120, true)), .op (.bin .neq (.tmp 122) (.const (.int .i64 0)))⟩,
 ⟨(some 124), (some (116, false)), .op (.pick (.tmp 120) (.tmp 123) (.const (.bool false)))⟩,
 ⟨(some 125), none, .op (.pick (.tmp 116) (.const (.bool true)) (.tmp 124))⟩])
 (.cond (.tmp 125) (.seq (.region [⟨(some 2), none, .op (.move (.const (.bool false)))⟩])
 .ret) .skip))
 (.seq (.region [⟨(some 126), none, .op (.fieldA 4 (.tmp 1))⟩,
 ⟨(some 127), none, .op (.load 1 false (.tmp 126))⟩,
 ⟨(some 128), none, .call (.func 38) [(.tmp 127), (.func 18)]⟩,
 ⟨(some 129), none, .op (.move (.tmp 128))⟩,
 ⟨(some 130), (some (129, true)), .op (.fieldA 5 (.tmp 1))⟩,
 ⟨(some 131), (some (129, true)), .op (.load 1 false (.tmp 130))⟩,
 ⟨(some 132), (some (129, true)), .call (.func 57) [(.tmp 131), (.func 58)]⟩,
 ⟨(some 133), none, .op (.pick (.tmp 129) (.tmp 132) (.const (.bool false)))⟩,
 ⟨(some 134), none, .op (.move (.tmp 133))⟩,
 ⟨(some 135), (some (134, true)), .op (.fieldA 6 (.tmp 1))⟩,
 ⟨(some 136), (some (134, true)), .op (.load 1 false (.tmp 135))⟩,
 ⟨(some 137), (some (134, true)), .call (.func 57) [(.tmp 136), (.func 58)]⟩,
 ⟨(some 138), none, .op (.pick (.tmp 134) (.tmp 137) (.const (.bool false)))⟩,
 ⟨(some 2), none, .op (.move (.tmp 138))⟩])
 .ret))))))))
def R58 : List RV := [.tmp 2]
theorem is58 : Is Tryd.prog (fun _ _ => false) 58 139 A58 R58 := ⟨Tryd.f58, Tryd.func58, rfl, by kernel_rfl, by kernel_rfl, Tryd.call58⟩
def A59 : ACode :=
 (.seq (.region [⟨(some 5), none, .op (.box (.tmp 1))⟩,
 ⟨(some 8), none, .op (.move (.const (.int .i64 0)))⟩])
 (.seq (.seq (.region [⟨(some 12), none, .op (.fieldA 0 (.tmp 5))⟩,
 ⟨(some 13), none, .op (.load 1 false (.tmp 12))⟩])
 (.block 0 (.seq (.region [⟨(some 15), none, .op (.bin .eql (.tmp 13) (.const (.int .u8 1)))⟩,
 ⟨(some 14), none, .op (.move (.tmp 15))⟩])
 (.cond (.tmp 14) (.seq (.region [⟨(some 16), none, .op (.move (.tmp 0))⟩,
 ⟨(some 17), none, .op (.fieldA 1 (.tmp 5))⟩,
 ⟨(some 18), none, .op (.load 1 false (.tmp 17))⟩,
 ⟨(some 19), none, .op (.fieldA 3 (.tmp 5))⟩,
 ⟨(some 20), none, .op (.load 1 false (.tmp 19))⟩,
 ⟨(some 21), none, .call (.func 28) [(.tmp 16), (.tmp 18), (.tmp 20)]⟩,
 ⟨(some 9), none, .op (.move (.tmp 21))⟩])
 (.seq (.seq (.region [⟨(some 22), none, .op (.move (.tmp 9))⟩,
 ⟨(some 23), none, .op (.bin .neq (.tmp 22) (.const (.int .i64 0)))⟩])
 (.cond (.tmp 23) (.seq (.region [⟨(some 24), none, .op (.move (.tmp 9))⟩,
 ⟨(some 8), none, .op (.move (.tmp 24))⟩])
 .ret) .skip))
 (.seq (.dregion [⟨0, ⟨(some 25), none, .op (.move (.tmp 2))⟩, []⟩,
 ⟨1, ⟨(some 26), none, .op (.idxA 1 (.tmp 25) (.const (.int .i64 0)))⟩, []⟩,
 ⟨2, ⟨(some 27), none, .op (.load 1 false (.tmp 26))⟩, []⟩,
 ⟨3, ⟨(some 28), none, .op (.fieldA 3 (.tmp 5))⟩, []⟩,
 ⟨4, ⟨(some 29), none, .op (.load 1 false (.tmp 28))⟩, []⟩,
 ⟨5, ⟨(some 30), none, .op (.bin .eql (.tmp 27) (.tmp 29))⟩, []⟩,
 ⟨6, ⟨(some 31), none, .call (.func 80) [(.tmp 30)]⟩, []⟩,
 ⟨7, ⟨(some 8), none, .op (.move (.tmp 31))⟩, []⟩])
 .ret))) (.seq (.region [⟨(some 33), none, .op (.bin .eql (.tmp 13) (.const (.int .u8 2)))⟩,
 ⟨(some 32), none, .op (.move (.tmp 33))⟩])
 (.cond (.tmp 32) (.seq (.region [⟨(some 34), none, .op (.move (.tmp 0))⟩,
 ⟨(some 35), none, .op (.fieldA 1 (.tmp 5))⟩,
 ⟨(some 36), none, .op (.load 1 false (.tmp 35))⟩,
 ⟨(some 37), none, .call (.func 39) [(.tmp 34), (.tmp 36)]⟩,
 ⟨(some 10), none, .op (.move (.tmp 37))⟩])
 (.seq (.seq (.region [⟨(some 38), none, .op (.move (.tmp 10))⟩,
 ⟨(some 39), none, .op (.bin .eql (.tmp 38) (.const (.int .i64 0)))⟩])
 (.cond (.tmp 39) (.seq (.region [⟨(some 8), none, .op (.move (.const (.int .i64 16)))⟩])
 .ret) .skip))
 (.seq (.region [⟨(some 40), none, .op (.move (.tmp 2))⟩,
 ⟨(some 41), none, .op (.idxA 1 (.tmp 40) (.const (.int .i64 0)))⟩,
 ⟨(some 42), none, .op (.load 1 false (.tmp 41))⟩,
 ⟨(some 43), none, .op (.move (.tmp 10))⟩,
 ⟨(some 44), none, .op (.bin .eql (.tmp 42) (.tmp 43))⟩,
 ⟨(some 45), none, .call (.func 80) [(.tmp 44)]⟩,
 ⟨(some 8), none, .op (.move (.tmp 45))⟩])
 .ret))) (.seq (.region [⟨(some 47), none, .op (.bin .eql (.tmp 13) (.const (.int .u8 3)))⟩,
 ⟨(some 46), none, .op (.move (.tmp 47))⟩])
 (.cond (.tmp 46) (.seq (.dregion [⟨0, ⟨(some 48), none, .op (.move (.tmp 0))⟩, []⟩,
 ⟨1, ⟨(some 49), none, .op (.nilck (.tmp 48))⟩, []⟩,
 ⟨2, ⟨(some 50), none, .op (.fieldA 0 (.tmp 49))⟩, []⟩,
 ⟨3, ⟨(some 51), none, .op (.load 2 true (.tmp 50))⟩, []⟩,
 ⟨4, ⟨(some 52), none, .op (.fieldA 1 (.tmp 5))⟩, []⟩,
 ⟨5, ⟨(some 53), none, .op (.load 1 false (.tmp 52))⟩, []⟩,
 ⟨6, ⟨(some 54), none, .call (.func 40) [(.tmp 51), (.tmp 53)]⟩, []⟩,
 ⟨7, ⟨(some 11), none, .op (.move (.tmp 54))⟩, []⟩])
 (.seq (.seq (.region [⟨(some 55), none, .op (.move (.tmp 11))⟩,
 ⟨(some 56), none, .op (.bin .lss (.tmp 55) (.const (.int .i64 0)))⟩])
 (.cond (.tmp 56) (.seq (.region [⟨(some 8), none, .op (.move (.const (.int .i64 16)))⟩])
 .ret) .skip))
 (.seq (.dregion [⟨0, ⟨(some 57), none, .op (.move (.tmp 2))⟩, []⟩,
 ⟨1, ⟨(some 58), none, .op (.idxA 1 (.tmp 57) (.const (.int .i64 0)))⟩, []⟩,
 ⟨2, ⟨(some 59), none, .op (.load 1 false (.tmp 58))⟩, []⟩,
 ⟨3, ⟨(some 60), none, .call (.func 41) []⟩, [0, 1, 2]⟩,
 ⟨4, ⟨(some 61), none, .op (.m (.look .str (.int .i64 0) false (.tmp 60) (.const (.string ⟨#[119, 111, 114, 100]⟩))))⟩, [0, 1, 2]⟩,
 ⟨5, ⟨(some 62), none, .op (.bin .eql (.tmp 59) (.tmp 61))⟩, []⟩,
 ⟨6, ⟨(some 63), none, .op (.move (.tmp 62))⟩, []⟩,
 ⟨7, ⟨(some 64), (some (63, true)), .op (.move (.tmp 2))⟩, []⟩,
 ⟨8, ⟨(some 65), (some (63, true)), .op (.idxA 1 (.tmp 64) (.const (.int .i64 1)))⟩, []⟩,
 ⟨9, ⟨(some 66), (some (63, true)), .op (.load 1 false (.tmp 65))⟩, []⟩,
 ⟨10, ⟨(some 67), (some (63, true)), .op (.move (.tmp 0))⟩, []⟩,
 ⟨11, ⟨(some 68), (some (63, true)), .op (.nilck (.tmp 67))⟩, []⟩,
 ⟨12, ⟨(some 69), (some (63, true)), .op (.fieldA 0 (.tmp 68))⟩, []⟩,
 ⟨13, ⟨(some 70), (some (63, true)), .op (.fieldA 0 (.tmp 69))⟩, []⟩,
 ⟨14, ⟨(some 71), (some (63, true)), .op (.load 1 false (.tmp 70))⟩, []⟩,
 ⟨15, ⟨(some 72), (some (63, true)), .op (.move (.tmp 11))⟩, []⟩,
 ⟨16, ⟨(some 73), (some (63, true)), .op (.idxA 3 (.tmp 71) (.tmp 72))⟩, []⟩,
 ⟨17, ⟨(some 74), (some (63, true)), .op (.fieldA 1 (.tmp 73))⟩, []⟩,
 ⟨18, ⟨(some 75), (some (63, true)), .op (.load 1 false (.tmp 74))⟩, []⟩,
 ⟨19, ⟨(some 76), (some (63, true)), .op (.bin .eql (.tmp 66) (.tmp 75))⟩, []⟩,
 ⟨20, ⟨(some 77), none, .op (.pick (.tmp 63) (.tmp 76) (.const (.bool false)))⟩, []⟩,
 ⟨21, ⟨(some 78), none, .call (.func 80) [(.tmp 77)]⟩, []⟩,
 ⟨22, ⟨(some 8), none, .op (.move (.tmp 78))⟩, []⟩])
 .ret))) (.seq (.seq (.region [⟨(some 80), none, .op (.bin .eql (.tmp 13) (.const (.int .u8 4)))⟩,
 ⟨(some 79), none, .op (.move (.tmp 80))⟩])
 (.cond (.tmp 79) .skip (.region [⟨(some 81), none, .op (.bin .eql (.tmp 13) (.const (.int .u8 5)))⟩,
 ⟨(some 79), none, .op (.move (.tmp 81))⟩])))
 (.cond (.tmp 79) (.seq (.region [⟨(some 82), none, .op (.move (.tmp 2))⟩,
 ⟨(some 83), none, .op (.idxA 1 (.tmp 82) (.const (.int .i64 0)))⟩,
 ⟨(some 84), none, .op (.load 1 false (.tmp 83))⟩,
 ⟨(some 85), none, .op (.bin .eql (.tmp 84) (.const (.int .i64 1)))⟩,
 ⟨(some 86), none, .call (.func 80) [(.tmp 85)]⟩,
 ⟨(some 8), none, .op (.move (.tmp 86))⟩])
 .ret) (.seq (.region [⟨(some 88), none, .op (.bin .eql (.tmp 13) (.const (.int .u8 6)))⟩,
 ⟨(some 87), none, .op (.move (.tmp 88))⟩])
 (.cond (.tmp 87) (.seq (.region [⟨(some 89), none, .op (.move (.tmp 3))⟩,
 ⟨(some 90), none, .op (.un .not (.tmp 89))⟩])
 (.cond (.tmp 90) (.seq (.region [⟨(some 8), none, .op (.move (.const (.int .i64 12)))⟩])
 .ret) .skip)) (.seq (.region [⟨(some 92), none, .op (.bin .eql (.tmp 13) (.const (.int .u8 8)))⟩,
 ⟨(some 91), none, .op (.move (.tmp 92))⟩])
 (.cond (.tmp 91) (.seq (.dregion [⟨0, ⟨(some 93), none, .op (.move (.tmp 2))⟩, []⟩,
 ⟨1, ⟨(some 94), none, .op (.len (.tmp 93))⟩, []⟩,
 ⟨2, ⟨(some 95), none, .op (.bin .eql (.tmp 94) (.const (.int .i64 0)))⟩, []⟩,
 ⟨3, ⟨(some 96), none, .op (.move (.tmp 95))⟩, []⟩,
 ⟨4, ⟨(some 97), (some (96, true)), .op (.move (.tmp 0))⟩, []⟩,
 ⟨5, ⟨(some 98), (some (96, true)), .op (.nilck (.tmp 97))⟩, []⟩,
 ⟨6, ⟨(some 99), (some (96, true)), .op (.fieldA 2 (.tmp 98))⟩, []⟩,
 ⟨7, ⟨(some 100), (some (96, true)), .op (.fieldA 2 (.tmp 99))⟩, []⟩,
 ⟨8, ⟨(some 101), (some (96, true)), .op (.load 1 false (.tmp 100))⟩, []⟩,
 ⟨9, ⟨(some 102), (some (96, true)), .op (.bin .eql (.tmp 101) (.const (.int .i64 0)))⟩, []⟩,
 ⟨10, ⟨(some 103), none, .op (.pick (.tmp 96) (.tmp 102) (.const (.bool false)))⟩, []⟩,
 ⟨11, ⟨(some 104), none, .op (.move (.tmp 103))⟩, []⟩,
 ⟨12, ⟨(some 105), (some (104, false)), .op (.move (.tmp 2))⟩, []⟩,
 ⟨13, ⟨(some 106), (some (104, false)), .op (.len (.tmp 105))⟩, []⟩,
 ⟨14, ⟨(some 107), (some (104, false)), .op (.bin .eql (.tmp 106) (.const (.int .i64 1)))⟩, []⟩,
 ⟨15, ⟨(some 108), (some (104, false)), .op (.move (.tmp 107))⟩, []⟩,
 ⟨16, ⟨(some 109), (some (108, true)), .op (.move (.tmp 2))⟩, []⟩,
 ⟨17, ⟨(some 110), (some (108, true)), .op (.idxA 1 (.tmp 109) (.const (.int .i64 0)))⟩, []⟩,
 ⟨18, ⟨(some 111), (some (108, true)), .op (.load 1 false (.tmp 110))⟩, []⟩,
 ⟨19, ⟨(some 112), (some (108, true)), .op (.move (.tmp 0))⟩, []⟩,
 ⟨20, ⟨(some 113), (some (108, true)), .op (.nilck (.tmp 112))⟩, []⟩,
 ⟨21, ⟨(some 114), (some (108, true)), .op (.fieldA 2 (.tmp 113))⟩, []⟩,
 ⟨22, ⟨(some 115), (some (108, true)), .op (.fieldA 2 (.tmp 114))⟩, []⟩,
 ⟨23, ⟨(some 116), (some (108, true)), .op (.load 1 false (.tmp 115))⟩, []⟩,
 ⟨24, ⟨(some 117), (some (108, true)), .op (.bin .eql (.tmp 111) (.tmp 116))⟩, []⟩,
 ⟨25, ⟨(some 118), (some (104, false)), .op (.pick (.tmp 108) (.tmp 117) (.const (.bool false)))⟩, []⟩,
 ⟨26, ⟨(some 119), none, .op (.pick (.tmp 104) (.const (.bool true)) (.tmp 118))⟩, []⟩,
 ⟨27, ⟨(some 120), none, .call (.func 80) [(.tmp 119)]⟩, []⟩,
 ⟨28, ⟨(some 8), none, .op (.move (.tmp 120))⟩, []⟩])
 .ret) (.seq (.region [⟨(some 122), none, .op (.bin .eql (.tmp 13) (.const (.int .u8 9)))⟩,
 ⟨(some 121), none, .op (.move (.tmp 122))⟩])
 (.cond (.tmp 121) (.seq (.region [⟨(some 123), none, .op (.move (.tmp 0))⟩,
 ⟨(some 124), none, .op (.load 7 true (.tmp 5))⟩,
 ⟨(some 125), none, .op (.move (.tmp 2))⟩,
 ⟨(some 126), none, .call (.func 81) [(.tmp 123), (.tmp 124), (.tmp 125)]⟩,
 ⟨(some 8), none, .op (.move (.tmp 126))⟩])
 .ret) .skip))))))))))))))))
 (.seq (.region [⟨(some 8), none, .op (.move (.const (.int .i64 0)))⟩])
 .ret)))
def R59 : List RV := [.tmp 8]
theorem is59 : Is Tryd.prog (fun _ _ => false) 59 127 A59 R59 := ⟨Tryd.f59, Tryd.func59, rfl, by kernel_rfl, by kernel_rfl, Tryd.call59⟩
def A60l0 : ACode :=
 (.seq (.seq (.region [⟨(some 32), none, .op (.move (.tmp 7))⟩,
 ⟨(some 33), none, .op (.move (.tmp 0))⟩,
 ⟨(some 34), none, .op (.move (.tmp 6))⟩,
 ⟨(some 35), none, .op (.idxA 7 (.tmp 33) (.tmp 34))⟩,
 ⟨(some 36), none, .op (.fieldA 4 (.tmp 35))⟩,
 ⟨(some 37), none, .op (.load 1 false (.tmp 36))⟩,
 ⟨(some 38), none, .op (.len (.tmp 37))⟩,
 ⟨(some 39), none, .op (.bin .lss (.tmp 32) (.tmp 38))⟩])
 (.cond (.tmp 39) .skip (.exit 2)))
 (.seq (.block 3 (.region [⟨(some 42), none, .op (.move (.tmp 5))⟩,
 ⟨(some 43), none, .op (.move (.tmp 42))⟩,
 ⟨(some 44), (some (43, false)), .op (.move (.tmp 0))⟩,
 ⟨(some 45), (some (43, false)), .op (.move (.tmp 6))⟩,
 ⟨(some 46), (some (43, false)), .op (.idxA 7 (.tmp 44) (.tmp 45))⟩,
 ⟨(some 47), (some (43, false)), .op (.fieldA 4 (.tmp 46))⟩,
 ⟨(some 48), (some (43, false)), .op (.load 1 false (.tmp 47))⟩,
 ⟨(some 49), (some (43, false)), .op (.move (.tmp 7))⟩,
 ⟨(some 50), (some (43, false)), .op (.idxA 6 (.tmp 48) (.tmp 49))⟩,
 ⟨(some 51), (some (43, false)), .op (.load 6 true (.tmp 50))⟩,
 ⟨(some 52), (some (43, false)), .call (.func 20) [(.tmp 51)]⟩,
 ⟨(some 53), none, .op (.pick (.tmp 43) (.const (.bool true)) (.tmp 52))⟩,
 ⟨(some 5), none, .op (.move (.tmp 53))⟩]))
 (.region [⟨(some 40), none, .op (.move (.tmp 7))⟩,
 ⟨(some 41), none, .op (.bin .add (.tmp 40) (.const (.int .i64 1)))⟩,
 ⟨(some 7), none, .op (.move (.tmp 41))⟩])))
def A60l1 : ACode :=
 (.seq (.seq (.region [⟨(some 16), none, .op (.move (.tmp 6))⟩,
 ⟨(some 17), none, .op (.move (.tmp 0))⟩,
 ⟨(some 18), none, .op (.len (.tmp 17))⟩,
 ⟨(some 19), none, .op (.bin .lss (.tmp 16) (.tmp 18))⟩])
 (.cond (.tmp 19) .skip (.exit 0)))
 (.seq (.block 1 (.seq (.region [⟨(some 22), none, .op (.move (.tmp 2))⟩,
 ⟨(some 23), none, .op (.bin .add (.tmp 22) (.const (.int .i64 1)))⟩,
 ⟨(some 2), none, .op (.move (.tmp 23))⟩])
 (.seq (.seq (.region [⟨(some 24), none, .op (.move (.tmp 0))⟩,
 ⟨(some 25), none, .op (.move (.tmp 6))⟩,
 ⟨(some 26), none, .op (.idxA 7 (.tmp 24) (.tmp 25))⟩,
 ⟨(some 27), none, .op (.fieldA 0 (.tmp 26))⟩,
 ⟨(some 28), none, .op (.load 1 false (.tmp 27))⟩,
 ⟨(some 29), none, .op (.bin .eql (.tmp 28) (.const (.int .u8 1)))⟩])
 (.cond (.tmp 29) (.region [⟨(some 30), none, .op (.move (.tmp 3))⟩,
 ⟨(some 31), none, .op (.bin .add (.tmp 30) (.const (.int .i64 1)))⟩,
 ⟨(some 3), none, .op (.move (.tmp 31))⟩]) .skip))
 (.seq (.seq (.region [⟨(some 7), none, .op (.move (.const (.int .i64 0)))⟩])
 (.block 2 (.loop A60l0)))
 (.seq (.region [⟨(some 55), none, .op (.move (.tmp 0))⟩,
 ⟨(some 56), none, .op (.move (.tmp 6))⟩,
 ⟨(some 57), none, .op (.idxA 7 (.tmp 55) (.tmp 56))⟩,
 ⟨(some 58), none, .op (.fieldA 5 (.tmp 57))⟩,
 ⟨(some 59), none, .op (.load 1 false (.tmp 58))⟩,
 ⟨(some 60), none, .call (.func 60) [(.tmp 59)]⟩,
 ⟨(some 54), none, .op (.move (.tmp 60))⟩,
 ⟨(some 61), none, .op (.ext (.tmp 54) 0)⟩,
 ⟨(some 62), none, .op (.ext (.tmp 54) 1)⟩,
 ⟨(some 63), none, .op (.ext (.tmp 54) 2)⟩,
 ⟨(some 64), none, .op (.ext (.tmp 54) 3)⟩,
 ⟨(some 8), none, .op (.move (.tmp 61))⟩,
 ⟨(some 9), none, .op (.move (.tmp 62))⟩,
 ⟨(some 10), none, .op (.move (.tmp 63))⟩,
 ⟨(some 11), none, .op (.move (.tmp 64))⟩])
 (.seq (.region [⟨(some 66), none, .op (.move (.tmp 0))⟩,
 ⟨(some 67), none, .op (.move (.tmp 6))⟩,
 ⟨(some 68), none, .op (.idxA 7 (.tmp 66) (.tmp 67))⟩,
 ⟨(some 69), none, .op (.fieldA 6 (.tmp 68))⟩,
 ⟨(some 70), none, .op (.load 1 false (.tmp 69))⟩,
 ⟨(some 71), none, .call (.func 60) [(.tmp 70)]⟩,
 ⟨(some 65), none, .op (.move (.tmp 71))⟩,
 ⟨(some 72), none, .op (.ext (.tmp 65) 0)⟩,
 ⟨(some 73), none, .op (.ext (.tmp 65) 1)⟩,
 ⟨(some 74), none, .op (.ext (.tmp 65) 2)⟩,
 ⟨(some 75), none, .op (.ext (.tmp 65) 3)⟩,
 ⟨(some 12), none, .op (.move (.tmp 72))⟩,
 ⟨(some 13), none, .op (.move (.tmp 73))⟩,
 ⟨(some 14), none, .op (.move (.tmp 74))⟩,
 ⟨(some 15), none, .op (.move (.tmp 75))⟩])
 (.seq (.region [⟨(some 76), none, .op (.move (.tmp 2))⟩,
 ⟨(some 77), none, .op (.move (.tmp 8))⟩,
 ⟨(some 78), none, .op (.move (.tmp 12))⟩,
 ⟨(some 79), none, .op (.bin .add (.tmp 77) (.tmp 78))⟩,
 ⟨(some 80), none, .op (.bin .add (.tmp 76) (.tmp 79))⟩,
 ⟨(some 2), none, .op (.move (.tmp 80))⟩])
 (.seq (.region [⟨(some 81), none, .op (.move (.tmp 3))⟩,
 ⟨(some 82), none, .op (.move (.tmp 9))⟩,
 ⟨(some 83), none, .op (.move (.tmp 13))⟩,
 ⟨(some 84), none, .op (.bin .add (.tmp 82) (.tmp 83))⟩,
 ⟨(some 85), none, .op (.bin .add (.tmp 81) (.tmp 84))⟩,
 ⟨(some 3), none, .op (.move (.tmp 85))⟩])
 (.seq (.region [⟨(some 86), none, .op (.move (.tmp 4))⟩,
 ⟨(some 87), none, .op (.move (.tmp 10))⟩,
 ⟨(some 88), none, .op (.bin .add (.const (.int .i64 1)) (.tmp 87))⟩,
 ⟨(some 89), none, .op (.move (.tmp 14))⟩,
 ⟨(some 90), none, .op (.bin .add (.const (.int .i64 1)) (.tmp 89))⟩,
 ⟨(some 91), none, .op (.m (.mx3 (.tmp 86) (.tmp 88) (.tmp 90)))⟩,
 ⟨(some 4), none, .op (.move (.tmp 91))⟩])
 (.region [⟨(some 92), none, .op (.move (.tmp 5))⟩,
 ⟨(some 93), none, .op (.move (.tmp 92))⟩,
 ⟨(some 94), (some (93, false)), .op (.move (.tmp 11))⟩,
 ⟨(some 95), none, .op (.pick (.tmp 93) (.const (.bool true)) (.tmp 94))⟩,
 ⟨(some 96), none, .op (.move (.tmp 95))⟩,
 ⟨(some 97), (some (96, false)), .op (.move (.tmp 15))⟩,
 ⟨(some 98), none, .op (.pick (.tmp 96) (.const (.bool true)) (.tmp 97))⟩,
 ⟨(some 5), none, .op (.move (.tmp 98))⟩]))))))))))
 (.region [⟨(some 20), none, .op (.move (.tmp 6))⟩,
 ⟨(some 21), none, .op (.bin .add (.tmp 20) (.const (.int .i64 1)))⟩,
 ⟨(some 6), none, .op (.move (.tmp 21))⟩])))
def A60 : ACode :=
 (.seq (.region [⟨(some 2), none, .op (.move (.const (.int .i64 0)))⟩,
 ⟨(some 3), none, .op (.move (.const (.int .i64 0)))⟩,
 ⟨(some 4), none, .op (.move (.const (.int .i64 0)))⟩,
 ⟨(some 5), none, .op (.move (.const (.bool false)))⟩])
 (.seq (.seq (.region [⟨(some 6), none, .op (.move (.const (.int .i64 0)))⟩])
 (.block 0 (.loop A60l1)))
 (.seq (.region [⟨(some 99), none, .op (.move (.tmp 2))⟩,
 ⟨(some 100), none, .op (.move (.tmp 3))⟩,
 ⟨(some 101), none, .op (.move (.tmp 4))⟩,
 ⟨(some 102), none, .op (.move (.tmp 5))⟩,
 ⟨(some 2), none, .op (.move (.tmp 99))⟩,
 ⟨(some 3), none, .op (.move (.tmp 100))⟩,
 ⟨(some 4), none, .op (.move (.tmp 101))⟩,
 ⟨(some 5), none, .op (.move (.tmp 102))⟩])
 .ret)))
def R60 : List RV := [.tmp 2, .tmp 3, .tmp 4, .tmp 5]
theorem is60 : Is Tryd.prog (fun _ _ => false) 60 103 A60 R60 := ⟨Tryd.f60, Tryd.func60, rfl, by kernel_rfl, by kernel_rfl, Tryd.call60⟩
def A61l0 : ACode :=
 (.seq (.seq (.region [⟨(some 4), none, .op (.move (.tmp 3))⟩,
 ⟨(some 5), none, .op (.move (.tmp 0))⟩,
 ⟨(some 6), none, .op (.len (.tmp 5))⟩,
 ⟨(some 7), none, .op (.bin .lss (.tmp 4) (.tmp 6))⟩])
 (.cond (.tmp 7) .skip (.exit 0)))
 (.seq (.block 1 (.seq (.region [⟨(some 10), none, .op (.move (.tmp 0))⟩,
 ⟨(some 11), none, .op (.move (.tmp 3))⟩,
 ⟨(some 12), none, .op (.idxA 7 (.tmp 10) (.tmp 11))⟩,
 ⟨(some 13), none, .op (.load 7 true (.tmp 12))⟩,
 ⟨(some 14), none, .call (.func 82) [(.tmp 13)]⟩,
 ⟨(some 15), none, .op (.un .not (.tmp 14))⟩])
 (.cond (.tmp 15) (.seq (.region [⟨(some 2), none, .op (.move (.const (.bool false)))⟩])
 .ret) .skip)))
 (.region [⟨(some 8), none, .op (.move (.tmp 3))⟩,
 ⟨(some 9), none, .op (.bin .add (.tmp 8) (.const (.int .i64 1)))⟩,
 ⟨(some 3), none, .op (.move (.tmp 9))⟩])))
def A61 : ACode :=
 (.seq (.region [⟨(some 2), none, .op (.move (.const (.bool false)))⟩])
 (.seq (.seq (.region [⟨(some 3), none, .op (.move (.const (.int .i64 0)))⟩])
 (.block 0 (.loop A61l0)))
 (.seq (.region [⟨(some 2), none, .op (.move (.const (.bool true)))⟩])
 .ret)))
def R61 : List RV := [.tmp 2]
theorem is61 : Is Tryd.prog (fun _ _ => false) 61 16 A61 R61 := ⟨Tryd.f61, Tryd.func61, rfl, by kernel_rfl, by kernel_rfl, Tryd.call61⟩
end Go.Proofs.YtkfldbimfbacmaaDoor
