/- Trees of the source language, and their cells. -/
import Derived.Test.YtkfldbimfbacmaaGreatDoorGD
import Derived.Test.YtkfldbimfbacmaaGreatDoorRows
import Derived.KernelRfl
namespace Go.Proofs.YtkfldbimfbacmaaGreatDoor
open Go Go.Ab Go.Proofs
set_option linter.unusedVariables false
set_option linter.unusedSimpArgs false
abbrev Nm := List UInt8
inductive Ex where
  | mk (kind width bits : Int) (name : Nm) (op : Int) (sub : List Ex)
def Ex.kind : Ex → Int | .mk k _ _ _ _ _ => k
def Ex.width : Ex → Int | .mk _ w _ _ _ _ => w
def Ex.bits : Ex → Int | .mk _ _ b _ _ _ => b
def Ex.name : Ex → Nm | .mk _ _ _ n _ _ => n
def Ex.op : Ex → Int | .mk _ _ _ _ o _ => o
def Ex.sub : Ex → List Ex | .mk _ _ _ _ _ s => s
inductive Sm where
  | mk (kind : Int) (name func : Nm) (width : Int) (exprs : List Ex) (body els : List Sm)
def Sm.kind : Sm → Int | .mk k _ _ _ _ _ _ => k
def Sm.name : Sm → Nm | .mk _ n _ _ _ _ _ => n
def Sm.func : Sm → Nm | .mk _ _ f _ _ _ _ => f
def Sm.width : Sm → Int | .mk _ _ _ w _ _ _ => w
def Sm.exprs : Sm → List Ex | .mk _ _ _ _ l _ _ => l
def Sm.body : Sm → List Sm | .mk _ _ _ _ _ l _ => l
def Sm.els : Sm → List Sm | .mk _ _ _ _ _ _ l => l
abbrev Pm := Nm × Int
structure Fu where
  name : Nm
  params : List Pm
  result : Int
  body : List Sm
structure Ar where
  name : Nm
  width : Int
  len : Int
structure Pr where
  arrays : List Ar
  funcs : List Fu
mutual
def exE : Ex → List AV
  | .mk k w b n o s => [.int .u8 k, .int .i64 w, .int .u64 b, .str n, .int .u8 o, .lst 6 (exsE s)]
def exsE : List Ex → List (List AV)
  | [] => []
  | x :: r => exE x :: exsE r
end
theorem exsE_map : ∀ l : List Ex, exsE l = l.map exE
  | [] => by simp [exsE]
  | x :: r => by simp [exsE, exsE_map r]
mutual
def smE : Sm → List AV
  | .mk k n f w l b e => [.int .u8 k, .str n, .str f, .int .i64 w, .lst 6 (exsE l), .lst 7 (smsE b), .lst 7 (smsE e)]
def smsE : List Sm → List (List AV)
  | [] => []
  | x :: r => smE x :: smsE r
end
theorem smsE_map : ∀ l : List Sm, smsE l = l.map smE
  | [] => by simp [smsE]
  | x :: r => by simp [smsE, smsE_map r]
def exsA (l : List Ex) : AV := .lst 6 (l.map exE)
def smsA (l : List Sm) : AV := .lst 7 (l.map smE)
def pmE (p : Pm) : List AV := [.str p.1, .int .i64 p.2]
def pmsA (l : List Pm) : AV := .lst 2 (l.map pmE)
def fuE (f : Fu) : List AV := [.str f.name, pmsA f.params, .int .i64 f.result, smsA f.body]
def fusA (l : List Fu) : AV := .lst 4 (l.map fuE)
def arE (a : Ar) : List AV := [.str a.name, .int .i64 a.width, .int .i64 a.len]
def arsA (l : List Ar) : AV := .lst 3 (l.map arE)
def prE (p : Pr) : List AV := [arsA p.arrays, fusA p.funcs]
theorem exE_eq (x : Ex) : exE x = [.int .u8 x.kind, .int .i64 x.width, .int .u64 x.bits, .str x.name, .int .u8 x.op, exsA x.sub] := by
  cases x; simp [exE, Ex.kind, Ex.width, Ex.bits, Ex.name, Ex.op, Ex.sub, exsA, exsE_map]
theorem smE_eq (s : Sm) : smE s = [.int .u8 s.kind, .str s.name, .str s.func, .int .i64 s.width, exsA s.exprs, smsA s.body, smsA s.els] := by
  cases s; simp [smE, Sm.kind, Sm.name, Sm.func, Sm.width, Sm.exprs, Sm.body, Sm.els, exsA, smsA, exsE_map, smsE_map]
mutual
def nodes : Ex → Nat
  | .mk _ _ _ _ _ s => nodesL s + 1
def nodesL : List Ex → Nat
  | [] => 0
  | x :: r => nodes x + nodesL r
end
mutual
def depth : Ex → Nat
  | .mk _ _ _ _ _ s => depthL s + 1
def depthL : List Ex → Nat
  | [] => 0
  | x :: r => max (depth x) (depthL r)
end
def big (x : Ex) : Bool := decide (50 < nodes x) || decide (14 < depth x)
mutual
def stmts : Sm → Nat
  | .mk _ _ _ _ _ b e => stmtsL b + stmtsL e + 1
def stmtsL : List Sm → Nat
  | [] => 0
  | x :: r => stmts x + stmtsL r
end
mutual
def vars : Sm → Nat
  | .mk k _ _ _ _ b e => varsL b + varsL e + (if k = 1 then 1 else 0)
def varsL : List Sm → Nat
  | [] => 0
  | x :: r => vars x + varsL r
end
mutual
def high : Sm → Nat
  | .mk _ _ _ _ _ b e => max (highL b) (highL e) + 1
def highL : List Sm → Nat
  | [] => 0
  | x :: r => max (high x) (highL r)
end
mutual
def large : Sm → Bool
  | .mk _ _ _ _ l b e => l.any big || largeL b || largeL e
def largeL : List Sm → Bool
  | [] => false
  | x :: r => large x || largeL r
end
def sized (w : Int) : Bool := decide (w = 1) || decide (w = 8) || decide (w = 16) || decide (w = 32)
end Go.Proofs.YtkfldbimfbacmaaGreatDoor
namespace Go.Proofs.YtkfldbimfbacmaaGreatDoor
open Go Go.Ab Go.Sa Go.Proofs
set_option maxRecDepth 100000
def A3l0p : CX (.seq (.seq (r [m 77 10,fa 78 1 6,l 79 78,m 80 8,s 81 (.idxA 4 (t 79) (t 80)),fa 82 3 81,l 83 82,m 84 9,s 85 (.idxA 7 (t 83) (t 84)),fa 86 4 85,l 87 86,s 88 (.len (t 87)),s 89 (.bin .lss (t 77) (t 88))]) (.cond (t 89) .skip (.exit 4))) (.seq (.block 5 (r [fa 92 1 6,l 93 92,m 94 8,s 95 (.idxA 4 (t 93) (t 94)),fa 96 3 95,l 97 96,m 98 9,s 99 (.idxA 7 (t 97) (t 98)),fa 100 4 99,l 101 100,m 102 10,s 103 (.idxA 6 (t 101) (t 102)),fa 104 0 103,sn (.store 1 (t 104) (.const (.int .u8 9)))])) (r [m 90 10,s 91 (.bin .add (t 90) (i 1)),m 10 91]))) := ⟨_, by simp only [QQ]; rfl⟩
def A3l0 : ACode := A3l0p.1
def A3l1p : CX (.seq (.seq (r [m 57 9,fa 58 1 6,l 59 58,m 60 8,s 61 (.idxA 4 (t 59) (t 60)),fa 62 3 61,l 63 62,s 64 (.len (t 63)),s 65 (.bin .lss (t 57) (t 64))]) (.cond (t 65) .skip (.exit 2))) (.seq (.block 3 (.seq (r [fa 68 1 6,l 69 68,m 70 8,s 71 (.idxA 4 (t 69) (t 70)),fa 72 3 71,l 73 72,m 74 9,s 75 (.idxA 7 (t 73) (t 74)),fa 76 1 75,sn (.store 1 (t 76) (.const (.string ⟨#[119,114,105,116,116,101,110]⟩)))]) (.seq (r [s 10 (.move (i 0))]) (.block 4 (.loop A3l0))))) (r [m 66 9,s 67 (.bin .add (t 66) (i 1)),m 9 67]))) := ⟨_, by simp only [QQ]; rfl⟩
def A3l1 : ACode := A3l1p.1
def A3l2p : CX (.seq (.seq (r [m 45 8,fa 46 1 6,l 47 46,s 48 (.len (t 47)),s 49 (.bin .lss (t 45) (t 48))]) (.cond (t 49) .skip (.exit 0))) (.seq (.block 1 (.seq (r [fa 52 1 6,l 53 52,m 54 8,s 55 (.idxA 4 (t 53) (t 54)),fa 56 0 55,sn (.store 1 (t 56) (.const (.string ⟨#[119,114,105,116,116,101,110]⟩)))]) (.seq (r [s 9 (.move (i 0))]) (.block 2 (.loop A3l1))))) (r [m 50 8,s 51 (.bin .add (t 50) (i 1)),m 8 51]))) := ⟨_, by simp only [QQ]; rfl⟩
def A3l2 : ACode := A3l2p.1
def A3p : CX (.seq (r [s 2 (.box (t 0)),s 3 (.box (t 1)),s 4 (.move b0)]) (.seq (.seq (r [s 11 (.load 2 true (t 2)),c 12 4 [(t 11)],m 13 12,gf 14 13 (.load 2 true (t 3)),fc 15 13 4 [(t 14)],s 16 (.pick (t 13) b1 (t 15))]) (.cond (t 16) (.seq (r [s 4 (.move b1)]) .ret) .skip)) (.seq (r [s 17 (.load 2 true (t 2)),c 18 5 [(t 17)],s 5 (.alloc [.nilS,.nilS]),sn (.store 2 (t 5) (t 18))]) (.seq (r [s 19 (.load 2 true (t 2)),c 20 6 [(t 19)],s 6 (.alloc [.nilS,.nilS]),sn (.store 2 (t 6) (t 20))]) (.seq (.dregion [⟨0,s 21 (.load 2 true (t 2)),[]⟩,⟨2,s 23 (.load 2 true (t 2)),[]⟩,⟨1,c 22 7 [(t 21)],[2]⟩,⟨3,c 24 8 [(t 23)],[]⟩,⟨4,s 25 (.bin .eql (t 22) (t 24)),[]⟩,⟨5,m 26 25,[]⟩,⟨6,gt 27 26 (.load 2 true (t 2)),[]⟩,⟨7,gt 28 26 (.load 2 true (t 3)),[]⟩,⟨9,gt 30 26 (.load 2 true (t 2)),[]⟩,⟨10,gt 31 26 (.load 2 true (t 3)),[]⟩,⟨8,tc 29 26 9 [(t 27),(t 28)],[9,10]⟩,⟨11,tc 32 26 10 [(t 30),(t 31)],[]⟩,⟨12,gt 33 26 (.eqB false (t 29) (t 32)),[]⟩,⟨13,s 34 (.pick (t 26) (t 33) b0),[]⟩,⟨14,m 35 34,[]⟩,⟨15,gt 36 35 (.load 2 true (t 2)),[]⟩,⟨16,gt 37 35 (.load 2 true (t 6)),[]⟩,⟨17,tc 38 35 9 [(t 36),(t 37)],[]⟩,⟨18,s 39 (.pick (t 35) (t 38) b0),[]⟩,⟨19,m 40 39,[]⟩,⟨20,gt 41 40 (.load 2 true (t 2)),[]⟩,⟨21,gt 42 40 (.load 2 true (t 6)),[]⟩,⟨22,tc 43 40 10 [(t 41),(t 42)],[]⟩,⟨23,s 44 (.pick (t 40) (t 43) b0),[]⟩,⟨24,m 7 44,[]⟩]) (.seq (.seq (r [s 8 (.move (i 0))]) (.block 0 (.loop A3l2))) (.seq (r [m 105 7,m 106 105,gt 107 106 (.load 2 true (t 2)),gt 108 106 (.load 2 true (t 5)),tc 109 106 10 [(t 107),(t 108)],s 110 (.pick (t 106) (t 109) b0),m 4 110]) .ret))))))) := ⟨_, by simp only [QQ]; rfl⟩
def A3 : ACode := A3p.1
def R3 : List RV := [.tmp 4]
theorem is3 : Is Tryz.prog (fun _ _ => false) 3 111 A3 R3 := ⟨Tryz.f3, Tryz.func3, rfl, by kernel_rfl, by kernel_rfl, Tryz.call3⟩
def A4l0p : CX (.seq (.seq (r [m 18 4,fa 19 0 1,l 20 19,s 21 (.len (t 20)),s 22 (.bin .lss (t 18) (t 21))]) (.cond (t 22) .skip (.exit 0))) (.seq (.block 1 (r [m 25 3,fa 26 0 1,l 27 26,m 28 4,s 29 (.idxA 3 (t 27) (t 28)),fa 30 0 29,l 31 30,s 32 (.lens (t 31)),s 33 (.bin .add (t 25) (t 32)),m 3 33])) (r [m 23 4,s 24 (.bin .add (t 23) (i 1)),m 4 24]))) := ⟨_, by simp only [QQ]; rfl⟩
def A4l0 : ACode := A4l0p.1
def A4l1p : CX (.seq (.seq (r [m 50 7,fa 51 1 6,l 52 51,s 53 (.len (t 52)),s 54 (.bin .lss (t 50) (t 53))]) (.cond (t 54) .skip (.exit 4))) (.seq (.block 5 (r [m 57 3,fa 58 1 6,l 59 58,m 60 7,s 61 (.idxA 2 (t 59) (t 60)),fa 62 0 61,l 63 62,s 64 (.lens (t 63)),s 65 (.bin .add (t 57) (t 64)),m 3 65])) (r [m 55 7,s 56 (.bin .add (t 55) (i 1)),m 7 56]))) := ⟨_, by simp only [QQ]; rfl⟩
def A4l1 : ACode := A4l1p.1
def A4l2p : CX (.seq (.seq (r [m 34 5,fa 35 1 1,l 36 35,s 37 (.len (t 36)),s 38 (.bin .lss (t 34) (t 37))]) (.cond (t 38) .skip (.exit 2))) (.seq (.block 3 (.seq (r [fa 41 1 1,l 42 41,m 43 5,s 44 (.idxA 4 (t 42) (t 43)),s 45 (.load 4 true (t 44)),s 6 (.alloc [(.str []),.nilS,(.int .i64 0),.nilS]),sn (.store 4 (t 6) (t 45))]) (.seq (.seq (r [fa 46 1 6,l 47 46,s 48 (.len (t 47)),s 49 (.bin .gtr (t 48) (i 50))]) (.cond (t 49) (.seq (r [s 2 (.move b1)]) .ret) .skip)) (.seq (.seq (r [s 7 (.move (i 0))]) (.block 4 (.loop A4l1))) (.dregion [⟨0,m 66 3,[]⟩,⟨1,fa 67 0 6,[]⟩,⟨2,l 68 67,[]⟩,⟨3,s 69 (.lens (t 68)),[]⟩,⟨4,fa 70 3 6,[]⟩,⟨5,l 71 70,[]⟩,⟨6,c 72 11 [(t 71)],[0,1,2,3]⟩,⟨7,s 73 (.bin .add (t 69) (t 72)),[]⟩,⟨8,s 74 (.bin .add (t 66) (t 73)),[]⟩,⟨9,m 3 74,[]⟩]))))) (r [m 39 5,s 40 (.bin .add (t 39) (i 1)),m 5 40]))) := ⟨_, by simp only [QQ]; rfl⟩
def A4l2 : ACode := A4l2p.1
def A4p : CX (.seq (r [s 1 (.box (t 0)),s 2 (.move b0)]) (.seq (.seq (r [fa 8 0 1,l 9 8,s 10 (.len (t 9)),s 11 (.bin .gtr (t 10) (i 20)),m 12 11,fb 13 12 1 1,fl 14 12 13,gf 15 12 (.len (t 14)),gf 16 12 (.bin .gtr (t 15) (i 20)),s 17 (.pick (t 12) b1 (t 16))]) (.cond (t 17) (.seq (r [s 2 (.move b1)]) .ret) .skip)) (.seq (r [s 3 (.move (i 0))]) (.seq (.seq (r [s 4 (.move (i 0))]) (.block 0 (.loop A4l0))) (.seq (.seq (r [s 5 (.move (i 0))]) (.block 2 (.loop A4l2))) (.seq (r [m 75 3,s 76 (.bin .gtr (t 75) (i 5000)),m 2 76]) .ret)))))) := ⟨_, by simp only [QQ]; rfl⟩
def A4 : ACode := A4p.1
def R4 : List RV := [.tmp 2]
theorem is4 : Is Tryz.prog (fun _ _ => false) 4 77 A4 R4 := ⟨Tryz.f4, Tryz.func4, rfl, by kernel_rfl, by kernel_rfl, Tryz.call4⟩
def A5l0p : CX (.seq (.seq (r [m 11 4,fa 12 1 1,l 13 12,s 14 (.len (t 13)),s 15 (.bin .lss (t 11) (t 14))]) (.cond (t 15) .skip (.exit 0))) (.seq (.block 1 (.seq (r [fa 18 1 1,l 19 18,m 20 4,s 21 (.idxA 4 (t 19) (t 20)),s 22 (.load 4 true (t 21)),s 5 (.alloc [(.str []),.nilS,(.int .i64 0),.nilS]),sn (.store 4 (t 5) (t 22))]) (.seq (.dregion [⟨1,fa 24 1 5,[]⟩,⟨2,l 25 24,[]⟩,⟨4,fa 27 3 5,[]⟩,⟨5,l 28 27,[]⟩,⟨0,s 23 (.buildO 45 [(.str []),(.int .i64 0)] 0 []),[1,2,4,5]⟩,⟨3,s 26 (.app 45 2 24 (t 23) (t 25)),[4,5]⟩,⟨7,fa 30 1 5,[]⟩,⟨6,c 29 12 [(t 28)],[7]⟩,⟨8,sn (.store 1 (t 30) (t 26)),[]⟩,⟨9,fa 31 3 5,[]⟩,⟨10,sn (.store 1 (t 31) (t 29)),[]⟩]) (r [fa 32 1 3,l 33 32,s 34 (.load 4 true (t 5)),s 35 (.buildF [(.str []),.nilS,(.int .i64 0),.nilS] 1 [(0,(t 34))]),s 36 (.app 35 4 72 (t 33) (t 35)),fa 37 1 3,sn (.store 1 (t 37) (t 36))])))) (r [m 16 4,s 17 (.bin .add (t 16) (i 1)),m 4 17]))) := ⟨_, by simp only [QQ]; rfl⟩
def A5l0 : ACode := A5l0p.1
def A5p : CX (.seq (r [s 1 (.box (t 0)),s 2 (.alloc [.nilS,.nilS])]) (.seq (r [s 6 (.buildO 43 [(.str []),(.int .i64 0),(.int .i64 0)] 0 []),fa 7 0 1,l 8 7,s 9 (.app 43 3 32 (t 6) (t 8)),s 10 (.build [.nilS,.nilS] [(0,1,(t 9))]),s 3 (.alloc [.nilS,.nilS]),sn (.store 2 (t 3) (t 10))]) (.seq (.seq (r [s 4 (.move (i 0))]) (.block 0 (.loop A5l0))) (.seq (r [s 38 (.load 2 true (t 3)),sn (.store 2 (t 2) (t 38))]) .ret)))) := ⟨_, by simp only [QQ]; rfl⟩
def A5 : ACode := A5p.1
def R5 : List RV := [.cell 2 2 true]
theorem is5 : Is Tryz.prog (fun r i => [(1, 0), (6, 0)].contains (r, i)) 5 39 A5 R5 := ⟨Tryz.f5, Tryz.func5, rfl, by kernel_rfl, by kernel_rfl, Tryz.call5⟩
def A6p : CX (.seq (r [s 1 (.box (t 0)),s 2 (.alloc [.nilS,.nilS])]) (.seq (.dregion [⟨0,fa 3 0 1,[]⟩,⟨1,l 4 3,[]⟩,⟨3,fa 6 1 1,[]⟩,⟨4,l 7 6,[]⟩,⟨2,c 5 13 [(t 4)],[3,4]⟩,⟨5,c 8 14 [(t 7),(.func 15)],[]⟩,⟨6,s 9 (.build [.nilS,.nilS] [(0,1,(t 5)),(1,1,(t 8))]),[]⟩,⟨7,sn (.store 2 (t 2) (t 9)),[]⟩]) .ret)) := ⟨_, by simp only [QQ]; rfl⟩
def A6 : ACode := A6p.1
def R6 : List RV := [.cell 2 2 true]
theorem is6 : Is Tryz.prog (fun _ _ => false) 6 10 A6 R6 := ⟨Tryz.f6, Tryz.func6, rfl, by kernel_rfl, by kernel_rfl, Tryz.call6⟩
def A7l0p : CX (.seq (r [s 35 (.bin .lss (t 34) (t 33))]) (.seq (.cond (t 35) .skip (.exit 0)) (.seq (.block 1 (.seq (r [s 36 (.idxA 3 (t 32) (t 34)),s 37 (.load 3 true (t 36)),s 5 (.alloc [(.str []),(.int .i64 0),(.int .i64 0)]),sn (.store 3 (t 5) (t 37))]) (r [m 38 3,fa 39 0 5,l 40 39,sn (.m (.set .str (t 38) (t 40) b1))]))) (r [s 41 (.bin .add (t 34) (i 1)),m 34 41])))) := ⟨_, by simp only [QQ]; rfl⟩
def A7l0 : ACode := A7l0p.1
def A7l1p : CX (.seq (r [s 46 (.bin .lss (t 45) (t 44))]) (.seq (.cond (t 46) .skip (.exit 2)) (.seq (.block 3 (.seq (r [s 47 (.idxA 4 (t 43) (t 45)),s 48 (.load 4 true (t 47)),s 7 (.alloc [(.str []),.nilS,(.int .i64 0),.nilS]),sn (.store 4 (t 7) (t 48))]) (r [m 49 3,fa 50 0 7,l 51 50,sn (.m (.set .str (t 49) (t 51) b1))]))) (r [s 52 (.bin .add (t 45) (i 1)),m 45 52])))) := ⟨_, by simp only [QQ]; rfl⟩
def A7l1 : ACode := A7l1p.1
def A7l2p : CX (.seq (r [s 67 (.bin .lss (t 66) (t 65))]) (.seq (.cond (t 67) .skip (.exit 4)) (.seq (.block 5 (.seq (r [s 68 (.idxA 4 (t 64) (t 66)),s 69 (.load 4 true (t 68)),s 9 (.alloc [(.str []),.nilS,(.int .i64 0),.nilS]),sn (.store 4 (t 9) (t 69))]) (.seq (r [s 71 (.load 2 true (t 1)),s 72 (.load 4 true (t 9)),c 73 24 [(t 71),(t 72)],m 70 73,e 74 70 0,e 75 70 1,m 10 74,m 11 75]) (.seq (r [m 76 11,s 77 (.bin .neq (t 76) (i 0))]) (.cond (t 77) (.seq (r [m 78 11,m 2 78]) .ret) .skip))))) (r [s 79 (.bin .add (t 66) (i 1)),m 66 79])))) := ⟨_, by simp only [QQ]; rfl⟩
def A7l2 : ACode := A7l2p.1
def A7p : CX (.seq (r [s 1 (.box (t 0)),s 2 (.move (i 0))]) (.seq (.seq (r [s 12 (.load 2 true (t 1)),c 13 19 [(t 12)]]) (.cond (t 13) (.seq (r [s 2 (.move (i 4))]) .ret) .skip)) (.seq (.seq (r [fa 14 1 1,l 15 14,s 16 (.len (t 15)),s 17 (.bin .eql (t 16) (i 0)),m 18 17,fb 19 18 0 1,fl 20 18 19,fc 21 18 20 [(t 20),(.func 21)],gf 22 18 (.un .not (t 21)),s 23 (.pick (t 18) b1 (t 22)),m 24 23,fb 25 24 1 1,fl 26 24 25,fc 27 24 22 [(t 26),(.func 23)],gf 28 24 (.un .not (t 27)),s 29 (.pick (t 24) b1 (t 28))]) (.cond (t 29) (.seq (r [s 2 (.move (i 8))]) .ret) .skip)) (.seq (r [s 30 (.m .mk),m 3 30]) (.seq (.seq (r [fa 31 0 1,l 32 31,s 33 (.len (t 32)),s 34 (.move (i 0))]) (.block 0 (.loop A7l0))) (.seq (.seq (r [fa 42 1 1,l 43 42,s 44 (.len (t 43)),s 45 (.move (i 0))]) (.block 2 (.loop A7l1))) (.seq (.seq (r [m 53 3,s 54 (.m (.len (t 53))),fa 55 0 1,l 56 55,s 57 (.len (t 56)),fa 58 1 1,l 59 58,s 60 (.len (t 59)),s 61 (.bin .add (t 57) (t 60)),s 62 (.bin .lss (t 54) (t 61))]) (.cond (t 62) (.seq (r [s 2 (.move (i 18))]) .ret) .skip)) (.seq (.seq (r [fa 63 1 1,l 64 63,s 65 (.len (t 64)),s 66 (.move (i 0))]) (.block 4 (.loop A7l2))) (.seq (r [s 2 (.move (i 0))]) .ret))))))))) := ⟨_, by simp only [QQ]; rfl⟩
def A7 : ACode := A7p.1
def R7 : List RV := [.tmp 2]
theorem is7 : Is Tryz.prog (fun _ _ => false) 7 80 A7 R7 := ⟨Tryz.f7, Tryz.func7, rfl, by kernel_rfl, by kernel_rfl, Tryz.call7⟩
def A8l0p : CX (.seq (.seq (r [m 16 4,fa 17 0 1,l 18 17,s 19 (.len (t 18)),s 20 (.bin .lss (t 16) (t 19))]) (.cond (t 20) .skip (.exit 0))) (.seq (.block 1 (r [m 23 3,fa 24 0 1,l 25 24,m 26 4,s 27 (.idxA 3 (t 25) (t 26)),fa 28 0 27,l 29 28,s 30 (.buildF [(.str [])] 1 [(0,(t 29))]),s 31 (.app 9 1 16 (t 23) (t 30)),m 3 31])) (r [m 21 4,s 22 (.bin .add (t 21) (i 1)),m 4 22]))) := ⟨_, by simp only [QQ]; rfl⟩
def A8l0 : ACode := A8l0p.1
def A8l1p : CX (.seq (.seq (r [m 32 5,fa 33 1 1,l 34 33,s 35 (.len (t 34)),s 36 (.bin .lss (t 32) (t 35))]) (.cond (t 36) .skip (.exit 2))) (.seq (.block 3 (r [m 39 3,fa 40 1 1,l 41 40,m 42 5,s 43 (.idxA 4 (t 41) (t 42)),fa 44 0 43,l 45 44,s 46 (.buildF [(.str [])] 1 [(0,(t 45))]),s 47 (.app 9 1 16 (t 39) (t 46)),m 3 47])) (r [m 37 5,s 38 (.bin .add (t 37) (i 1)),m 5 38]))) := ⟨_, by simp only [QQ]; rfl⟩
def A8l1 : ACode := A8l1p.1
def A8l2p : CX (.seq (.seq (r [m 54 7,m 55 6,s 56 (.bin .lss (t 54) (t 55))]) (.cond (t 56) .skip (.exit 6))) (.seq (.block 7 (.seq (.dregion [⟨0,m 59 3,[]⟩,⟨1,m 60 7,[]⟩,⟨2,s 61 (.idxA 1 (t 59) (t 60)),[]⟩,⟨3,l 62 61,[]⟩,⟨4,m 63 3,[]⟩,⟨5,m 64 6,[]⟩,⟨6,s 65 (.idxA 1 (t 63) (t 64)),[]⟩,⟨7,l 66 65,[]⟩,⟨8,s 67 (.bin .eql (t 62) (t 66)),[]⟩]) (.cond (t 67) (.seq (r [s 2 (.move (i 18))]) .ret) .skip))) (r [m 57 7,s 58 (.bin .add (t 57) (i 1)),m 7 58]))) := ⟨_, by simp only [QQ]; rfl⟩
def A8l2 : ACode := A8l2p.1
def A8l3p : CX (.seq (.seq (r [m 48 6,m 49 3,s 50 (.len (t 49)),s 51 (.bin .lss (t 48) (t 50))]) (.cond (t 51) .skip (.exit 4))) (.seq (.block 5 (.seq (r [s 7 (.move (i 0))]) (.block 6 (.loop A8l2)))) (r [m 52 6,s 53 (.bin .add (t 52) (i 1)),m 6 53]))) := ⟨_, by simp only [QQ]; rfl⟩
def A8l3 : ACode := A8l3p.1
def A8l4p : CX (.seq (.seq (r [m 68 8,fa 69 1 1,l 70 69,s 71 (.len (t 70)),s 72 (.bin .lss (t 68) (t 71))]) (.cond (t 72) .skip (.exit 8))) (.seq (.block 9 (.seq (r [s 76 (.load 2 true (t 1)),m 77 8,c 78 27 [(t 76),(t 77)],m 75 78,e 79 75 0,e 80 75 1,m 9 79,m 10 80]) (.seq (r [m 81 10,s 82 (.bin .neq (t 81) (i 0))]) (.cond (t 82) (.seq (r [m 83 10,m 2 83]) .ret) .skip)))) (r [m 73 8,s 74 (.bin .add (t 73) (i 1)),m 8 74]))) := ⟨_, by simp only [QQ]; rfl⟩
def A8l4 : ACode := A8l4p.1
def A8p : CX (.seq (r [s 1 (.box (t 0)),s 2 (.move (i 0))]) (.seq (.seq (r [s 11 (.load 2 true (t 1)),c 12 25 [(t 11)]]) (.cond (t 12) (.seq (r [s 2 (.move (i 4))]) .ret) .skip)) (.seq (.seq (r [s 13 (.load 2 true (t 1)),c 14 26 [(t 13)],s 15 (.un .not (t 14))]) (.cond (t 15) (.seq (r [s 2 (.move (i 8))]) .ret) .skip)) (.seq (r [s 3 (.move ns)]) (.seq (.seq (r [s 4 (.move (i 0))]) (.block 0 (.loop A8l0))) (.seq (.seq (r [s 5 (.move (i 0))]) (.block 2 (.loop A8l1))) (.seq (.seq (r [s 6 (.move (i 0))]) (.block 4 (.loop A8l3))) (.seq (.seq (r [s 8 (.move (i 0))]) (.block 8 (.loop A8l4))) (.seq (r [s 2 (.move (i 0))]) .ret))))))))) := ⟨_, by simp only [QQ]; rfl⟩
def A8 : ACode := A8p.1
def R8 : List RV := [.tmp 2]
theorem is8 : Is Tryz.prog (fun _ _ => false) 8 84 A8 R8 := ⟨Tryz.f8, Tryz.func8, rfl, by kernel_rfl, by kernel_rfl, Tryz.call8⟩
def A9p : CX (.seq (r [s 2 (.box (t 0)),s 3 (.box (t 1)),s 4 (.move b0)]) (.seq (r [fa 5 0 2,l 6 5,fa 7 0 3,l 8 7,c 9 28 [(t 6),(t 8)],m 10 9,ta 11 10 1 2,tl 12 10 11,ta 13 10 1 3,tl 14 10 13,tc 15 10 29 [(t 12),(t 14),(.func 30)],s 16 (.pick (t 10) (t 15) b0),m 4 16]) .ret)) := ⟨_, by simp only [QQ]; rfl⟩
def A9 : ACode := A9p.1
def R9 : List RV := [.tmp 4]
theorem is9 : Is Tryz.prog (fun _ _ => false) 9 17 A9 R9 := ⟨Tryz.f9, Tryz.func9, rfl, by kernel_rfl, by kernel_rfl, Tryz.call9⟩
def A10l0p : CX (.seq (.seq (r [m 25 5,fa 26 0 2,l 27 26,s 28 (.len (t 27)),s 29 (.bin .lss (t 25) (t 28))]) (.cond (t 29) .skip (.exit 0))) (.seq (.block 1 (.seq (.dregion [⟨0,fa 32 0 2,[]⟩,⟨1,l 33 32,[]⟩,⟨2,m 34 5,[]⟩,⟨3,s 35 (.idxA 3 (t 33) (t 34)),[]⟩,⟨4,s 36 (.load 3 true (t 35)),[]⟩,⟨5,fa 37 0 3,[]⟩,⟨6,l 38 37,[]⟩,⟨7,m 39 5,[]⟩,⟨8,s 40 (.idxA 3 (t 38) (t 39)),[]⟩,⟨9,s 41 (.load 3 true (t 40)),[]⟩,⟨10,s 42 (.eqS true [.str,.int,.int] (t 36) (t 41)),[]⟩]) (.cond (t 42) (.seq (r [s 4 (.move b0)]) .ret) .skip))) (r [m 30 5,s 31 (.bin .add (t 30) (i 1)),m 5 31]))) := ⟨_, by simp only [QQ]; rfl⟩
def A10l0 : ACode := A10l0p.1
def A10l1p : CX (.seq (.seq (r [m 43 6,fa 44 1 2,l 45 44,s 46 (.len (t 45)),s 47 (.bin .lss (t 43) (t 46))]) (.cond (t 47) .skip (.exit 2))) (.seq (.block 3 (.seq (.dregion [⟨0,fa 50 1 2,[]⟩,⟨1,l 51 50,[]⟩,⟨2,m 52 6,[]⟩,⟨3,s 53 (.idxA 4 (t 51) (t 52)),[]⟩,⟨4,s 54 (.load 4 true (t 53)),[]⟩,⟨5,fa 55 1 3,[]⟩,⟨6,l 56 55,[]⟩,⟨7,m 57 6,[]⟩,⟨8,s 58 (.idxA 4 (t 56) (t 57)),[]⟩,⟨9,s 59 (.load 4 true (t 58)),[]⟩,⟨10,s 7 (.alloc [(.str []),.nilS,(.int .i64 0),.nilS]),[0,1,2,3,4,5,6,7,8,9]⟩,⟨11,s 8 (.alloc [(.str []),.nilS,(.int .i64 0),.nilS]),[0,1,2,3,4,5,6,7,8,9]⟩,⟨12,sn (.store 4 (t 7) (t 54)),[5,6,7,8,9]⟩,⟨13,sn (.store 4 (t 8) (t 59)),[]⟩]) (.seq (r [fa 60 0 7,l 61 60,fa 62 0 8,l 63 62,s 64 (.bin .neq (t 61) (t 63)),m 65 64,fb 66 65 2 7,fl 67 65 66,fb 68 65 2 8,fl 69 65 68,gf 70 65 (.bin .neq (t 67) (t 69)),s 71 (.pick (t 65) b1 (t 70)),m 72 71,fb 73 72 1 7,fl 74 72 73,fb 75 72 1 8,fl 76 72 75,fc 77 72 31 [(t 74),(t 76)],gf 78 72 (.un .not (t 77)),s 79 (.pick (t 72) b1 (t 78)),m 80 79,fb 81 80 3 7,fl 82 80 81,fb 83 80 3 8,fl 84 80 83,fc 85 80 32 [(t 82),(t 84)],gf 86 80 (.un .not (t 85)),s 87 (.pick (t 80) b1 (t 86))]) (.cond (t 87) (.seq (r [s 4 (.move b0)]) .ret) .skip)))) (r [m 48 6,s 49 (.bin .add (t 48) (i 1)),m 6 49]))) := ⟨_, by simp only [QQ]; rfl⟩
def A10l1 : ACode := A10l1p.1
def A10p : CX (.seq (r [s 2 (.box (t 0)),s 3 (.box (t 1)),s 4 (.move b0)]) (.seq (.seq (r [fa 9 0 2,l 10 9,s 11 (.len (t 10)),fa 12 0 3,l 13 12,s 14 (.len (t 13)),s 15 (.bin .neq (t 11) (t 14)),m 16 15,fb 17 16 1 2,fl 18 16 17,gf 19 16 (.len (t 18)),fb 20 16 1 3,fl 21 16 20,gf 22 16 (.len (t 21)),gf 23 16 (.bin .neq (t 19) (t 22)),s 24 (.pick (t 16) b1 (t 23))]) (.cond (t 24) (.seq (r [s 4 (.move b0)]) .ret) .skip)) (.seq (.seq (r [s 5 (.move (i 0))]) (.block 0 (.loop A10l0))) (.seq (.seq (r [s 6 (.move (i 0))]) (.block 2 (.loop A10l1))) (.seq (r [s 4 (.move b1)]) .ret))))) := ⟨_, by simp only [QQ]; rfl⟩
def A10 : ACode := A10p.1
def R10 : List RV := [.tmp 4]
theorem is10 : Is Tryz.prog (fun _ _ => false) 10 88 A10 R10 := ⟨Tryz.f10, Tryz.func10, rfl, by kernel_rfl, by kernel_rfl, Tryz.call10⟩
def A11l0p : CX (.seq (.seq (r [m 5 4,m 6 0,s 7 (.len (t 6)),s 8 (.bin .lss (t 5) (t 7)),m 9 8,gt 10 9 (.move (t 3)),gt 11 9 (.bin .lss (t 10) (i 100000)),s 12 (.pick (t 9) (t 11) b0)]) (.cond (t 12) .skip (.exit 0))) (.seq (.block 1 (.dregion [⟨0,m 15 3,[]⟩,⟨1,m 16 0,[]⟩,⟨2,m 17 4,[]⟩,⟨3,s 18 (.idxA 7 (t 16) (t 17)),[]⟩,⟨4,fa 19 1 18,[]⟩,⟨5,l 20 19,[]⟩,⟨6,s 21 (.lens (t 20)),[]⟩,⟨7,s 22 (.bin .add (i 1) (t 21)),[]⟩,⟨8,m 23 0,[]⟩,⟨9,m 24 4,[]⟩,⟨10,s 25 (.idxA 7 (t 23) (t 24)),[]⟩,⟨11,fa 26 2 25,[]⟩,⟨12,l 27 26,[]⟩,⟨13,s 28 (.lens (t 27)),[]⟩,⟨14,s 29 (.bin .add (t 22) (t 28)),[]⟩,⟨15,m 30 0,[]⟩,⟨16,m 31 4,[]⟩,⟨17,s 32 (.idxA 7 (t 30) (t 31)),[]⟩,⟨18,fa 33 4 32,[]⟩,⟨19,l 34 33,[]⟩,⟨22,m 37 0,[]⟩,⟨23,m 38 4,[]⟩,⟨24,s 39 (.idxA 7 (t 37) (t 38)),[]⟩,⟨25,fa 40 5 39,[]⟩,⟨26,l 41 40,[]⟩,⟨29,m 44 0,[]⟩,⟨30,m 45 4,[]⟩,⟨31,s 46 (.idxA 7 (t 44) (t 45)),[]⟩,⟨32,fa 47 6 46,[]⟩,⟨33,l 48 47,[]⟩,⟨20,c 35 33 [(t 34)],[0,1,2,3,4,5,6,7,8,9,10,11,12,13,14,22,23,24,25,26,29,30,31,32,33]⟩,⟨21,s 36 (.bin .add (t 29) (t 35)),[]⟩,⟨27,c 42 11 [(t 41)],[0,1,2,3,4,5,6,7,8,9,10,11,12,13,14,29,30,31,32,33,21]⟩,⟨28,s 43 (.bin .add (t 36) (t 42)),[]⟩,⟨34,c 49 11 [(t 48)],[0,1,2,3,4,5,6,7,8,9,10,11,12,13,14,21,28]⟩,⟨35,s 50 (.bin .add (t 43) (t 49)),[]⟩,⟨36,s 51 (.bin .add (t 15) (t 50)),[]⟩,⟨37,m 3 51,[]⟩])) (r [m 13 4,s 14 (.bin .add (t 13) (i 1)),m 4 14]))) := ⟨_, by simp only [QQ]; rfl⟩
def A11l0 : ACode := A11l0p.1
def A11p : CX (.seq (r [s 2 (.move (i 0))]) (.seq (r [s 3 (.move (i 0))]) (.seq (.seq (r [s 4 (.move (i 0))]) (.block 0 (.loop A11l0))) (.seq (r [m 52 3,m 2 52]) .ret)))) := ⟨_, by simp only [QQ]; rfl⟩
def A11 : ACode := A11p.1
def R11 : List RV := [.tmp 2]
theorem is11 : Is Tryz.prog (fun _ _ => false) 11 53 A11 R11 := ⟨Tryz.f11, Tryz.func11, rfl, by kernel_rfl, by kernel_rfl, Tryz.call11⟩
def A12l0p : CX (.seq (.seq (r [m 6 4,m 7 0,s 8 (.len (t 7)),s 9 (.bin .lss (t 6) (t 8))]) (.cond (t 9) .skip (.exit 0))) (.seq (.block 1 (.seq (r [m 12 0,m 13 4,s 14 (.idxA 7 (t 12) (t 13)),s 15 (.load 7 true (t 14)),s 5 (.alloc [(.int .u8 0),(.str []),(.str []),(.int .i64 0),.nilS,.nilS,.nilS]),sn (.store 7 (t 5) (t 15))]) (.seq (.dregion [⟨0,fa 16 4 5,[]⟩,⟨1,l 17 16,[]⟩,⟨3,fa 19 5 5,[]⟩,⟨4,l 20 19,[]⟩,⟨6,fa 22 6 5,[]⟩,⟨7,l 23 22,[]⟩,⟨2,c 18 34 [(t 17)],[3,4,6,7]⟩,⟨9,fa 25 4 5,[]⟩,⟨5,c 21 12 [(t 20)],[6,7,9]⟩,⟨8,c 24 12 [(t 23)],[9]⟩,⟨10,sn (.store 1 (t 25) (t 18)),[]⟩,⟨11,fa 26 5 5,[]⟩,⟨12,sn (.store 1 (t 26) (t 21)),[]⟩,⟨13,fa 27 6 5,[]⟩,⟨14,sn (.store 1 (t 27) (t 24)),[]⟩]) (r [m 28 3,s 29 (.load 7 true (t 5)),s 30 (.buildF [(.int .u8 0),(.str []),(.str []),(.int .i64 0),.nilS,.nilS,.nilS] 1 [(0,(t 29))]),s 31 (.app 38 7 120 (t 28) (t 30)),m 3 31])))) (r [m 10 4,s 11 (.bin .add (t 10) (i 1)),m 4 11]))) := ⟨_, by simp only [QQ]; rfl⟩
def A12l0 : ACode := A12l0p.1
def A12p : CX (.seq (r [s 2 (.move ns)]) (.seq (r [s 3 (.move ns)]) (.seq (.seq (r [s 4 (.move (i 0))]) (.block 0 (.loop A12l0))) (.seq (r [m 32 3,m 2 32]) .ret)))) := ⟨_, by simp only [QQ]; rfl⟩
def A12 : ACode := A12p.1
def R12 : List RV := [.tmp 2]
theorem is12 : Is Tryz.prog (fun _ _ => false) 12 33 A12 R12 := ⟨Tryz.f12, Tryz.func12, rfl, by kernel_rfl, by kernel_rfl, Tryz.call12⟩
def A13p : CX (.seq (r [s 2 (.move ns)]) (.seq (.seq (r [m 3 0,s 4 (.eqN false .sl (t 3))]) (.cond (t 4) (.seq (r [s 2 (.move ns)]) .ret) .skip)) (.seq (r [s 5 (.buildO 43 [(.str []),(.int .i64 0),(.int .i64 0)] 0 []),m 6 0,s 7 (.app 43 3 32 (t 5) (t 6)),m 2 7]) .ret))) := ⟨_, by simp only [QQ]; rfl⟩
def A13 : ACode := A13p.1
def R13 : List RV := [.tmp 2]
theorem is13 : Is Tryz.prog (fun r i => [(3, 0)].contains (r, i)) 13 8 A13 R13 := ⟨Tryz.f13, Tryz.func13, rfl, by kernel_rfl, by kernel_rfl, Tryz.call13⟩
def A14l0p : CX (.seq (r [s 11 (.bin .lss (t 10) (t 9))]) (.seq (.cond (t 11) .skip (.exit 0)) (.seq (.block 1 (.seq (r [s 12 (.idxA 4 (t 8) (t 10)),s 13 (.load 4 true (t 12)),s 7 (.alloc [(.str []),.nilS,(.int .i64 0),.nilS]),sn (.store 4 (t 7) (t 13))]) (r [m 14 5,m 15 1,s 16 (.load 4 true (t 7)),⟨(some 17),none,.call (t 15) [(t 16)]⟩,s 18 (.buildF [(.str []),.nilS,(.int .i64 0),.nilS] 1 [(0,(t 17))]),s 19 (.app 35 4 72 (t 14) (t 18)),m 5 19]))) (r [s 20 (.bin .add (t 10) (i 1)),m 10 20])))) := ⟨_, by simp only [QQ]; rfl⟩
def A14l0 : ACode := A14l0p.1
def A14p : CX (.seq (r [s 4 (.move ns)]) (.seq (r [s 5 (.move ns)]) (.seq (.seq (r [m 8 0,s 9 (.len (t 8)),s 10 (.move (i 0))]) (.block 0 (.loop A14l0))) (.seq (r [m 21 5,m 4 21]) .ret)))) := ⟨_, by simp only [QQ]; rfl⟩
def A14 : ACode := A14p.1
def R14 : List RV := [.tmp 4]
theorem is14 : Is Tryz.prog (fun _ _ => false) 14 22 A14 R14 := ⟨Tryz.f14, Tryz.func14, rfl, by kernel_rfl, by kernel_rfl, Tryz.call14⟩
def A15p : CX (.seq (r [s 1 (.box (t 0)),s 2 (.alloc [(.str []),.nilS,(.int .i64 0),.nilS])]) (.seq (.dregion [⟨0,fa 3 1 1,[]⟩,⟨1,l 4 3,[]⟩,⟨3,fa 6 3 1,[]⟩,⟨4,l 7 6,[]⟩,⟨2,c 5 16 [(t 4)],[3,4]⟩,⟨6,fa 9 1 1,[]⟩,⟨5,c 8 17 [(t 7),(.func 18)],[6]⟩,⟨7,sn (.store 1 (t 9) (t 5)),[]⟩,⟨8,fa 10 3 1,[]⟩,⟨9,sn (.store 1 (t 10) (t 8)),[]⟩]) (.seq (r [s 11 (.load 4 true (t 1)),sn (.store 4 (t 2) (t 11))]) .ret))) := ⟨_, by simp only [QQ]; rfl⟩
def A15 : ACode := A15p.1
def R15 : List RV := [.cell 2 4 true]
theorem is15 : Is Tryz.prog (fun _ _ => false) 15 12 A15 R15 := ⟨Tryz.f15, Tryz.func15, rfl, by kernel_rfl, by kernel_rfl, Tryz.call15⟩
def A16p : CX (.seq (r [s 2 (.move ns)]) (.seq (.seq (r [m 3 0,s 4 (.eqN false .sl (t 3))]) (.cond (t 4) (.seq (r [s 2 (.move ns)]) .ret) .skip)) (.seq (r [s 5 (.buildO 45 [(.str []),(.int .i64 0)] 0 []),m 6 0,s 7 (.app 45 2 24 (t 5) (t 6)),m 2 7]) .ret))) := ⟨_, by simp only [QQ]; rfl⟩
def A16 : ACode := A16p.1
def R16 : List RV := [.tmp 2]
theorem is16 : Is Tryz.prog (fun r i => [(3, 0)].contains (r, i)) 16 8 A16 R16 := ⟨Tryz.f16, Tryz.func16, rfl, by kernel_rfl, by kernel_rfl, Tryz.call16⟩
def A17l0p : CX (.seq (r [s 11 (.bin .lss (t 10) (t 9))]) (.seq (.cond (t 11) .skip (.exit 0)) (.seq (.block 1 (.seq (r [s 12 (.idxA 7 (t 8) (t 10)),s 13 (.load 7 true (t 12)),s 7 (.alloc [(.int .u8 0),(.str []),(.str []),(.int .i64 0),.nilS,.nilS,.nilS]),sn (.store 7 (t 7) (t 13))]) (r [m 14 5,m 15 1,s 16 (.load 7 true (t 7)),⟨(some 17),none,.call (t 15) [(t 16)]⟩,s 18 (.buildF [(.int .u8 0),(.str []),(.str []),(.int .i64 0),.nilS,.nilS,.nilS] 1 [(0,(t 17))]),s 19 (.app 38 7 120 (t 14) (t 18)),m 5 19]))) (r [s 20 (.bin .add (t 10) (i 1)),m 10 20])))) := ⟨_, by simp only [QQ]; rfl⟩
def A17l0 : ACode := A17l0p.1
def A17p : CX (.seq (r [s 4 (.move ns)]) (.seq (r [s 5 (.move ns)]) (.seq (.seq (r [m 8 0,s 9 (.len (t 8)),s 10 (.move (i 0))]) (.block 0 (.loop A17l0))) (.seq (r [m 21 5,m 4 21]) .ret)))) := ⟨_, by simp only [QQ]; rfl⟩
def A17 : ACode := A17p.1
def R17 : List RV := [.tmp 4]
theorem is17 : Is Tryz.prog (fun _ _ => false) 17 22 A17 R17 := ⟨Tryz.f17, Tryz.func17, rfl, by kernel_rfl, by kernel_rfl, Tryz.call17⟩
def A18p : CX (.seq (r [s 1 (.box (t 0)),s 2 (.alloc [(.int .u8 0),(.str []),(.str []),(.int .i64 0),.nilS,.nilS,.nilS])]) (.seq (.dregion [⟨0,fa 3 4 1,[]⟩,⟨1,l 4 3,[]⟩,⟨3,fa 6 5 1,[]⟩,⟨4,l 7 6,[]⟩,⟨6,fa 9 6 1,[]⟩,⟨7,l 10 9,[]⟩,⟨2,c 5 35 [(t 4),(.func 36)],[3,4,6,7]⟩,⟨9,fa 12 4 1,[]⟩,⟨5,c 8 17 [(t 7),(.func 18)],[6,7,9]⟩,⟨8,c 11 17 [(t 10),(.func 18)],[9]⟩,⟨10,sn (.store 1 (t 12) (t 5)),[]⟩,⟨11,fa 13 5 1,[]⟩,⟨12,sn (.store 1 (t 13) (t 8)),[]⟩,⟨13,fa 14 6 1,[]⟩,⟨14,sn (.store 1 (t 14) (t 11)),[]⟩]) (.seq (r [s 15 (.load 7 true (t 1)),sn (.store 7 (t 2) (t 15))]) .ret))) := ⟨_, by simp only [QQ]; rfl⟩
def A18 : ACode := A18p.1
def R18 : List RV := [.cell 2 7 true]
theorem is18 : Is Tryz.prog (fun _ _ => false) 18 16 A18 R18 := ⟨Tryz.f18, Tryz.func18, rfl, by kernel_rfl, by kernel_rfl, Tryz.call18⟩
def A19l0p : CX (.seq (r [s 20 (.bin .lss (t 19) (t 18))]) (.seq (.cond (t 20) .skip (.exit 0)) (.seq (.block 1 (.seq (r [s 21 (.idxA 4 (t 17) (t 19)),s 22 (.load 4 true (t 21)),s 4 (.alloc [(.str []),.nilS,(.int .i64 0),.nilS]),sn (.store 4 (t 4) (t 22))]) (.seq (r [s 5 (.alloc [(.int .i64 0),(.int .i64 0),(.int .i64 0),(.bool false)])]) (.seq (r [fa 23 3 4,l 24 23,c 25 37 [(t 5),(t 24),(i 1)]]) (.seq (r [fa 26 1 4,l 27 26,s 28 (.len (t 27)),s 29 (.bin .gtr (t 28) (i 8)),m 30 29,fb 31 30 1 4,fl 32 30 31,gf 33 30 (.len (t 32)),fb 34 30 1 5,fl 35 30 34,gf 36 30 (.bin .add (t 33) (t 35)),gf 37 30 (.bin .gtr (t 36) (i 40)),s 38 (.pick (t 30) b1 (t 37)),m 39 38,fb 40 39 0 5,fl 41 39 40,gf 42 39 (.bin .gtr (t 41) (i 100)),s 43 (.pick (t 39) b1 (t 42)),m 44 43,fb 45 44 2 5,fl 46 44 45,gf 47 44 (.bin .gtr (t 46) (i 8)),s 48 (.pick (t 44) b1 (t 47)),m 49 48,fb 50 49 3 5,fl 51 49 50,s 52 (.pick (t 49) b1 (t 51))]) (.cond (t 52) (.seq (r [s 2 (.move b1)]) .ret) .skip)))))) (r [s 53 (.bin .add (t 19) (i 1)),m 19 53])))) := ⟨_, by simp only [QQ]; rfl⟩
def A19l0 : ACode := A19l0p.1
def A19p : CX (.seq (r [s 1 (.box (t 0)),s 2 (.move b0)]) (.seq (.seq (r [fa 6 0 1,l 7 6,s 8 (.len (t 7)),s 9 (.bin .gtr (t 8) (i 8)),m 10 9,fb 11 10 1 1,fl 12 10 11,gf 13 10 (.len (t 12)),gf 14 10 (.bin .gtr (t 13) (i 16)),s 15 (.pick (t 10) b1 (t 14))]) (.cond (t 15) (.seq (r [s 2 (.move b1)]) .ret) .skip)) (.seq (.seq (r [fa 16 1 1,l 17 16,s 18 (.len (t 17)),s 19 (.move (i 0))]) (.block 0 (.loop A19l0))) (.seq (r [s 2 (.move b0)]) .ret)))) := ⟨_, by simp only [QQ]; rfl⟩
def A19 : ACode := A19p.1
def R19 : List RV := [.tmp 2]
theorem is19 : Is Tryz.prog (fun _ _ => false) 19 54 A19 R19 := ⟨Tryz.f19, Tryz.func19, rfl, by kernel_rfl, by kernel_rfl, Tryz.call19⟩
def A20p : CX (.seq (r [s 3 (.box (t 1)),s 4 (.move b0)]) (.seq (r [m 5 0,s 6 (.mkfn (.func 39) [(t 3)]),c 7 38 [(t 5),(t 6)],s 8 (.un .not (t 7)),m 4 8]) .ret)) := ⟨_, by simp only [QQ]; rfl⟩
def A20 : ACode := A20p.1
def R20 : List RV := [.tmp 4]
theorem is20 : Is Tryz.prog (fun _ _ => false) 20 9 A20 R20 := ⟨Tryz.f20, Tryz.func20, rfl, by kernel_rfl, by kernel_rfl, Tryz.call20⟩
def A21p : CX (.seq (r [s 1 (.box (t 0)),s 2 (.move b0)]) (.seq (r [fa 3 0 1,l 4 3,c 5 40 [(t 4)],m 6 5,ta 7 6 1 1,tl 8 6 7,tc 9 6 41 [(t 8)],s 10 (.pick (t 6) (t 9) b0),m 11 10,ta 12 11 1 1,tl 13 11 12,gt 14 11 (.bin .gtr (t 13) (i 1)),s 15 (.pick (t 11) (t 14) b0),m 16 15,ta 17 16 2 1,tl 18 16 17,gt 19 16 (.bin .geq (t 18) (i 1)),s 20 (.pick (t 16) (t 19) b0),m 21 20,ta 22 21 2 1,tl 23 21 22,gt 24 21 (.bin .leq (t 23) (i 64)),s 25 (.pick (t 21) (t 24) b0),m 26 25,ta 27 26 2 1,tl 28 26 27,ta 29 26 2 1,tl 30 26 29,gt 31 26 (.bin .sub (t 30) (i 1)),gt 32 26 (.bin .and (t 28) (t 31)),gt 33 26 (.bin .eql (t 32) (i 0)),s 34 (.pick (t 26) (t 33) b0),m 2 34]) .ret)) := ⟨_, by simp only [QQ]; rfl⟩
def A21 : ACode := A21p.1
def R21 : List RV := [.tmp 2]
theorem is21 : Is Tryz.prog (fun _ _ => false) 21 35 A21 R21 := ⟨Tryz.f21, Tryz.func21, rfl, by kernel_rfl, by kernel_rfl, Tryz.call21⟩
def A22p : CX (.seq (r [s 3 (.box (t 1)),s 4 (.move b0)]) (.seq (r [m 5 0,s 6 (.mkfn (.func 43) [(t 3)]),c 7 42 [(t 5),(t 6)],s 8 (.un .not (t 7)),m 4 8]) .ret)) := ⟨_, by simp only [QQ]; rfl⟩
def A22 : ACode := A22p.1
def R22 : List RV := [.tmp 4]
theorem is22 : Is Tryz.prog (fun _ _ => false) 22 9 A22 R22 := ⟨Tryz.f22, Tryz.func22, rfl, by kernel_rfl, by kernel_rfl, Tryz.call22⟩
def A23p : CX (.seq (r [s 1 (.box (t 0)),s 2 (.move b0)]) (.seq (r [fa 4 1 1,l 5 4,c 6 44 [(t 5),(.func 45)],m 3 6]) (.seq (r [fa 7 0 1,l 8 7,c 9 40 [(t 8)],m 10 9,gt 11 10 (.move (t 3)),s 12 (.pick (t 10) (t 11) b0),m 13 12,ta 14 13 2 1,tl 15 13 14,gt 16 13 (.bin .eql (t 15) (i 0)),gt 17 13 (.move (t 16)),fb 18 17 2 1,fl 19 17 18,fc 20 17 41 [(t 19)],gt 21 13 (.pick (t 17) b1 (t 20)),s 22 (.pick (t 13) (t 21) b0),m 23 22,ta 24 23 3 1,tl 25 23 24,tc 26 23 46 [(t 25),(.func 47)],s 27 (.pick (t 23) (t 26) b0),m 2 27]) .ret))) := ⟨_, by simp only [QQ]; rfl⟩
def A23 : ACode := A23p.1
def R23 : List RV := [.tmp 2]
theorem is23 : Is Tryz.prog (fun _ _ => false) 23 28 A23 R23 := ⟨Tryz.f23, Tryz.func23, rfl, by kernel_rfl, by kernel_rfl, Tryz.call23⟩
def A24l0p : CX (.seq (r [s 19 (.bin .lss (t 18) (t 17))]) (.seq (.cond (t 19) .skip (.exit 0)) (.seq (.block 1 (.seq (r [s 20 (.idxA 2 (t 16) (t 18)),s 21 (.load 2 true (t 20)),s 8 (.alloc [(.str []),(.int .i64 0)]),sn (.store 2 (t 8) (t 21))]) (.seq (r [m 22 6,fa 23 0 8,l 24 23,fa 25 1 8,l 26 25,c 27 48 [(t 22),(t 24),(t 26)],m 9 27]) (.seq (r [m 28 9,s 29 (.bin .neq (t 28) (i 0))]) (.cond (t 29) (.seq (r [m 30 9,s 4 (.move ns),m 5 30]) .ret) .skip))))) (r [s 31 (.bin .add (t 18) (i 1)),m 18 31])))) := ⟨_, by simp only [QQ]; rfl⟩
def A24l0 : ACode := A24l0p.1
def A24p : CX (.seq (r [s 2 (.box (t 0)),s 3 (.box (t 1)),s 4 (.move ns),s 5 (.move (i 0))]) (.seq (r [s 11 (.load 2 true (t 2)),s 12 (.load 4 true (t 3)),s 13 (.build [.nilS,.nilS,(.str []),.nilS,(.int .i64 0),.nilS,.nilS] [(0,2,(t 11)),(2,4,(t 12))]),s 14 (.box (t 13)),m 6 14]) (.seq (.seq (r [fa 15 1 3,l 16 15,s 17 (.len (t 16)),s 18 (.move (i 0))]) (.block 0 (.loop A24l0))) (.seq (r [m 32 6,fa 33 3 3,l 34 33,c 35 49 [(t 32),(t 34),b0],m 10 35]) (.seq (r [m 36 6,s 37 (.nilck (t 36)),fa 38 6 37,l 39 38,m 40 10,m 4 39,m 5 40]) .ret))))) := ⟨_, by simp only [QQ]; rfl⟩
def A24 : ACode := A24p.1
def R24 : List RV := [.tmp 4, .tmp 5]
theorem is24 : Is Tryz.prog (fun _ _ => false) 24 41 A24 R24 := ⟨Tryz.f24, Tryz.func24, rfl, by kernel_rfl, by kernel_rfl, Tryz.call24⟩
def A25l0p : CX (.seq (.seq (r [m 19 3,fa 20 1 1,l 21 20,s 22 (.len (t 21)),s 23 (.bin .lss (t 19) (t 22))]) (.cond (t 23) .skip (.exit 0))) (.seq (.block 1 (.seq (r [fa 26 1 1,l 27 26,m 28 3,s 29 (.idxA 4 (t 27) (t 28)),s 30 (.load 4 true (t 29)),s 4 (.alloc [(.str []),.nilS,(.int .i64 0),.nilS]),sn (.store 4 (t 4) (t 30))]) (.seq (r [fa 32 3 4,l 33 32,c 34 50 [(t 33)],m 31 34,e 35 31 0,e 36 31 1,e 37 31 2,e 38 31 3,m 5 35,m 6 36,m 7 37,m 8 38]) (.seq (r [fa 39 1 4,l 40 39,s 41 (.len (t 40)),s 42 (.bin .gtr (t 41) (i 8)),m 43 42,fb 44 43 1 4,fl 45 43 44,gf 46 43 (.len (t 45)),gf 47 43 (.move (t 6)),gf 48 43 (.bin .add (t 46) (t 47)),gf 49 43 (.bin .gtr (t 48) (i 40)),s 50 (.pick (t 43) b1 (t 49)),m 51 50,gf 52 51 (.move (t 5)),gf 53 51 (.bin .gtr (t 52) (i 100)),s 54 (.pick (t 51) b1 (t 53)),m 55 54,gf 56 55 (.move (t 7)),gf 57 55 (.bin .gtr (t 56) (i 8)),s 58 (.pick (t 55) b1 (t 57)),m 59 58,gf 60 59 (.move (t 8)),s 61 (.pick (t 59) b1 (t 60))]) (.cond (t 61) (.seq (r [s 2 (.move b1)]) .ret) .skip))))) (r [m 24 3,s 25 (.bin .add (t 24) (i 1)),m 3 25]))) := ⟨_, by simp only [QQ]; rfl⟩
def A25l0 : ACode := A25l0p.1
def A25p : CX (.seq (r [s 1 (.box (t 0)),s 2 (.move b0)]) (.seq (.seq (r [fa 9 0 1,l 10 9,s 11 (.len (t 10)),s 12 (.bin .gtr (t 11) (i 8)),m 13 12,fb 14 13 1 1,fl 15 13 14,gf 16 13 (.len (t 15)),gf 17 13 (.bin .gtr (t 16) (i 16)),s 18 (.pick (t 13) b1 (t 17))]) (.cond (t 18) (.seq (r [s 2 (.move b1)]) .ret) .skip)) (.seq (.seq (r [s 3 (.move (i 0))]) (.block 0 (.loop A25l0))) (.seq (r [s 2 (.move b0)]) .ret)))) := ⟨_, by simp only [QQ]; rfl⟩
def A25 : ACode := A25p.1
def R25 : List RV := [.tmp 2]
theorem is25 : Is Tryz.prog (fun _ _ => false) 25 62 A25 R25 := ⟨Tryz.f25, Tryz.func25, rfl, by kernel_rfl, by kernel_rfl, Tryz.call25⟩
def A26l0p : CX (.seq (.seq (r [m 8 3,fa 9 0 1,l 10 9,s 11 (.len (t 10)),s 12 (.bin .lss (t 8) (t 11))]) (.cond (t 12) .skip (.exit 0))) (.seq (.block 1 (.seq (r [fa 15 0 1,l 16 15,m 17 3,s 18 (.idxA 3 (t 16) (t 17)),s 19 (.load 3 true (t 18)),s 4 (.alloc [(.str []),(.int .i64 0),(.int .i64 0)]),sn (.store 3 (t 4) (t 19))]) (.seq (r [fa 20 0 4,l 21 20,c 22 51 [(t 21)],s 23 (.un .not (t 22)),m 24 23,fb 25 24 1 4,fl 26 24 25,gf 27 24 (.bin .eql (t 26) (i 1)),s 28 (.pick (t 24) b1 (t 27)),m 29 28,fb 30 29 1 4,fl 31 29 30,fc 32 29 52 [(t 31)],gf 33 29 (.un .not (t 32)),s 34 (.pick (t 29) b1 (t 33)),m 35 34,fb 36 35 2 4,fl 37 35 36,gf 38 35 (.bin .lss (t 37) (i 1)),s 39 (.pick (t 35) b1 (t 38)),m 40 39,fb 41 40 2 4,fl 42 40 41,gf 43 40 (.bin .gtr (t 42) (i 64)),s 44 (.pick (t 40) b1 (t 43)),m 45 44,fb 46 45 2 4,fl 47 45 46,fb 48 45 2 4,fl 49 45 48,gf 50 45 (.bin .sub (t 49) (i 1)),gf 51 45 (.bin .and (t 47) (t 50)),gf 52 45 (.bin .neq (t 51) (i 0)),s 53 (.pick (t 45) b1 (t 52))]) (.cond (t 53) (.seq (r [s 2 (.move b0)]) .ret) .skip)))) (r [m 13 3,s 14 (.bin .add (t 13) (i 1)),m 3 14]))) := ⟨_, by simp only [QQ]; rfl⟩
def A26l0 : ACode := A26l0p.1
def A26l1p : CX (.seq (.seq (r [m 66 7,fa 67 1 6,l 68 67,s 69 (.len (t 68)),s 70 (.bin .lss (t 66) (t 69))]) (.cond (t 70) .skip (.exit 4))) (.seq (.block 5 (.seq (r [fa 73 1 6,l 74 73,m 75 7,s 76 (.idxA 2 (t 74) (t 75)),fa 77 0 76,l 78 77,c 79 51 [(t 78)],s 80 (.un .not (t 79)),m 81 80,fb 82 81 1 6,fl 83 81 82,gf 84 81 (.move (t 7)),gf 85 81 (.idxA 2 (t 83) (t 84)),fb 86 81 1 85,fl 87 81 86,fc 88 81 52 [(t 87)],gf 89 81 (.un .not (t 88)),s 90 (.pick (t 81) b1 (t 89))]) (.cond (t 90) (.seq (r [s 2 (.move b0)]) .ret) .skip))) (r [m 71 7,s 72 (.bin .add (t 71) (i 1)),m 7 72]))) := ⟨_, by simp only [QQ]; rfl⟩
def A26l1 : ACode := A26l1p.1
def A26l2p : CX (.seq (.seq (r [m 54 5,fa 55 1 1,l 56 55,s 57 (.len (t 56)),s 58 (.bin .lss (t 54) (t 57))]) (.cond (t 58) .skip (.exit 2))) (.seq (.block 3 (.seq (r [fa 61 1 1,l 62 61,m 63 5,s 64 (.idxA 4 (t 62) (t 63)),s 65 (.load 4 true (t 64)),s 6 (.alloc [(.str []),.nilS,(.int .i64 0),.nilS]),sn (.store 4 (t 6) (t 65))]) (.seq (.seq (r [s 7 (.move (i 0))]) (.block 4 (.loop A26l1))) (.seq (r [fa 91 0 6,l 92 91,c 93 51 [(t 92)],s 94 (.un .not (t 93)),m 95 94,fb 96 95 2 6,fl 97 95 96,gf 98 95 (.bin .neq (t 97) (i 0)),gf 99 95 (.move (t 98)),ta 100 99 2 6,tl 101 99 100,tc 102 99 52 [(t 101)],gt 103 99 (.un .not (t 102)),gf 104 95 (.pick (t 99) (t 103) b0),s 105 (.pick (t 95) b1 (t 104)),m 106 105,fb 107 106 3 6,fl 108 106 107,fc 109 106 53 [(t 108)],gf 110 106 (.un .not (t 109)),s 111 (.pick (t 106) b1 (t 110))]) (.cond (t 111) (.seq (r [s 2 (.move b0)]) .ret) .skip))))) (r [m 59 5,s 60 (.bin .add (t 59) (i 1)),m 5 60]))) := ⟨_, by simp only [QQ]; rfl⟩
def A26l2 : ACode := A26l2p.1
def A26p : CX (.seq (r [s 1 (.box (t 0)),s 2 (.move b0)]) (.seq (.seq (r [s 3 (.move (i 0))]) (.block 0 (.loop A26l0))) (.seq (.seq (r [s 5 (.move (i 0))]) (.block 2 (.loop A26l2))) (.seq (r [fa 112 1 1,l 113 112,s 114 (.len (t 113)),s 115 (.bin .gtr (t 114) (i 0)),m 2 115]) .ret)))) := ⟨_, by simp only [QQ]; rfl⟩
def A26 : ACode := A26p.1
def R26 : List RV := [.tmp 2]
theorem is26 : Is Tryz.prog (fun _ _ => false) 26 116 A26 R26 := ⟨Tryz.f26, Tryz.func26, rfl, by kernel_rfl, by kernel_rfl, Tryz.call26⟩
def A27l0p : CX (.seq (.seq (r [m 12 7,fa 13 1 2,l 14 13,m 15 1,s 16 (.idxA 4 (t 14) (t 15)),fa 17 1 16,l 18 17,s 19 (.len (t 18)),s 20 (.bin .lss (t 12) (t 19))]) (.cond (t 20) .skip (.exit 0))) (.seq (.block 1 (r [m 23 6,fa 24 1 2,l 25 24,m 26 1,s 27 (.idxA 4 (t 25) (t 26)),fa 28 1 27,l 29 28,m 30 7,s 31 (.idxA 2 (t 29) (t 30)),s 32 (.load 2 true (t 31)),c 33 54 [(t 23),(t 32)]])) (r [m 21 7,s 22 (.bin .add (t 21) (i 1)),m 7 22]))) := ⟨_, by simp only [QQ]; rfl⟩
def A27l0 : ACode := A27l0p.1
def A27p : CX (.seq (r [s 2 (.box (t 0)),s 4 (.move ns),s 5 (.move (i 0))]) (.seq (r [s 8 (.load 2 true (t 2)),m 9 1,s 10 (.build [.nilS,.nilS,(.int .i64 0),.nilS,(.int .i64 0)] [(0,2,(t 8)),(2,1,(t 9))]),s 11 (.box (t 10)),m 6 11]) (.seq (.seq (r [s 7 (.move (i 0))]) (.block 0 (.loop A27l0))) (.seq (r [m 34 6,fa 35 1 2,l 36 35,m 37 1,s 38 (.idxA 4 (t 36) (t 37)),fa 39 3 38,l 40 39,c 41 55 [(t 34),(t 40),b0]]) (.seq (.dregion [⟨0,m 42 6,[]⟩,⟨1,s 43 (.nilck (t 42)),[]⟩,⟨2,fa 44 3 43,[]⟩,⟨3,l 45 44,[]⟩,⟨4,m 46 6,[]⟩,⟨5,s 47 (.nilck (t 46)),[]⟩,⟨6,fa 48 4 47,[]⟩,⟨7,l 49 48,[]⟩,⟨8,m 4 45,[]⟩,⟨9,m 5 49,[]⟩]) .ret))))) := ⟨_, by simp only [QQ]; rfl⟩
def A27 : ACode := A27p.1
def R27 : List RV := [.tmp 4, .tmp 5]
theorem is27 : Is Tryz.prog (fun _ _ => false) 27 50 A27 R27 := ⟨Tryz.f27, Tryz.func27, rfl, by kernel_rfl, by kernel_rfl, Tryz.call27⟩
def A28l0p : CX (.seq (r [s 14 (.bin .lss (t 13) (t 12))]) (.seq (.cond (t 14) .skip (.exit 0)) (.seq (.block 1 (.seq (r [m 15 13,m 5 15]) (.seq (.dregion [⟨0,m 16 0,[]⟩,⟨1,m 17 5,[]⟩,⟨2,s 18 (.idxA 3 (t 16) (t 17)),[]⟩,⟨3,s 19 (.load 3 true (t 18)),[]⟩,⟨4,m 20 1,[]⟩,⟨5,m 21 5,[]⟩,⟨6,s 22 (.idxA 3 (t 20) (t 21)),[]⟩,⟨7,s 23 (.load 3 true (t 22)),[]⟩,⟨8,s 24 (.eqS true [.str,.int,.int] (t 19) (t 23)),[]⟩]) (.cond (t 24) (.seq (r [s 4 (.move b0)]) .ret) .skip)))) (r [s 25 (.bin .add (t 13) (i 1)),m 13 25])))) := ⟨_, by simp only [QQ]; rfl⟩
def A28l0 : ACode := A28l0p.1
def A28p : CX (.seq (r [s 4 (.move b0)]) (.seq (.seq (r [m 6 0,s 7 (.len (t 6)),m 8 1,s 9 (.len (t 8)),s 10 (.bin .neq (t 7) (t 9))]) (.cond (t 10) (.seq (r [s 4 (.move b0)]) .ret) .skip)) (.seq (.seq (r [m 11 0,s 12 (.len (t 11)),s 13 (.move (i 0))]) (.block 0 (.loop A28l0))) (.seq (r [s 4 (.move b1)]) .ret)))) := ⟨_, by simp only [QQ]; rfl⟩
def A28 : ACode := A28p.1
def R28 : List RV := [.tmp 4]
theorem is28 : Is Tryz.prog (fun _ _ => false) 28 26 A28 R28 := ⟨Tryz.f28, Tryz.func28, rfl, by kernel_rfl, by kernel_rfl, Tryz.call28⟩
def A29l0p : CX (.seq (r [s 18 (.bin .lss (t 17) (t 16))]) (.seq (.cond (t 18) .skip (.exit 0)) (.seq (.block 1 (.seq (r [m 19 17,s 20 (.idxA 4 (t 15) (t 17)),s 21 (.load 4 true (t 20)),s 8 (.alloc [(.str []),.nilS,(.int .i64 0),.nilS]),m 7 19,sn (.store 4 (t 8) (t 21))]) (.seq (r [m 22 1,m 23 7,s 24 (.idxA 4 (t 22) (t 23)),s 25 (.load 4 true (t 24)),s 9 (.alloc [(.str []),.nilS,(.int .i64 0),.nilS]),sn (.store 4 (t 9) (t 25))]) (.seq (r [m 26 2,s 27 (.load 4 true (t 8)),s 28 (.load 4 true (t 9)),⟨(some 29),none,.call (t 26) [(t 27),(t 28)]⟩,s 30 (.un .not (t 29))]) (.cond (t 30) (.seq (r [s 6 (.move b0)]) .ret) .skip))))) (r [s 31 (.bin .add (t 17) (i 1)),m 17 31])))) := ⟨_, by simp only [QQ]; rfl⟩
def A29l0 : ACode := A29l0p.1
def A29p : CX (.seq (r [s 6 (.move b0)]) (.seq (.seq (r [m 10 0,s 11 (.len (t 10)),m 12 1,s 13 (.len (t 12)),s 14 (.bin .neq (t 11) (t 13))]) (.cond (t 14) (.seq (r [s 6 (.move b0)]) .ret) .skip)) (.seq (.seq (r [m 15 0,s 16 (.len (t 15)),s 17 (.move (i 0))]) (.block 0 (.loop A29l0))) (.seq (r [s 6 (.move b1)]) .ret)))) := ⟨_, by simp only [QQ]; rfl⟩
def A29 : ACode := A29p.1
def R29 : List RV := [.tmp 6]
theorem is29 : Is Tryz.prog (fun _ _ => false) 29 32 A29 R29 := ⟨Tryz.f29, Tryz.func29, rfl, by kernel_rfl, by kernel_rfl, Tryz.call29⟩
def A30p : CX (.seq (r [s 2 (.box (t 0)),s 3 (.box (t 1)),s 4 (.move b0)]) (.seq (r [fa 5 0 2,l 6 5,fa 7 0 3,l 8 7,s 9 (.bin .eql (t 6) (t 8)),m 10 9,ta 11 10 2 2,tl 12 10 11,ta 13 10 2 3,tl 14 10 13,gt 15 10 (.bin .eql (t 12) (t 14)),s 16 (.pick (t 10) (t 15) b0),m 17 16,ta 18 17 1 2,tl 19 17 18,ta 20 17 1 3,tl 21 17 20,tc 22 17 56 [(t 19),(t 21)],s 23 (.pick (t 17) (t 22) b0),m 24 23,ta 25 24 3 2,tl 26 24 25,ta 27 24 3 3,tl 28 24 27,tc 29 24 57 [(t 26),(t 28),(.func 58)],s 30 (.pick (t 24) (t 29) b0),m 4 30]) .ret)) := ⟨_, by simp only [QQ]; rfl⟩
def A30 : ACode := A30p.1
def R30 : List RV := [.tmp 4]
theorem is30 : Is Tryz.prog (fun _ _ => false) 30 31 A30 R30 := ⟨Tryz.f30, Tryz.func30, rfl, by kernel_rfl, by kernel_rfl, Tryz.call30⟩
def A31l0p : CX (.seq (.seq (r [m 11 5,m 12 0,s 13 (.len (t 12)),s 14 (.bin .lss (t 11) (t 13))]) (.cond (t 14) .skip (.exit 0))) (.seq (.block 1 (.seq (.dregion [⟨0,m 17 0,[]⟩,⟨1,m 18 5,[]⟩,⟨2,s 19 (.idxA 2 (t 17) (t 18)),[]⟩,⟨3,s 20 (.load 2 true (t 19)),[]⟩,⟨4,m 21 1,[]⟩,⟨5,m 22 5,[]⟩,⟨6,s 23 (.idxA 2 (t 21) (t 22)),[]⟩,⟨7,s 24 (.load 2 true (t 23)),[]⟩,⟨8,s 25 (.eqS true [.str,.int] (t 20) (t 24)),[]⟩]) (.cond (t 25) (.seq (r [s 4 (.move b0)]) .ret) .skip))) (r [m 15 5,s 16 (.bin .add (t 15) (i 1)),m 5 16]))) := ⟨_, by simp only [QQ]; rfl⟩
def A31l0 : ACode := A31l0p.1
def A31p : CX (.seq (r [s 4 (.move b0)]) (.seq (.seq (r [m 6 0,s 7 (.len (t 6)),m 8 1,s 9 (.len (t 8)),s 10 (.bin .neq (t 7) (t 9))]) (.cond (t 10) (.seq (r [s 4 (.move b0)]) .ret) .skip)) (.seq (.seq (r [s 5 (.move (i 0))]) (.block 0 (.loop A31l0))) (.seq (r [s 4 (.move b1)]) .ret)))) := ⟨_, by simp only [QQ]; rfl⟩
def A31 : ACode := A31p.1
def R31 : List RV := [.tmp 4]
theorem is31 : Is Tryz.prog (fun _ _ => false) 31 26 A31 R31 := ⟨Tryz.f31, Tryz.func31, rfl, by kernel_rfl, by kernel_rfl, Tryz.call31⟩
def A32l0p : CX (.seq (.seq (r [m 13 5,m 14 0,s 15 (.len (t 14)),s 16 (.bin .lss (t 13) (t 15))]) (.cond (t 16) .skip (.exit 0))) (.seq (.block 1 (.seq (.dregion [⟨0,m 19 0,[]⟩,⟨1,m 20 5,[]⟩,⟨2,s 21 (.idxA 7 (t 19) (t 20)),[]⟩,⟨3,s 22 (.load 7 true (t 21)),[]⟩,⟨4,m 23 1,[]⟩,⟨5,m 24 5,[]⟩,⟨6,s 25 (.idxA 7 (t 23) (t 24)),[]⟩,⟨7,s 26 (.load 7 true (t 25)),[]⟩,⟨8,s 6 (.alloc [(.int .u8 0),(.str []),(.str []),(.int .i64 0),.nilS,.nilS,.nilS]),[0,1,2,3,4,5,6,7]⟩,⟨9,s 7 (.alloc [(.int .u8 0),(.str []),(.str []),(.int .i64 0),.nilS,.nilS,.nilS]),[0,1,2,3,4,5,6,7]⟩,⟨10,sn (.store 7 (t 6) (t 22)),[4,5,6,7]⟩,⟨11,sn (.store 7 (t 7) (t 26)),[]⟩]) (.seq (r [fa 27 0 6,l 28 27,fa 29 0 7,l 30 29,s 31 (.bin .neq (t 28) (t 30)),m 32 31,fb 33 32 1 6,fl 34 32 33,fb 35 32 1 7,fl 36 32 35,gf 37 32 (.bin .neq (t 34) (t 36)),s 38 (.pick (t 32) b1 (t 37)),m 39 38,fb 40 39 2 6,fl 41 39 40,fb 42 39 2 7,fl 43 39 42,gf 44 39 (.bin .neq (t 41) (t 43)),s 45 (.pick (t 39) b1 (t 44)),m 46 45,fb 47 46 3 6,fl 48 46 47,fb 49 46 3 7,fl 50 46 49,gf 51 46 (.bin .neq (t 48) (t 50)),s 52 (.pick (t 46) b1 (t 51)),m 53 52,fb 54 53 4 6,fl 55 53 54,fb 56 53 4 7,fl 57 53 56,fc 58 53 59 [(t 55),(t 57)],gf 59 53 (.un .not (t 58)),s 60 (.pick (t 53) b1 (t 59)),m 61 60,fb 62 61 5 6,fl 63 61 62,fb 64 61 5 7,fl 65 61 64,fc 66 61 32 [(t 63),(t 65)],gf 67 61 (.un .not (t 66)),s 68 (.pick (t 61) b1 (t 67)),m 69 68,fb 70 69 6 6,fl 71 69 70,fb 72 69 6 7,fl 73 69 72,fc 74 69 32 [(t 71),(t 73)],gf 75 69 (.un .not (t 74)),s 76 (.pick (t 69) b1 (t 75))]) (.cond (t 76) (.seq (r [s 4 (.move b0)]) .ret) .skip)))) (r [m 17 5,s 18 (.bin .add (t 17) (i 1)),m 5 18]))) := ⟨_, by simp only [QQ]; rfl⟩
def A32l0 : ACode := A32l0p.1
def A32p : CX (.seq (r [s 4 (.move b0)]) (.seq (.seq (r [m 8 0,s 9 (.len (t 8)),m 10 1,s 11 (.len (t 10)),s 12 (.bin .neq (t 9) (t 11))]) (.cond (t 12) (.seq (r [s 4 (.move b0)]) .ret) .skip)) (.seq (.seq (r [s 5 (.move (i 0))]) (.block 0 (.loop A32l0))) (.seq (r [s 4 (.move b1)]) .ret)))) := ⟨_, by simp only [QQ]; rfl⟩
def A32 : ACode := A32p.1
def R32 : List RV := [.tmp 4]
theorem is32 : Is Tryz.prog (fun _ _ => false) 32 77 A32 R32 := ⟨Tryz.f32, Tryz.func32, rfl, by kernel_rfl, by kernel_rfl, Tryz.call32⟩
def A33l0p : CX (.seq (.seq (r [m 5 4,m 6 0,s 7 (.len (t 6)),s 8 (.bin .lss (t 5) (t 7)),m 9 8,gt 10 9 (.move (t 3)),gt 11 9 (.bin .lss (t 10) (i 100000)),s 12 (.pick (t 9) (t 11) b0)]) (.cond (t 12) .skip (.exit 0))) (.seq (.block 1 (.dregion [⟨0,m 15 3,[]⟩,⟨1,m 16 0,[]⟩,⟨2,m 17 4,[]⟩,⟨3,s 18 (.idxA 6 (t 16) (t 17)),[]⟩,⟨4,fa 19 3 18,[]⟩,⟨5,l 20 19,[]⟩,⟨6,s 21 (.lens (t 20)),[]⟩,⟨7,s 22 (.bin .add (i 1) (t 21)),[]⟩,⟨8,m 23 0,[]⟩,⟨9,m 24 4,[]⟩,⟨10,s 25 (.idxA 6 (t 23) (t 24)),[]⟩,⟨11,fa 26 5 25,[]⟩,⟨12,l 27 26,[]⟩,⟨13,c 28 33 [(t 27)],[0,1,2,3,4,5,6,7]⟩,⟨14,s 29 (.bin .add (t 22) (t 28)),[]⟩,⟨15,s 30 (.bin .add (t 15) (t 29)),[]⟩,⟨16,m 3 30,[]⟩])) (r [m 13 4,s 14 (.bin .add (t 13) (i 1)),m 4 14]))) := ⟨_, by simp only [QQ]; rfl⟩
def A33l0 : ACode := A33l0p.1
def A33p : CX (.seq (r [s 2 (.move (i 0))]) (.seq (r [s 3 (.move (i 0))]) (.seq (.seq (r [s 4 (.move (i 0))]) (.block 0 (.loop A33l0))) (.seq (r [m 31 3,m 2 31]) .ret)))) := ⟨_, by simp only [QQ]; rfl⟩
def A33 : ACode := A33p.1
def R33 : List RV := [.tmp 2]
theorem is33 : Is Tryz.prog (fun _ _ => false) 33 32 A33 R33 := ⟨Tryz.f33, Tryz.func33, rfl, by kernel_rfl, by kernel_rfl, Tryz.call33⟩
def A34l0p : CX (.seq (.seq (r [m 6 4,m 7 0,s 8 (.len (t 7)),s 9 (.bin .lss (t 6) (t 8))]) (.cond (t 9) .skip (.exit 0))) (.seq (.block 1 (.seq (r [m 12 0,m 13 4,s 14 (.idxA 6 (t 12) (t 13)),s 15 (.load 6 true (t 14)),s 5 (.alloc [(.int .u8 0),(.int .i64 0),(.int .u64 0),(.str []),(.int .u8 0),.nilS]),sn (.store 6 (t 5) (t 15))]) (.seq (r [fa 16 5 5,l 17 16,c 18 34 [(t 17)],fa 19 5 5,sn (.store 1 (t 19) (t 18))]) (r [m 20 3,s 21 (.load 6 true (t 5)),s 22 (.buildF [(.int .u8 0),(.int .i64 0),(.int .u64 0),(.str []),(.int .u8 0),.nilS] 1 [(0,(t 21))]),s 23 (.app 41 6 72 (t 20) (t 22)),m 3 23])))) (r [m 10 4,s 11 (.bin .add (t 10) (i 1)),m 4 11]))) := ⟨_, by simp only [QQ]; rfl⟩
def A34l0 : ACode := A34l0p.1
def A34p : CX (.seq (r [s 2 (.move ns)]) (.seq (r [s 3 (.move ns)]) (.seq (.seq (r [s 4 (.move (i 0))]) (.block 0 (.loop A34l0))) (.seq (r [m 24 3,m 2 24]) .ret)))) := ⟨_, by simp only [QQ]; rfl⟩
def A34 : ACode := A34p.1
def R34 : List RV := [.tmp 2]
theorem is34 : Is Tryz.prog (fun _ _ => false) 34 25 A34 R34 := ⟨Tryz.f34, Tryz.func34, rfl, by kernel_rfl, by kernel_rfl, Tryz.call34⟩
def A35l0p : CX (.seq (r [s 11 (.bin .lss (t 10) (t 9))]) (.seq (.cond (t 11) .skip (.exit 0)) (.seq (.block 1 (.seq (r [s 12 (.idxA 6 (t 8) (t 10)),s 13 (.load 6 true (t 12)),s 7 (.alloc [(.int .u8 0),(.int .i64 0),(.int .u64 0),(.str []),(.int .u8 0),.nilS]),sn (.store 6 (t 7) (t 13))]) (r [m 14 5,m 15 1,s 16 (.load 6 true (t 7)),⟨(some 17),none,.call (t 15) [(t 16)]⟩,s 18 (.buildF [(.int .u8 0),(.int .i64 0),(.int .u64 0),(.str []),(.int .u8 0),.nilS] 1 [(0,(t 17))]),s 19 (.app 41 6 72 (t 14) (t 18)),m 5 19]))) (r [s 20 (.bin .add (t 10) (i 1)),m 10 20])))) := ⟨_, by simp only [QQ]; rfl⟩
def A35l0 : ACode := A35l0p.1
def A35p : CX (.seq (r [s 4 (.move ns)]) (.seq (r [s 5 (.move ns)]) (.seq (.seq (r [m 8 0,s 9 (.len (t 8)),s 10 (.move (i 0))]) (.block 0 (.loop A35l0))) (.seq (r [m 21 5,m 4 21]) .ret)))) := ⟨_, by simp only [QQ]; rfl⟩
def A35 : ACode := A35p.1
def R35 : List RV := [.tmp 4]
theorem is35 : Is Tryz.prog (fun _ _ => false) 35 22 A35 R35 := ⟨Tryz.f35, Tryz.func35, rfl, by kernel_rfl, by kernel_rfl, Tryz.call35⟩
def A36p : CX (.seq (r [s 1 (.box (t 0)),s 2 (.alloc [(.int .u8 0),(.int .i64 0),(.int .u64 0),(.str []),(.int .u8 0),.nilS])]) (.seq (r [fa 3 5 1,l 4 3,c 5 35 [(t 4),(.func 36)],fa 6 5 1,sn (.store 1 (t 6) (t 5))]) (.seq (r [s 7 (.load 6 true (t 1)),sn (.store 6 (t 2) (t 7))]) .ret))) := ⟨_, by simp only [QQ]; rfl⟩
def A36 : ACode := A36p.1
def R36 : List RV := [.cell 2 6 true]
theorem is36 : Is Tryz.prog (fun _ _ => false) 36 8 A36 R36 := ⟨Tryz.f36, Tryz.func36, rfl, by kernel_rfl, by kernel_rfl, Tryz.call36⟩
def A37l0p : CX (.seq (r [s 11 (.bin .lss (t 10) (t 9))]) (.seq (.cond (t 11) .skip (.exit 0)) (.seq (.block 1 (.seq (r [s 12 (.idxA 7 (t 8) (t 10)),s 13 (.load 7 true (t 12)),s 7 (.alloc [(.int .u8 0),(.str []),(.str []),(.int .i64 0),.nilS,.nilS,.nilS]),sn (.store 7 (t 7) (t 13))]) (.seq (r [m 14 0,s 15 (.nilck (t 14)),fa 16 0 15,l 17 16,s 18 (.bin .add (t 17) (i 1)),s 19 (.nilck (t 14)),fa 20 0 19,sn (.store 1 (t 20) (t 18))]) (.seq (r [m 21 0,m 22 0,s 23 (.nilck (t 22)),fa 24 2 23,l 25 24,m 26 2,s 27 (.mx (t 25) (t 26)),s 28 (.nilck (t 21)),fa 29 2 28,sn (.store 1 (t 29) (t 27))]) (.seq (.seq (r [fa 30 0 7,l 31 30,s 32 (.bin .eql (t 31) (.const (.int .u8 1)))]) (.cond (t 32) (r [m 33 0,s 34 (.nilck (t 33)),fa 35 1 34,l 36 35,s 37 (.bin .add (t 36) (i 1)),s 38 (.nilck (t 33)),fa 39 1 38,sn (.store 1 (t 39) (t 37))]) .skip)) (.seq (r [m 40 0,m 41 0,s 42 (.nilck (t 41)),fa 43 3 42,l 44 43,m 45 44,fb 46 45 4 7,fl 47 45 46,fc 48 45 60 [(t 47),(.func 61)],s 49 (.pick (t 45) b1 (t 48)),s 50 (.nilck (t 40)),fa 51 3 50,sn (.store 1 (t 51) (t 49))]) (.seq (r [m 52 0,fa 53 5 7,l 54 53,m 55 2,s 56 (.bin .add (t 55) (i 1)),c 57 37 [(t 52),(t 54),(t 56)]]) (r [m 58 0,fa 59 6 7,l 60 59,m 61 2,s 62 (.bin .add (t 61) (i 1)),c 63 37 [(t 58),(t 60),(t 62)]])))))))) (r [s 64 (.bin .add (t 10) (i 1)),m 10 64])))) := ⟨_, by simp only [QQ]; rfl⟩
def A37l0 : ACode := A37l0p.1
def A37p : CX (.seq (r [m 8 1,s 9 (.len (t 8)),s 10 (.move (i 0))]) (.block 0 (.loop A37l0))) := ⟨_, by simp only [QQ]; rfl⟩
def A37 : ACode := A37p.1
def R37 : List RV := []
theorem is37 : Is Tryz.prog (fun _ _ => false) 37 65 A37 R37 := ⟨Tryz.f37, Tryz.func37, rfl, by kernel_rfl, by kernel_rfl, Tryz.call37⟩
def A38p : CX (.seq (r [s 4 (.move b0)]) (.seq (r [m 5 0,m 6 1,c 7 62 [(t 5),(t 6)],s 8 (.bin .geq (t 7) (i 0)),m 4 8]) .ret)) := ⟨_, by simp only [QQ]; rfl⟩
def A38 : ACode := A38p.1
def R38 : List RV := [.tmp 4]
theorem is38 : Is Tryz.prog (fun _ _ => false) 38 9 A38 R38 := ⟨Tryz.f38, Tryz.func38, rfl, by kernel_rfl, by kernel_rfl, Tryz.call38⟩
def A39p : CX (.seq (r [s 2 (.box (t 0)),s 3 (.move b0)]) (.seq (r [l 4 1,s 5 (.load 3 true (t 2)),⟨(some 6),none,.call (t 4) [(t 5)]⟩,s 7 (.un .not (t 6)),m 3 7]) .ret)) := ⟨_, by simp only [QQ]; rfl⟩
def A39 : ACode := A39p.1
def R39 : List RV := [.tmp 3]
theorem is39 : Is Tryz.prog (fun _ _ => false) 39 8 A39 R39 := ⟨Tryz.f39, Tryz.func39, rfl, by kernel_rfl, by kernel_rfl, Tryz.call39⟩
def A40p : CX (.seq (r [s 2 (.move b0)]) (.seq (r [m 3 0,c 4 63 [(t 3)],m 5 4,tc 6 5 65 [],gt 7 5 (.move (t 0)),tc 8 5 64 [(t 6),(t 7)],gt 9 5 (.un .not (t 8)),s 10 (.pick (t 5) (t 9) b0),m 2 10]) .ret)) := ⟨_, by simp only [QQ]; rfl⟩
def A40 : ACode := A40p.1
def R40 : List RV := [.tmp 2]
theorem is40 : Is Tryz.prog (fun _ _ => false) 40 11 A40 R40 := ⟨Tryz.f40, Tryz.func40, rfl, by kernel_rfl, by kernel_rfl, Tryz.call40⟩
def A41p : CX (.seq (r [s 2 (.move b0)]) (.seq (r [m 3 0,c 4 66 [(t 3)],s 5 (.bin .neq (t 4) (.const (.string ⟨#[]⟩))),m 2 5]) .ret)) := ⟨_, by simp only [QQ]; rfl⟩
def A41 : ACode := A41p.1
def R41 : List RV := [.tmp 2]
theorem is41 : Is Tryz.prog (fun _ _ => false) 41 6 A41 R41 := ⟨Tryz.f41, Tryz.func41, rfl, by kernel_rfl, by kernel_rfl, Tryz.call41⟩
def A42p : CX (.seq (r [s 4 (.move b0)]) (.seq (r [m 5 0,m 6 1,c 7 67 [(t 5),(t 6)],s 8 (.bin .geq (t 7) (i 0)),m 4 8]) .ret)) := ⟨_, by simp only [QQ]; rfl⟩
def A42 : ACode := A42p.1
def R42 : List RV := [.tmp 4]
theorem is42 : Is Tryz.prog (fun _ _ => false) 42 9 A42 R42 := ⟨Tryz.f42, Tryz.func42, rfl, by kernel_rfl, by kernel_rfl, Tryz.call42⟩
def A43p : CX (.seq (r [s 2 (.box (t 0)),s 3 (.move b0)]) (.seq (r [l 4 1,s 5 (.load 4 true (t 2)),⟨(some 6),none,.call (t 4) [(t 5)]⟩,s 7 (.un .not (t 6)),m 3 7]) .ret)) := ⟨_, by simp only [QQ]; rfl⟩
def A43 : ACode := A43p.1
def R43 : List RV := [.tmp 3]
theorem is43 : Is Tryz.prog (fun _ _ => false) 43 8 A43 R43 := ⟨Tryz.f43, Tryz.func43, rfl, by kernel_rfl, by kernel_rfl, Tryz.call43⟩
def A44p : CX (.seq (r [s 3 (.box (t 1)),s 4 (.move b0)]) (.seq (r [m 5 0,s 6 (.mkfn (.func 69) [(t 3)]),c 7 68 [(t 5),(t 6)],s 8 (.un .not (t 7)),m 4 8]) .ret)) := ⟨_, by simp only [QQ]; rfl⟩
def A44 : ACode := A44p.1
def R44 : List RV := [.tmp 4]
theorem is44 : Is Tryz.prog (fun _ _ => false) 44 9 A44 R44 := ⟨Tryz.f44, Tryz.func44, rfl, by kernel_rfl, by kernel_rfl, Tryz.call44⟩
def A45p : CX (.seq (r [s 1 (.box (t 0)),s 2 (.move b0)]) (.seq (r [fa 3 0 1,l 4 3,c 5 40 [(t 4)],m 6 5,ta 7 6 1 1,tl 8 6 7,tc 9 6 41 [(t 8)],s 10 (.pick (t 6) (t 9) b0),m 2 10]) .ret)) := ⟨_, by simp only [QQ]; rfl⟩
def A45 : ACode := A45p.1
def R45 : List RV := [.tmp 2]
theorem is45 : Is Tryz.prog (fun _ _ => false) 45 11 A45 R45 := ⟨Tryz.f45, Tryz.func45, rfl, by kernel_rfl, by kernel_rfl, Tryz.call45⟩
def A46p : CX (.seq (r [s 3 (.box (t 1)),s 4 (.move b0)]) (.seq (r [m 5 0,s 6 (.mkfn (.func 71) [(t 3)]),c 7 70 [(t 5),(t 6)],s 8 (.un .not (t 7)),m 4 8]) .ret)) := ⟨_, by simp only [QQ]; rfl⟩
def A46 : ACode := A46p.1
def R46 : List RV := [.tmp 4]
theorem is46 : Is Tryz.prog (fun _ _ => false) 46 9 A46 R46 := ⟨Tryz.f46, Tryz.func46, rfl, by kernel_rfl, by kernel_rfl, Tryz.call46⟩
def A47p : CX (.seq (r [s 1 (.box (t 0)),s 2 (.move b0)]) (.seq (r [s 3 (.move b0),s 4 (.move (i 1))]) (.seq (.seq (r [fa 7 0 1,l 8 7]) (.block 0 (.seq (.seq (r [s 10 (.bin .eql (t 8) (.const (.int .u8 1))),m 9 10]) (.cond (t 9) .skip (r [s 11 (.bin .eql (t 8) (.const (.int .u8 2))),m 9 11]))) (.cond (t 9) (r [s 3 (.move b1)]) (.seq (r [s 13 (.bin .eql (t 8) (.const (.int .u8 3))),m 12 13]) (.cond (t 12) (r [s 3 (.move b1),s 4 (.move (i 2))]) (.seq (.seq (r [s 15 (.bin .eql (t 8) (.const (.int .u8 4))),m 14 15]) (.cond (t 14) .skip (.seq (r [s 16 (.bin .eql (t 8) (.const (.int .u8 5))),m 14 16]) (.cond (t 14) .skip (r [s 17 (.bin .eql (t 8) (.const (.int .u8 7))),m 14 17]))))) (.cond (t 14) .skip (.seq (r [s 19 (.bin .eql (t 8) (.const (.int .u8 6))),m 18 19]) (.cond (t 18) (r [s 4 (.move (i 0))]) (.seq (r [s 21 (.bin .eql (t 8) (.const (.int .u8 8))),m 20 21]) (.cond (t 20) (r [fa 22 4 1,l 23 22,s 24 (.len (t 23)),s 25 (.mn (t 24) (i 1)),m 4 25]) (.seq (r [s 27 (.bin .eql (t 8) (.const (.int .u8 9))),m 26 27]) (.cond (t 26) (.dregion [⟨0,fa 28 1 1,[]⟩,⟨1,l 29 28,[]⟩,⟨2,s 30 (.bin .neq (t 29) (.const (.string ⟨#[]⟩))),[]⟩,⟨3,fa 31 4 1,[]⟩,⟨4,l 32 31,[]⟩,⟨5,s 33 (.len (t 32)),[]⟩,⟨6,m 3 30,[]⟩,⟨7,m 4 33,[]⟩]) (.seq (r [s 2 (.move b0)]) .ret))))))))))))))) (.seq (.dregion [⟨0,fa 34 0 1,[]⟩,⟨1,l 35 34,[]⟩,⟨2,s 36 (.bin .eql (t 35) (.const (.int .u8 4))),[]⟩,⟨3,m 37 36,[]⟩,⟨4,fb 38 37 0 1,[]⟩,⟨5,fl 39 37 38,[]⟩,⟨6,gf 40 37 (.bin .eql (t 39) (.const (.int .u8 5))),[]⟩,⟨7,s 41 (.pick (t 37) b1 (t 40)),[]⟩,⟨8,fa 42 0 1,[]⟩,⟨9,l 43 42,[]⟩,⟨10,s 44 (.bin .eql (t 43) (.const (.int .u8 4))),[]⟩,⟨11,m 5 41,[]⟩,⟨12,m 6 44,[]⟩]) (.seq (.seq (r [m 45 3,m 46 45,ta 47 46 1 1,tl 48 46 47,tc 49 46 40 [(t 48)],gt 50 46 (.un .not (t 49)),s 51 (.pick (t 46) (t 50) b0),m 52 51,gf 53 52 (.move (t 3)),gf 54 52 (.un .not (t 53)),gf 55 52 (.move (t 54)),ta 56 55 1 1,tl 57 55 56,gt 58 55 (.bin .neq (t 57) (.const (.string ⟨#[]⟩))),gf 59 52 (.pick (t 55) (t 58) b0),s 60 (.pick (t 52) b1 (t 59)),m 61 60,fb 62 61 4 1,fl 63 61 62,gf 64 61 (.len (t 63)),gf 65 61 (.move (t 4)),gf 66 61 (.bin .neq (t 64) (t 65)),s 67 (.pick (t 61) b1 (t 66)),m 68 67,gf 69 68 (.move (t 5)),gf 70 68 (.un .not (t 69)),gf 71 68 (.move (t 70)),ta 72 71 5 1,tl 73 71 72,gt 74 71 (.len (t 73)),gt 75 71 (.bin .gtr (t 74) (i 0)),gf 76 68 (.pick (t 71) (t 75) b0),s 77 (.pick (t 68) b1 (t 76)),m 78 77,gf 79 78 (.move (t 6)),gf 80 78 (.un .not (t 79)),gf 81 78 (.move (t 80)),ta 82 81 6 1,tl 83 81 82,gt 84 81 (.len (t 83)),gt 85 81 (.bin .gtr (t 84) (i 0)),gf 86 78 (.pick (t 81) (t 85) b0),s 87 (.pick (t 78) b1 (t 86))]) (.cond (t 87) (.seq (r [s 2 (.move b0)]) .ret) .skip)) (.seq (.seq (r [fa 88 0 1,l 89 88,s 90 (.bin .eql (t 89) (.const (.int .u8 9))),m 91 90,ta 92 91 2 1,tl 93 91 92,tc 94 91 40 [(t 93)],gt 95 91 (.un .not (t 94)),s 96 (.pick (t 91) (t 95) b0),m 97 96,fb 98 97 0 1,fl 99 97 98,gf 100 97 (.bin .neq (t 99) (.const (.int .u8 9))),gf 101 97 (.move (t 100)),ta 102 101 2 1,tl 103 101 102,gt 104 101 (.bin .neq (t 103) (.const (.string ⟨#[]⟩))),gf 105 97 (.pick (t 101) (t 104) b0),s 106 (.pick (t 97) b1 (t 105))]) (.cond (t 106) (.seq (r [s 2 (.move b0)]) .ret) .skip)) (.seq (.seq (r [fa 107 0 1,l 108 107,s 109 (.bin .eql (t 108) (.const (.int .u8 1))),m 110 109,ta 111 110 3 1,tl 112 110 111,tc 113 110 41 [(t 112)],gt 114 110 (.un .not (t 113)),s 115 (.pick (t 110) (t 114) b0),m 116 115,fb 117 116 0 1,fl 118 116 117,gf 119 116 (.bin .neq (t 118) (.const (.int .u8 1))),gf 120 116 (.move (t 119)),ta 121 120 3 1,tl 122 120 121,gt 123 120 (.bin .neq (t 122) (i 0)),gf 124 116 (.pick (t 120) (t 123) b0),s 125 (.pick (t 116) b1 (t 124))]) (.cond (t 125) (.seq (r [s 2 (.move b0)]) .ret) .skip)) (.seq (r [fa 126 4 1,l 127 126,c 128 72 [(t 127),(.func 73)],m 129 128,ta 130 129 5 1,tl 131 129 130,tc 132 129 46 [(t 131),(.func 47)],s 133 (.pick (t 129) (t 132) b0),m 134 133,ta 135 134 6 1,tl 136 134 135,tc 137 134 46 [(t 136),(.func 47)],s 138 (.pick (t 134) (t 137) b0),m 2 138]) .ret)))))))) := ⟨_, by simp only [QQ]; rfl⟩
def A47 : ACode := A47p.1
def R47 : List RV := [.tmp 2]
theorem is47 : Is Tryz.prog (fun _ _ => false) 47 139 A47 R47 := ⟨Tryz.f47, Tryz.func47, rfl, by kernel_rfl, by kernel_rfl, Tryz.call47⟩
def A48p : CX (.seq (r [s 6 (.move (i 0))]) (.seq (.seq (r [m 7 0,m 8 1,c 9 74 [(t 7),(t 8)],s 10 (.bin .gtr (t 9) (i 0)),m 11 10,gf 12 11 (.move (t 0)),gf 13 11 (.nilck (t 12)),fb 14 11 0 13,gf 15 11 (.load 2 true (t 14)),gf 16 11 (.move (t 1)),fc 17 11 75 [(t 15),(t 16)],gf 18 11 (.bin .geq (t 17) (i 0)),s 19 (.pick (t 11) b1 (t 18))]) (.cond (t 19) (.seq (r [s 6 (.move (i 18))]) .ret) .skip)) (.seq (r [m 20 0,m 21 0,s 22 (.nilck (t 21)),fa 23 6 22,l 24 23,m 25 1,m 26 2,s 27 (.build [(.str []),(.int .i64 0)] [(0,1,(t 25)),(1,1,(t 26))]),s 28 (.buildF [(.str []),(.int .i64 0)] 1 [(0,(t 27))]),s 29 (.app 45 2 24 (t 24) (t 28)),s 30 (.nilck (t 20)),fa 31 6 30,sn (.store 1 (t 31) (t 29))]) (.seq (r [s 6 (.move (i 0))]) .ret)))) := ⟨_, by simp only [QQ]; rfl⟩
def A48 : ACode := A48p.1
def R48 : List RV := [.tmp 6]
theorem is48 : Is Tryz.prog (fun _ _ => false) 48 32 A48 R48 := ⟨Tryz.f48, Tryz.func48, rfl, by kernel_rfl, by kernel_rfl, Tryz.call48⟩
end Go.Proofs.YtkfldbimfbacmaaGreatDoor
namespace Go.Proofs.YtkfldbimfbacmaaGreatDoor
open Go Go.Ab Go.Sa Go.Proofs
set_option maxRecDepth 100000
def A49l0p : CX (.seq (r [s 25 (.bin .lss (t 24) (t 23))]) (.seq (.cond (t 25) .skip (.exit 2)) (.seq (.block 3 (.seq (r [s 26 (.idxA 6 (t 22) (t 24)),s 27 (.load 6 true (t 26)),s 11 (.alloc [(.int .u8 0),(.int .i64 0),(.int .u64 0),(.str []),(.int .u8 0),.nilS]),sn (.store 6 (t 11) (t 27))]) (.seq (r [m 29 0,s 30 (.load 6 true (t 11)),c 31 76 [(t 29),(t 30)],m 28 31,e 32 28 0,e 33 28 1,m 12 32,m 13 33]) (.seq (.seq (r [m 34 13,s 35 (.bin .neq (t 34) (i 0))]) (.cond (t 35) (.seq (r [m 36 13,m 6 36]) .ret) .skip)) (r [m 37 9,m 38 12,s 39 (.buildF [(.int .i64 0)] 1 [(0,(t 38))]),s 40 (.app 3 1 8 (t 37) (t 39)),m 9 40]))))) (r [s 41 (.bin .add (t 24) (i 1)),m 24 41])))) := ⟨_, by simp only [QQ]; rfl⟩
def A49l0 : ACode := A49l0p.1
def A49l1p : CX (.seq (r [s 18 (.bin .lss (t 17) (t 16))]) (.seq (.cond (t 18) .skip (.exit 0)) (.seq (.block 1 (.seq (r [s 19 (.idxA 7 (t 15) (t 17)),s 20 (.load 7 true (t 19)),s 8 (.alloc [(.int .u8 0),(.str []),(.str []),(.int .i64 0),.nilS,.nilS,.nilS]),sn (.store 7 (t 8) (t 20))]) (.seq (r [s 9 (.move ns)]) (.seq (.seq (r [fa 21 4 8,l 22 21,s 23 (.len (t 22)),s 24 (.move (i 0))]) (.block 2 (.loop A49l0))) (.seq (r [m 42 0,s 43 (.load 7 true (t 8)),m 44 9,m 45 2,c 46 77 [(t 42),(t 43),(t 44),(t 45)],m 14 46]) (.seq (.seq (r [m 47 14,s 48 (.bin .eql (t 47) (i 0))]) (.cond (t 48) (r [m 49 0,fa 50 5 8,l 51 50,m 52 2,m 53 52,fb 54 53 0 8,fl 55 53 54,gf 56 53 (.bin .eql (t 55) (.const (.int .u8 5))),s 57 (.pick (t 53) b1 (t 56)),c 58 49 [(t 49),(t 51),(t 57)],m 14 58]) .skip)) (.seq (.seq (r [m 59 14,s 60 (.bin .eql (t 59) (i 0))]) (.cond (t 60) (r [m 61 0,fa 62 6 8,l 63 62,m 64 2,c 65 49 [(t 61),(t 63),(t 64)],m 14 65]) .skip)) (.seq (r [m 66 14,s 67 (.bin .neq (t 66) (i 0))]) (.cond (t 67) (.seq (r [m 68 14,m 6 68]) .ret) .skip))))))))) (r [s 69 (.bin .add (t 17) (i 1)),m 17 69])))) := ⟨_, by simp only [QQ]; rfl⟩
def A49l1 : ACode := A49l1p.1
def A49p : CX (.seq (r [s 6 (.move (i 0))]) (.seq (.seq (r [m 15 1,s 16 (.len (t 15)),s 17 (.move (i 0))]) (.block 0 (.loop A49l1))) (.seq (r [s 6 (.move (i 0))]) .ret))) := ⟨_, by simp only [QQ]; rfl⟩
def A49 : ACode := A49p.1
def R49 : List RV := [.tmp 6]
theorem is49 : Is Tryz.prog (fun _ _ => false) 49 70 A49 R49 := ⟨Tryz.f49, Tryz.func49, rfl, by kernel_rfl, by kernel_rfl, Tryz.call49⟩
def A50l0p : CX (.seq (.seq (r [m 32 7,m 33 0,m 34 6,s 35 (.idxA 7 (t 33) (t 34)),fa 36 4 35,l 37 36,s 38 (.len (t 37)),s 39 (.bin .lss (t 32) (t 38))]) (.cond (t 39) .skip (.exit 2))) (.seq (.block 3 (r [m 42 5,m 43 42,gf 44 43 (.move (t 0)),gf 45 43 (.move (t 6)),gf 46 43 (.idxA 7 (t 44) (t 45)),fb 47 43 4 46,fl 48 43 47,gf 49 43 (.move (t 7)),gf 50 43 (.idxA 6 (t 48) (t 49)),gf 51 43 (.load 6 true (t 50)),fc 52 43 78 [(t 51)],s 53 (.pick (t 43) b1 (t 52)),m 5 53])) (r [m 40 7,s 41 (.bin .add (t 40) (i 1)),m 7 41]))) := ⟨_, by simp only [QQ]; rfl⟩
def A50l0 : ACode := A50l0p.1
def A50l1p : CX (.seq (.seq (r [m 16 6,m 17 0,s 18 (.len (t 17)),s 19 (.bin .lss (t 16) (t 18))]) (.cond (t 19) .skip (.exit 0))) (.seq (.block 1 (.seq (r [m 22 2,s 23 (.bin .add (t 22) (i 1)),m 2 23]) (.seq (.seq (r [m 24 0,m 25 6,s 26 (.idxA 7 (t 24) (t 25)),fa 27 0 26,l 28 27,s 29 (.bin .eql (t 28) (.const (.int .u8 1)))]) (.cond (t 29) (r [m 30 3,s 31 (.bin .add (t 30) (i 1)),m 3 31]) .skip)) (.seq (.seq (r [s 7 (.move (i 0))]) (.block 2 (.loop A50l0))) (.seq (r [m 55 0,m 56 6,s 57 (.idxA 7 (t 55) (t 56)),fa 58 5 57,l 59 58,c 60 50 [(t 59)],m 54 60,e 61 54 0,e 62 54 1,e 63 54 2,e 64 54 3,m 8 61,m 9 62,m 10 63,m 11 64]) (.seq (r [m 66 0,m 67 6,s 68 (.idxA 7 (t 66) (t 67)),fa 69 6 68,l 70 69,c 71 50 [(t 70)],m 65 71,e 72 65 0,e 73 65 1,e 74 65 2,e 75 65 3,m 12 72,m 13 73,m 14 74,m 15 75]) (.seq (r [m 76 2,m 77 8,m 78 12,s 79 (.bin .add (t 77) (t 78)),s 80 (.bin .add (t 76) (t 79)),m 2 80]) (.seq (r [m 81 3,m 82 9,m 83 13,s 84 (.bin .add (t 82) (t 83)),s 85 (.bin .add (t 81) (t 84)),m 3 85]) (.seq (r [m 86 4,m 87 10,s 88 (.bin .add (i 1) (t 87)),m 89 14,s 90 (.bin .add (i 1) (t 89)),s 91 (.m (.mx3 (t 86) (t 88) (t 90))),m 4 91]) (r [m 92 5,m 93 92,gf 94 93 (.move (t 11)),s 95 (.pick (t 93) b1 (t 94)),m 96 95,gf 97 96 (.move (t 15)),s 98 (.pick (t 96) b1 (t 97)),m 5 98])))))))))) (r [m 20 6,s 21 (.bin .add (t 20) (i 1)),m 6 21]))) := ⟨_, by simp only [QQ]; rfl⟩
def A50l1 : ACode := A50l1p.1
def A50p : CX (.seq (r [s 2 (.move (i 0)),s 3 (.move (i 0)),s 4 (.move (i 0)),s 5 (.move b0)]) (.seq (.seq (r [s 6 (.move (i 0))]) (.block 0 (.loop A50l1))) (.seq (r [m 99 2,m 100 3,m 101 4,m 102 5,m 2 99,m 3 100,m 4 101,m 5 102]) .ret))) := ⟨_, by simp only [QQ]; rfl⟩
def A50 : ACode := A50p.1
def R50 : List RV := [.tmp 2, .tmp 3, .tmp 4, .tmp 5]
theorem is50 : Is Tryz.prog (fun _ _ => false) 50 103 A50 R50 := ⟨Tryz.f50, Tryz.func50, rfl, by kernel_rfl, by kernel_rfl, Tryz.call50⟩
def A51p : CX (.seq (r [s 2 (.move b0)]) (.seq (r [m 3 0,c 4 79 [(t 3)],m 5 4,gt 6 5 (.move (t 0)),tc 7 5 80 [(t 6)],gt 8 5 (.un .not (t 7)),s 9 (.pick (t 5) (t 8) b0),m 2 9]) .ret)) := ⟨_, by simp only [QQ]; rfl⟩
def A51 : ACode := A51p.1
def R51 : List RV := [.tmp 2]
theorem is51 : Is Tryz.prog (fun _ _ => false) 51 10 A51 R51 := ⟨Tryz.f51, Tryz.func51, rfl, by kernel_rfl, by kernel_rfl, Tryz.call51⟩
def A52p : CX (.seq (r [s 2 (.move b0)]) (.seq (r [m 3 0,s 4 (.bin .eql (t 3) (i 1)),m 5 4,gf 6 5 (.move (t 0)),gf 7 5 (.bin .eql (t 6) (i 8)),s 8 (.pick (t 5) b1 (t 7)),m 9 8,gf 10 9 (.move (t 0)),gf 11 9 (.bin .eql (t 10) (i 16)),s 12 (.pick (t 9) b1 (t 11)),m 13 12,gf 14 13 (.move (t 0)),gf 15 13 (.bin .eql (t 14) (i 32)),s 16 (.pick (t 13) b1 (t 15)),m 2 16]) .ret)) := ⟨_, by simp only [QQ]; rfl⟩
def A52 : ACode := A52p.1
def R52 : List RV := [.tmp 2]
theorem is52 : Is Tryz.prog (fun _ _ => false) 52 17 A52 R52 := ⟨Tryz.f52, Tryz.func52, rfl, by kernel_rfl, by kernel_rfl, Tryz.call52⟩
def A53l0p : CX (.seq (.seq (r [m 4 3,m 5 0,s 6 (.len (t 5)),s 7 (.bin .lss (t 4) (t 6))]) (.cond (t 7) .skip (.exit 0))) (.seq (.block 1 (.seq (r [m 10 0,m 11 3,s 12 (.idxA 7 (t 10) (t 11)),s 13 (.load 7 true (t 12)),c 14 81 [(t 13)],s 15 (.un .not (t 14))]) (.cond (t 15) (.seq (r [s 2 (.move b0)]) .ret) .skip))) (r [m 8 3,s 9 (.bin .add (t 8) (i 1)),m 3 9]))) := ⟨_, by simp only [QQ]; rfl⟩
def A53l0 : ACode := A53l0p.1
def A53p : CX (.seq (r [s 2 (.move b0)]) (.seq (.seq (r [s 3 (.move (i 0))]) (.block 0 (.loop A53l0))) (.seq (r [s 2 (.move b1)]) .ret))) := ⟨_, by simp only [QQ]; rfl⟩
def A53 : ACode := A53p.1
def R53 : List RV := [.tmp 2]
theorem is53 : Is Tryz.prog (fun _ _ => false) 53 16 A53 R53 := ⟨Tryz.f53, Tryz.func53, rfl, by kernel_rfl, by kernel_rfl, Tryz.call53⟩
def A54p : CX (.seq (r [s 3 (.box (t 1))]) (.seq (.dregion [⟨0,m 4 0,[]⟩,⟨1,m 5 0,[]⟩,⟨2,fa 6 0 3,[]⟩,⟨3,l 7 6,[]⟩,⟨4,c 8 83 [(t 5),(t 7)],[0]⟩,⟨5,s 9 (.bin .gtr (t 8) (i 0)),[]⟩,⟨6,m 10 9,[]⟩,⟨7,gf 11 10 (.move (t 0)),[]⟩,⟨8,gf 12 10 (.nilck (t 11)),[]⟩,⟨9,fb 13 10 0 12,[]⟩,⟨10,gf 14 10 (.load 2 true (t 13)),[]⟩,⟨11,fb 15 10 0 3,[]⟩,⟨12,fl 16 10 15,[]⟩,⟨13,fc 17 10 84 [(t 14),(t 16)],[0]⟩,⟨14,gf 18 10 (.bin .geq (t 17) (i 0)),[]⟩,⟨15,s 19 (.pick (t 10) b1 (t 18)),[]⟩,⟨16,c 20 82 [(t 4),(t 19),(i 18)],[]⟩]) (.dregion [⟨0,m 21 0,[]⟩,⟨1,m 22 0,[]⟩,⟨2,s 23 (.nilck (t 22)),[]⟩,⟨3,fa 24 3 23,[]⟩,⟨4,l 25 24,[]⟩,⟨5,s 26 (.load 2 true (t 3)),[]⟩,⟨6,s 27 (.buildF [(.str []),(.int .i64 0)] 1 [(0,(t 26))]),[]⟩,⟨7,s 28 (.app 45 2 24 (t 25) (t 27)),[0]⟩,⟨8,s 29 (.nilck (t 21)),[]⟩,⟨9,fa 30 3 29,[]⟩,⟨10,sn (.store 1 (t 30) (t 28)),[]⟩]))) := ⟨_, by simp only [QQ]; rfl⟩
def A54 : ACode := A54p.1
def R54 : List RV := []
theorem is54 : Is Tryz.prog (fun _ _ => false) 54 31 A54 R54 := ⟨Tryz.f54, Tryz.func54, rfl, by kernel_rfl, by kernel_rfl, Tryz.call54⟩
def A55l0p : CX (.seq (.seq (r [m 7 6,m 8 1,s 9 (.len (t 8)),s 10 (.bin .lss (t 7) (t 9)),m 11 10,gt 12 11 (.move (t 0)),gt 13 11 (.nilck (t 12)),ta 14 11 4 13,tl 15 11 14,gt 16 11 (.bin .eql (t 15) (i 0)),s 17 (.pick (t 11) (t 16) b0)]) (.cond (t 17) .skip (.exit 0))) (.seq (.block 1 (r [m 20 0,m 21 1,m 22 6,s 23 (.idxA 7 (t 21) (t 22)),s 24 (.load 7 true (t 23)),m 25 2,c 26 85 [(t 20),(t 24),(t 25)]])) (r [m 18 6,s 19 (.bin .add (t 18) (i 1)),m 6 19]))) := ⟨_, by simp only [QQ]; rfl⟩
def A55l0 : ACode := A55l0p.1
def A55p : CX (.seq (r [s 6 (.move (i 0))]) (.block 0 (.loop A55l0))) := ⟨_, by simp only [QQ]; rfl⟩
def A55 : ACode := A55p.1
def R55 : List RV := []
theorem is55 : Is Tryz.prog (fun _ _ => false) 55 27 A55 R55 := ⟨Tryz.f55, Tryz.func55, rfl, by kernel_rfl, by kernel_rfl, Tryz.call55⟩
def A56l0p : CX (.seq (r [s 14 (.bin .lss (t 13) (t 12))]) (.seq (.cond (t 14) .skip (.exit 0)) (.seq (.block 1 (.seq (r [m 15 13,m 5 15]) (.seq (.dregion [⟨0,m 16 0,[]⟩,⟨1,m 17 5,[]⟩,⟨2,s 18 (.idxA 2 (t 16) (t 17)),[]⟩,⟨3,s 19 (.load 2 true (t 18)),[]⟩,⟨4,m 20 1,[]⟩,⟨5,m 21 5,[]⟩,⟨6,s 22 (.idxA 2 (t 20) (t 21)),[]⟩,⟨7,s 23 (.load 2 true (t 22)),[]⟩,⟨8,s 24 (.eqS true [.str,.int] (t 19) (t 23)),[]⟩]) (.cond (t 24) (.seq (r [s 4 (.move b0)]) .ret) .skip)))) (r [s 25 (.bin .add (t 13) (i 1)),m 13 25])))) := ⟨_, by simp only [QQ]; rfl⟩
def A56l0 : ACode := A56l0p.1
def A56p : CX (.seq (r [s 4 (.move b0)]) (.seq (.seq (r [m 6 0,s 7 (.len (t 6)),m 8 1,s 9 (.len (t 8)),s 10 (.bin .neq (t 7) (t 9))]) (.cond (t 10) (.seq (r [s 4 (.move b0)]) .ret) .skip)) (.seq (.seq (r [m 11 0,s 12 (.len (t 11)),s 13 (.move (i 0))]) (.block 0 (.loop A56l0))) (.seq (r [s 4 (.move b1)]) .ret)))) := ⟨_, by simp only [QQ]; rfl⟩
def A56 : ACode := A56p.1
def R56 : List RV := [.tmp 4]
theorem is56 : Is Tryz.prog (fun _ _ => false) 56 26 A56 R56 := ⟨Tryz.f56, Tryz.func56, rfl, by kernel_rfl, by kernel_rfl, Tryz.call56⟩
def A57l0p : CX (.seq (r [s 18 (.bin .lss (t 17) (t 16))]) (.seq (.cond (t 18) .skip (.exit 0)) (.seq (.block 1 (.seq (r [m 19 17,s 20 (.idxA 7 (t 15) (t 17)),s 21 (.load 7 true (t 20)),s 8 (.alloc [(.int .u8 0),(.str []),(.str []),(.int .i64 0),.nilS,.nilS,.nilS]),m 7 19,sn (.store 7 (t 8) (t 21))]) (.seq (r [m 22 1,m 23 7,s 24 (.idxA 7 (t 22) (t 23)),s 25 (.load 7 true (t 24)),s 9 (.alloc [(.int .u8 0),(.str []),(.str []),(.int .i64 0),.nilS,.nilS,.nilS]),sn (.store 7 (t 9) (t 25))]) (.seq (r [m 26 2,s 27 (.load 7 true (t 8)),s 28 (.load 7 true (t 9)),⟨(some 29),none,.call (t 26) [(t 27),(t 28)]⟩,s 30 (.un .not (t 29))]) (.cond (t 30) (.seq (r [s 6 (.move b0)]) .ret) .skip))))) (r [s 31 (.bin .add (t 17) (i 1)),m 17 31])))) := ⟨_, by simp only [QQ]; rfl⟩
def A57l0 : ACode := A57l0p.1
def A57p : CX (.seq (r [s 6 (.move b0)]) (.seq (.seq (r [m 10 0,s 11 (.len (t 10)),m 12 1,s 13 (.len (t 12)),s 14 (.bin .neq (t 11) (t 13))]) (.cond (t 14) (.seq (r [s 6 (.move b0)]) .ret) .skip)) (.seq (.seq (r [m 15 0,s 16 (.len (t 15)),s 17 (.move (i 0))]) (.block 0 (.loop A57l0))) (.seq (r [s 6 (.move b1)]) .ret)))) := ⟨_, by simp only [QQ]; rfl⟩
def A57 : ACode := A57p.1
def R57 : List RV := [.tmp 6]
theorem is57 : Is Tryz.prog (fun _ _ => false) 57 32 A57 R57 := ⟨Tryz.f57, Tryz.func57, rfl, by kernel_rfl, by kernel_rfl, Tryz.call57⟩
def A58p : CX (.seq (r [s 2 (.box (t 0)),s 3 (.box (t 1)),s 4 (.move b0)]) (.seq (r [fa 5 0 2,l 6 5,fa 7 0 3,l 8 7,s 9 (.bin .eql (t 6) (t 8)),m 10 9,ta 11 10 1 2,tl 12 10 11,ta 13 10 1 3,tl 14 10 13,gt 15 10 (.bin .eql (t 12) (t 14)),s 16 (.pick (t 10) (t 15) b0),m 17 16,ta 18 17 2 2,tl 19 17 18,ta 20 17 2 3,tl 21 17 20,gt 22 17 (.bin .eql (t 19) (t 21)),s 23 (.pick (t 17) (t 22) b0),m 24 23,ta 25 24 3 2,tl 26 24 25,ta 27 24 3 3,tl 28 24 27,gt 29 24 (.bin .eql (t 26) (t 28)),s 30 (.pick (t 24) (t 29) b0),m 31 30,ta 32 31 4 2,tl 33 31 32,ta 34 31 4 3,tl 35 31 34,tc 36 31 86 [(t 33),(t 35),(.func 87)],s 37 (.pick (t 31) (t 36) b0),m 38 37,ta 39 38 5 2,tl 40 38 39,ta 41 38 5 3,tl 42 38 41,tc 43 38 57 [(t 40),(t 42),(.func 58)],s 44 (.pick (t 38) (t 43) b0),m 45 44,ta 46 45 6 2,tl 47 45 46,ta 48 45 6 3,tl 49 45 48,tc 50 45 57 [(t 47),(t 49),(.func 58)],s 51 (.pick (t 45) (t 50) b0),m 4 51]) .ret)) := ⟨_, by simp only [QQ]; rfl⟩
def A58 : ACode := A58p.1
def R58 : List RV := [.tmp 4]
theorem is58 : Is Tryz.prog (fun _ _ => false) 58 52 A58 R58 := ⟨Tryz.f58, Tryz.func58, rfl, by kernel_rfl, by kernel_rfl, Tryz.call58⟩
def A59l0p : CX (.seq (.seq (r [m 13 5,m 14 0,s 15 (.len (t 14)),s 16 (.bin .lss (t 13) (t 15))]) (.cond (t 16) .skip (.exit 0))) (.seq (.block 1 (.seq (.dregion [⟨0,m 19 0,[]⟩,⟨1,m 20 5,[]⟩,⟨2,s 21 (.idxA 6 (t 19) (t 20)),[]⟩,⟨3,s 22 (.load 6 true (t 21)),[]⟩,⟨4,m 23 1,[]⟩,⟨5,m 24 5,[]⟩,⟨6,s 25 (.idxA 6 (t 23) (t 24)),[]⟩,⟨7,s 26 (.load 6 true (t 25)),[]⟩,⟨8,s 6 (.alloc [(.int .u8 0),(.int .i64 0),(.int .u64 0),(.str []),(.int .u8 0),.nilS]),[0,1,2,3,4,5,6,7]⟩,⟨9,s 7 (.alloc [(.int .u8 0),(.int .i64 0),(.int .u64 0),(.str []),(.int .u8 0),.nilS]),[0,1,2,3,4,5,6,7]⟩,⟨10,sn (.store 6 (t 6) (t 22)),[4,5,6,7]⟩,⟨11,sn (.store 6 (t 7) (t 26)),[]⟩]) (.seq (r [fa 27 0 6,l 28 27,fa 29 0 7,l 30 29,s 31 (.bin .neq (t 28) (t 30)),m 32 31,fb 33 32 1 6,fl 34 32 33,fb 35 32 1 7,fl 36 32 35,gf 37 32 (.bin .neq (t 34) (t 36)),s 38 (.pick (t 32) b1 (t 37)),m 39 38,fb 40 39 2 6,fl 41 39 40,fb 42 39 2 7,fl 43 39 42,gf 44 39 (.bin .neq (t 41) (t 43)),s 45 (.pick (t 39) b1 (t 44)),m 46 45,fb 47 46 3 6,fl 48 46 47,fb 49 46 3 7,fl 50 46 49,gf 51 46 (.bin .neq (t 48) (t 50)),s 52 (.pick (t 46) b1 (t 51)),m 53 52,fb 54 53 4 6,fl 55 53 54,fb 56 53 4 7,fl 57 53 56,gf 58 53 (.bin .neq (t 55) (t 57)),s 59 (.pick (t 53) b1 (t 58)),m 60 59,fb 61 60 5 6,fl 62 60 61,fb 63 60 5 7,fl 64 60 63,fc 65 60 59 [(t 62),(t 64)],gf 66 60 (.un .not (t 65)),s 67 (.pick (t 60) b1 (t 66))]) (.cond (t 67) (.seq (r [s 4 (.move b0)]) .ret) .skip)))) (r [m 17 5,s 18 (.bin .add (t 17) (i 1)),m 5 18]))) := ⟨_, by simp only [QQ]; rfl⟩
def A59l0 : ACode := A59l0p.1
def A59p : CX (.seq (r [s 4 (.move b0)]) (.seq (.seq (r [m 8 0,s 9 (.len (t 8)),m 10 1,s 11 (.len (t 10)),s 12 (.bin .neq (t 9) (t 11))]) (.cond (t 12) (.seq (r [s 4 (.move b0)]) .ret) .skip)) (.seq (.seq (r [s 5 (.move (i 0))]) (.block 0 (.loop A59l0))) (.seq (r [s 4 (.move b1)]) .ret)))) := ⟨_, by simp only [QQ]; rfl⟩
def A59 : ACode := A59p.1
def R59 : List RV := [.tmp 4]
theorem is59 : Is Tryz.prog (fun _ _ => false) 59 68 A59 R59 := ⟨Tryz.f59, Tryz.func59, rfl, by kernel_rfl, by kernel_rfl, Tryz.call59⟩
def A60p : CX (.seq (r [s 4 (.move b0)]) (.seq (r [m 5 0,m 6 1,c 7 88 [(t 5),(t 6)],s 8 (.bin .geq (t 7) (i 0)),m 4 8]) .ret)) := ⟨_, by simp only [QQ]; rfl⟩
def A60 : ACode := A60p.1
def R60 : List RV := [.tmp 4]
theorem is60 : Is Tryz.prog (fun _ _ => false) 60 9 A60 R60 := ⟨Tryz.f60, Tryz.func60, rfl, by kernel_rfl, by kernel_rfl, Tryz.call60⟩
def A61p : CX (.seq (r [s 1 (.box (t 0)),s 2 (.move b0)]) (.seq (r [s 6 (.load 6 true (t 1)),c 7 89 [(t 6)],m 5 7,e 8 5 0,e 9 5 1,m 3 8,m 4 9]) (.seq (r [m 10 3,s 11 (.bin .gtr (t 10) (i 50)),m 12 11,gf 13 12 (.move (t 4)),gf 14 12 (.bin .gtr (t 13) (i 14)),s 15 (.pick (t 12) b1 (t 14)),m 2 15]) .ret))) := ⟨_, by simp only [QQ]; rfl⟩
def A61 : ACode := A61p.1
def R61 : List RV := [.tmp 2]
theorem is61 : Is Tryz.prog (fun _ _ => false) 61 16 A61 R61 := ⟨Tryz.f61, Tryz.func61, rfl, by kernel_rfl, by kernel_rfl, Tryz.call61⟩
def A62l0p : CX (.seq (r [s 9 (.bin .lss (t 8) (t 7))]) (.seq (.cond (t 9) .skip (.exit 0)) (.seq (.block 1 (.seq (r [m 10 8,m 5 10]) (.seq (r [m 11 1,m 12 0,m 13 5,s 14 (.idxA 3 (t 12) (t 13)),s 15 (.load 3 true (t 14)),⟨(some 16),none,.call (t 11) [(t 15)]⟩]) (.cond (t 16) (.seq (r [m 17 5,m 4 17]) .ret) .skip)))) (r [s 18 (.bin .add (t 8) (i 1)),m 8 18])))) := ⟨_, by simp only [QQ]; rfl⟩
def A62l0 : ACode := A62l0p.1
def A62p : CX (.seq (r [s 4 (.move (i 0))]) (.seq (.seq (r [m 6 0,s 7 (.len (t 6)),s 8 (.move (i 0))]) (.block 0 (.loop A62l0))) (.seq (r [s 4 (.move (.const (.int .i64 (-1))))]) .ret))) := ⟨_, by simp only [QQ]; rfl⟩
def A62 : ACode := A62p.1
def R62 : List RV := [.tmp 4]
theorem is62 : Is Tryz.prog (fun _ _ => false) 62 19 A62 R62 := ⟨Tryz.f62, Tryz.func62, rfl, by kernel_rfl, by kernel_rfl, Tryz.call62⟩
def A63l0p : CX (.seq (r [s 17 (.bin .lss (t 16) (t 15))]) (.seq (.cond (t 17) .skip (.exit 0)) (.seq (.block 1 (.seq (r [m 18 16,m 3 18]) (.seq (r [m 19 0,m 20 3,s 21 (.idxs (t 19) (t 20)),m 4 21]) (.seq (r [m 22 4,s 23 (.bin .geq (t 22) (.const (.int .u8 97))),m 24 23,gt 25 24 (.move (t 4)),gt 26 24 (.bin .leq (t 25) (.const (.int .u8 122))),s 27 (.pick (t 24) (t 26) b0),m 28 27,gf 29 28 (.move (t 4)),gf 30 28 (.bin .geq (t 29) (.const (.int .u8 65))),gf 31 28 (.move (t 30)),gt 32 31 (.move (t 4)),gt 33 31 (.bin .leq (t 32) (.const (.int .u8 90))),gf 34 28 (.pick (t 31) (t 33) b0),s 35 (.pick (t 28) b1 (t 34)),m 5 35]) (.seq (r [m 36 5,s 37 (.un .not (t 36)),m 38 37,gt 39 38 (.move (t 3)),gt 40 38 (.bin .eql (t 39) (i 0)),gt 41 38 (.move (t 40)),gf 42 41 (.move (t 4)),gf 43 41 (.bin .neq (t 42) (.const (.int .u8 95))),gf 44 41 (.move (t 43)),gt 45 44 (.move (t 4)),gt 46 44 (.bin .lss (t 45) (.const (.int .u8 48))),gt 47 44 (.move (t 46)),gf 48 47 (.move (t 4)),gf 49 47 (.bin .gtr (t 48) (.const (.int .u8 57))),gt 50 44 (.pick (t 47) b1 (t 49)),gf 51 41 (.pick (t 44) (t 50) b0),gt 52 38 (.pick (t 41) b1 (t 51)),s 53 (.pick (t 38) (t 52) b0)]) (.cond (t 53) (.seq (r [s 2 (.move b0)]) .ret) .skip)))))) (r [s 54 (.bin .add (t 16) (i 1)),m 16 54])))) := ⟨_, by simp only [QQ]; rfl⟩
def A63l0 : ACode := A63l0p.1
def A63p : CX (.seq (r [s 2 (.move b0)]) (.seq (.seq (r [m 6 0,s 7 (.lens (t 6)),s 8 (.bin .lss (t 7) (i 1)),m 9 8,gf 10 9 (.move (t 0)),gf 11 9 (.lens (t 10)),gf 12 9 (.bin .gtr (t 11) (i 24)),s 13 (.pick (t 9) b1 (t 12))]) (.cond (t 13) (.seq (r [s 2 (.move b0)]) .ret) .skip)) (.seq (.seq (r [m 14 0,s 15 (.lens (t 14)),s 16 (.move (i 0))]) (.block 0 (.loop A63l0))) (.seq (r [s 2 (.move b1)]) .ret)))) := ⟨_, by simp only [QQ]; rfl⟩
def A63 : ACode := A63p.1
def R63 : List RV := [.tmp 2]
theorem is63 : Is Tryz.prog (fun _ _ => false) 63 55 A63 R63 := ⟨Tryz.f63, Tryz.func63, rfl, by kernel_rfl, by kernel_rfl, Tryz.call63⟩
def A64p : CX (.seq (r [s 4 (.move b0)]) (.seq (r [m 5 0,m 6 1,c 7 90 [(t 5),(t 6)],s 8 (.bin .geq (t 7) (i 0)),m 4 8]) .ret)) := ⟨_, by simp only [QQ]; rfl⟩
def A64 : ACode := A64p.1
def R64 : List RV := [.tmp 4]
theorem is64 : Is Tryz.prog (fun _ _ => false) 64 9 A64 R64 := ⟨Tryz.f64, Tryz.func64, rfl, by kernel_rfl, by kernel_rfl, Tryz.call64⟩
def A65p : CX (.seq (r [s 0 (.move ns)]) (.seq (r [s 1 (.buildF [(.str [])] 14 [(0,(.const (.string ⟨#[97,114,114,97,121]⟩))),(1,(.const (.string ⟨#[102,117,110,99]⟩))),(2,(.const (.string ⟨#[118,97,114]⟩))),(3,(.const (.string ⟨#[105,102]⟩))),(4,(.const (.string ⟨#[101,108,115,101]⟩))),(5,(.const (.string ⟨#[119,104,105,108,101]⟩))),(6,(.const (.string ⟨#[98,114,101,97,107]⟩))),(7,(.const (.string ⟨#[116,101,108,108]⟩))),(8,(.const (.string ⟨#[114,101,116,117,114,110]⟩))),(9,(.const (.string ⟨#[115,105,103,110,101,100]⟩))),(10,(.const (.string ⟨#[98,105,116]⟩))),(11,(.const (.string ⟨#[98,121,116,101]⟩))),(12,(.const (.string ⟨#[104,97,108,102]⟩))),(13,(.const (.string ⟨#[119,111,114,100]⟩)))]),m 0 1]) .ret)) := ⟨_, by simp only [QQ]; rfl⟩
def A65 : ACode := A65p.1
def R65 : List RV := [.tmp 0]
theorem is65 : Is Tryz.prog (fun _ _ => false) 65 2 A65 R65 := ⟨Tryz.f65, Tryz.func65, rfl, by kernel_rfl, by kernel_rfl, Tryz.call65⟩
def A66l0p : CX (.seq (r [⟨(some 7),none,.call (t 6) [(.const (.tuple #[]))]⟩,e 8 7 0]) (.seq (.cond (t 8) .skip (.exit 0)) (.block 1 (.seq (r [s 9 (.m (.ent (t 6))),e 10 9 0,e 11 9 1,m 3 10,m 4 11]) (.seq (r [m 12 4,m 13 0,s 14 (.bin .eql (t 12) (t 13))]) (.cond (t 14) (.seq (r [m 15 3,m 2 15]) .ret) .skip)))))) := ⟨_, by simp only [QQ]; rfl⟩
def A66l0 : ACode := A66l0p.1
def A66p : CX (.seq (r [s 2 (.move (.const (.string ⟨#[]⟩)))]) (.seq (.seq (r [c 5 91 [],s 6 (.m (.rng (t 5)))]) (.block 0 (.loop A66l0))) (.seq (r [s 2 (.move (.const (.string ⟨#[]⟩)))]) .ret))) := ⟨_, by simp only [QQ]; rfl⟩
def A66 : ACode := A66p.1
def R66 : List RV := [.tmp 2]
theorem is66 : Is Tryz.prog (fun _ _ => false) 66 16 A66 R66 := ⟨Tryz.f66, Tryz.func66, rfl, by kernel_rfl, by kernel_rfl, Tryz.call66⟩
def A67l0p : CX (.seq (r [s 9 (.bin .lss (t 8) (t 7))]) (.seq (.cond (t 9) .skip (.exit 0)) (.seq (.block 1 (.seq (r [m 10 8,m 5 10]) (.seq (r [m 11 1,m 12 0,m 13 5,s 14 (.idxA 4 (t 12) (t 13)),s 15 (.load 4 true (t 14)),⟨(some 16),none,.call (t 11) [(t 15)]⟩]) (.cond (t 16) (.seq (r [m 17 5,m 4 17]) .ret) .skip)))) (r [s 18 (.bin .add (t 8) (i 1)),m 8 18])))) := ⟨_, by simp only [QQ]; rfl⟩
def A67l0 : ACode := A67l0p.1
def A67p : CX (.seq (r [s 4 (.move (i 0))]) (.seq (.seq (r [m 6 0,s 7 (.len (t 6)),s 8 (.move (i 0))]) (.block 0 (.loop A67l0))) (.seq (r [s 4 (.move (.const (.int .i64 (-1))))]) .ret))) := ⟨_, by simp only [QQ]; rfl⟩
def A67 : ACode := A67p.1
def R67 : List RV := [.tmp 4]
theorem is67 : Is Tryz.prog (fun _ _ => false) 67 19 A67 R67 := ⟨Tryz.f67, Tryz.func67, rfl, by kernel_rfl, by kernel_rfl, Tryz.call67⟩
def A68p : CX (.seq (r [s 4 (.move b0)]) (.seq (r [m 5 0,m 6 1,c 7 92 [(t 5),(t 6)],s 8 (.bin .geq (t 7) (i 0)),m 4 8]) .ret)) := ⟨_, by simp only [QQ]; rfl⟩
def A68 : ACode := A68p.1
def R68 : List RV := [.tmp 4]
theorem is68 : Is Tryz.prog (fun _ _ => false) 68 9 A68 R68 := ⟨Tryz.f68, Tryz.func68, rfl, by kernel_rfl, by kernel_rfl, Tryz.call68⟩
def A69p : CX (.seq (r [s 2 (.box (t 0)),s 3 (.move b0)]) (.seq (r [l 4 1,s 5 (.load 2 true (t 2)),⟨(some 6),none,.call (t 4) [(t 5)]⟩,s 7 (.un .not (t 6)),m 3 7]) .ret)) := ⟨_, by simp only [QQ]; rfl⟩
def A69 : ACode := A69p.1
def R69 : List RV := [.tmp 3]
theorem is69 : Is Tryz.prog (fun _ _ => false) 69 8 A69 R69 := ⟨Tryz.f69, Tryz.func69, rfl, by kernel_rfl, by kernel_rfl, Tryz.call69⟩
def A70p : CX (.seq (r [s 4 (.move b0)]) (.seq (r [m 5 0,m 6 1,c 7 93 [(t 5),(t 6)],s 8 (.bin .geq (t 7) (i 0)),m 4 8]) .ret)) := ⟨_, by simp only [QQ]; rfl⟩
def A70 : ACode := A70p.1
def R70 : List RV := [.tmp 4]
theorem is70 : Is Tryz.prog (fun _ _ => false) 70 9 A70 R70 := ⟨Tryz.f70, Tryz.func70, rfl, by kernel_rfl, by kernel_rfl, Tryz.call70⟩
def A71p : CX (.seq (r [s 2 (.box (t 0)),s 3 (.move b0)]) (.seq (r [l 4 1,s 5 (.load 7 true (t 2)),⟨(some 6),none,.call (t 4) [(t 5)]⟩,s 7 (.un .not (t 6)),m 3 7]) .ret)) := ⟨_, by simp only [QQ]; rfl⟩
def A71 : ACode := A71p.1
def R71 : List RV := [.tmp 3]
theorem is71 : Is Tryz.prog (fun _ _ => false) 71 8 A71 R71 := ⟨Tryz.f71, Tryz.func71, rfl, by kernel_rfl, by kernel_rfl, Tryz.call71⟩
def A72p : CX (.seq (r [s 3 (.box (t 1)),s 4 (.move b0)]) (.seq (r [m 5 0,s 6 (.mkfn (.func 94) [(t 3)]),c 7 60 [(t 5),(t 6)],s 8 (.un .not (t 7)),m 4 8]) .ret)) := ⟨_, by simp only [QQ]; rfl⟩
def A72 : ACode := A72p.1
def R72 : List RV := [.tmp 4]
theorem is72 : Is Tryz.prog (fun _ _ => false) 72 9 A72 R72 := ⟨Tryz.f72, Tryz.func72, rfl, by kernel_rfl, by kernel_rfl, Tryz.call72⟩
def A73p : CX (.seq (r [s 1 (.box (t 0)),s 2 (.move b0)]) (.seq (r [fa 7 0 1,l 8 7,fa 9 5 1,l 10 9,s 11 (.build [(.int .u8 0),(.int .i64 0),(.int .u64 0),(.str []),(.int .u8 0),.nilS] [(0,1,(t 8)),(5,1,(t 10))]),s 3 (.alloc [(.int .u8 0),(.int .i64 0),(.int .u64 0),(.str []),(.int .u8 0),.nilS]),sn (.store 6 (t 3) (t 11))]) (.seq (r [s 4 (.move (i 0))]) (.seq (r [s 5 (.move b1)]) (.seq (.seq (r [fa 12 0 1,l 13 12]) (.block 0 (.seq (r [s 15 (.bin .eql (t 13) (.const (.int .u8 1))),m 14 15]) (.cond (t 14) (.seq (.dregion [⟨0,fa 16 1 1,[]⟩,⟨1,l 17 16,[]⟩,⟨2,fa 18 2 1,[]⟩,⟨3,l 19 18,[]⟩,⟨4,fa 20 1 3,[]⟩,⟨5,sn (.store 1 (t 20) (t 17)),[2,3]⟩,⟨6,fa 21 2 3,[]⟩,⟨7,sn (.store 1 (t 21) (t 19)),[]⟩]) (r [fa 22 1 1,l 23 22,c 24 41 [(t 23)],m 25 24,ta 26 25 1 1,tl 27 25 26,ta 28 25 2 1,tl 29 25 28,tc 30 25 95 [(t 27),(t 29)],s 31 (.pick (t 25) (t 30) b0),m 5 31])) (.seq (.seq (r [s 33 (.bin .eql (t 13) (.const (.int .u8 2))),m 32 33]) (.cond (t 32) .skip (r [s 34 (.bin .eql (t 13) (.const (.int .u8 3))),m 32 34]))) (.cond (t 32) (.seq (r [fa 35 3 1,l 36 35,fa 37 3 3,sn (.store 1 (t 37) (t 36))]) (.seq (r [fa 38 3 1,l 39 38,c 40 40 [(t 39)],m 5 40]) (r [fa 41 0 1,l 42 41,s 43 (.bin .sub (t 42) (.const (.int .u8 2))),s 44 (.conv .i64 (t 43)),m 4 44]))) (.seq (.seq (r [s 46 (.bin .eql (t 13) (.const (.int .u8 4))),m 45 46]) (.cond (t 45) .skip (r [s 47 (.bin .eql (t 13) (.const (.int .u8 5))),m 45 47]))) (.cond (t 45) (r [s 4 (.move (i 1))]) (.seq (r [s 49 (.bin .eql (t 13) (.const (.int .u8 6))),m 48 49]) (.cond (t 48) (.seq (r [fa 50 4 1,l 51 50,fa 52 4 3,sn (.store 1 (t 52) (t 51))]) (.seq (r [fa 53 4 1,l 54 53,s 55 (.bin .geq (t 54) (.const (.int .u8 5))),m 56 55,ta 57 56 4 1,tl 58 56 57,gt 59 56 (.bin .leq (t 58) (.const (.int .u8 18))),s 60 (.pick (t 56) (t 59) b0),m 5 60]) (r [s 4 (.move (i 2))]))) (.seq (.seq (r [s 62 (.bin .eql (t 13) (.const (.int .u8 7))),m 61 62]) (.cond (t 61) .skip (r [s 63 (.bin .eql (t 13) (.const (.int .u8 8))),m 61 63]))) (.cond (t 61) (.seq (r [fa 64 1 1,l 65 64,fa 66 1 3,sn (.store 1 (t 66) (t 65))]) (.seq (r [fa 67 1 1,l 68 67,c 69 41 [(t 68)],m 5 69]) (r [s 4 (.move (i 1))]))) (r [s 5 (.move b0)]))))))))))))) (.seq (r [fa 70 1 1,l 71 70,fa 72 1 3,l 73 72,s 74 (.bin .eql (t 71) (t 73)),m 75 74,ta 76 75 2 1,tl 77 75 76,ta 78 75 2 3,tl 79 75 78,gt 80 75 (.bin .eql (t 77) (t 79)),s 81 (.pick (t 75) (t 80) b0),m 82 81,ta 83 82 3 1,tl 84 82 83,ta 85 82 3 3,tl 86 82 85,gt 87 82 (.bin .eql (t 84) (t 86)),s 88 (.pick (t 82) (t 87) b0),m 89 88,ta 90 89 4 1,tl 91 89 90,ta 92 89 4 3,tl 93 89 92,gt 94 89 (.bin .eql (t 91) (t 93)),s 95 (.pick (t 89) (t 94) b0),m 6 95]) (.seq (r [m 96 5,m 97 96,gt 98 97 (.move (t 6)),s 99 (.pick (t 97) (t 98) b0),m 100 99,ta 101 100 5 1,tl 102 100 101,gt 103 100 (.len (t 102)),gt 104 100 (.move (t 4)),gt 105 100 (.bin .eql (t 103) (t 104)),s 106 (.pick (t 100) (t 105) b0),m 107 106,ta 108 107 5 1,tl 109 107 108,tc 110 107 72 [(t 109),(.func 73)],s 111 (.pick (t 107) (t 110) b0),m 2 111]) .ret))))))) := ⟨_, by simp only [QQ]; rfl⟩
def A73 : ACode := A73p.1
def R73 : List RV := [.tmp 2]
theorem is73 : Is Tryz.prog (fun _ _ => false) 73 112 A73 R73 := ⟨Tryz.f73, Tryz.func73, rfl, by kernel_rfl, by kernel_rfl, Tryz.call73⟩
def A74l0p : CX (.seq (r [s 13 (.bin .lss (t 12) (t 11))]) (.seq (.cond (t 13) .skip (.exit 0)) (.seq (.block 1 (.seq (r [s 14 (.idxA 2 (t 10) (t 12)),s 15 (.load 2 true (t 14)),s 6 (.alloc [(.str []),(.int .i64 0)]),sn (.store 2 (t 6) (t 15))]) (.seq (r [fa 16 0 6,l 17 16,m 18 1,s 19 (.bin .eql (t 17) (t 18))]) (.cond (t 19) (.seq (r [fa 20 1 6,l 21 20,m 4 21]) .ret) .skip)))) (r [s 22 (.bin .add (t 12) (i 1)),m 12 22])))) := ⟨_, by simp only [QQ]; rfl⟩
def A74l0 : ACode := A74l0p.1
def A74p : CX (.seq (r [s 4 (.move (i 0))]) (.seq (.seq (r [m 7 0,s 8 (.nilck (t 7)),fa 9 6 8,l 10 9,s 11 (.len (t 10)),s 12 (.move (i 0))]) (.block 0 (.loop A74l0))) (.seq (r [s 4 (.move (i 0))]) .ret))) := ⟨_, by simp only [QQ]; rfl⟩
def A74 : ACode := A74p.1
def R74 : List RV := [.tmp 4]
theorem is74 : Is Tryz.prog (fun _ _ => false) 74 23 A74 R74 := ⟨Tryz.f74, Tryz.func74, rfl, by kernel_rfl, by kernel_rfl, Tryz.call74⟩
def A75p : CX (.seq (r [s 2 (.box (t 0)),s 3 (.box (t 1)),s 4 (.move (i 0))]) (.seq (r [fa 5 0 2,l 6 5,s 7 (.mkfn (.func 96) [(t 3)]),c 8 62 [(t 6),(t 7)],m 4 8]) .ret)) := ⟨_, by simp only [QQ]; rfl⟩
def A75 : ACode := A75p.1
def R75 : List RV := [.tmp 4]
theorem is75 : Is Tryz.prog (fun _ _ => false) 75 9 A75 R75 := ⟨Tryz.f75, Tryz.func75, rfl, by kernel_rfl, by kernel_rfl, Tryz.call75⟩
def A76l0p : CX (.seq (r [s 17 (.bin .lss (t 16) (t 15))]) (.seq (.cond (t 17) .skip (.exit 0)) (.seq (.block 1 (.seq (r [s 18 (.idxA 6 (t 14) (t 16)),s 19 (.load 6 true (t 18)),s 8 (.alloc [(.int .u8 0),(.int .i64 0),(.int .u64 0),(.str []),(.int .u8 0),.nilS]),sn (.store 6 (t 8) (t 19))]) (.seq (r [m 21 0,s 22 (.load 6 true (t 8)),c 23 76 [(t 21),(t 22)],m 20 23,e 24 20 0,e 25 20 1,m 9 24,m 10 25]) (.seq (.seq (r [m 26 10,s 27 (.bin .neq (t 26) (i 0))]) (.cond (t 27) (.seq (r [m 28 10,s 4 (.move (i 0)),m 5 28]) .ret) .skip)) (r [m 29 6,m 30 9,s 31 (.buildF [(.int .i64 0)] 1 [(0,(t 30))]),s 32 (.app 3 1 8 (t 29) (t 31)),m 6 32]))))) (r [s 33 (.bin .add (t 16) (i 1)),m 16 33])))) := ⟨_, by simp only [QQ]; rfl⟩
def A76l0 : ACode := A76l0p.1
def A76p : CX (.seq (r [s 3 (.box (t 1)),s 4 (.move (i 0)),s 5 (.move (i 0))]) (.seq (r [s 6 (.move ns)]) (.seq (.seq (r [fa 13 5 3,l 14 13,s 15 (.len (t 14)),s 16 (.move (i 0))]) (.block 0 (.loop A76l0))) (.seq (.seq (r [fa 34 0 3,l 35 34]) (.block 2 (.seq (r [s 37 (.bin .eql (t 35) (.const (.int .u8 2))),m 36 37]) (.cond (t 36) (.seq (r [m 38 0,fa 39 3 3,l 40 39,c 41 74 [(t 38),(t 40)],m 11 41]) (.seq (.seq (r [m 42 11,s 43 (.bin .eql (t 42) (i 0))]) (.cond (t 43) (.seq (r [s 4 (.move (i 0)),s 5 (.move (i 16))]) .ret) .skip)) (.seq (r [m 44 11,m 4 44,s 5 (.move (i 0))]) .ret))) (.seq (r [s 46 (.bin .eql (t 35) (.const (.int .u8 3))),m 45 46]) (.cond (t 45) (.seq (.dregion [⟨0,m 47 0,[]⟩,⟨1,s 48 (.nilck (t 47)),[]⟩,⟨2,fa 49 0 48,[]⟩,⟨3,s 50 (.load 2 true (t 49)),[]⟩,⟨4,fa 51 3 3,[]⟩,⟨5,l 52 51,[]⟩,⟨6,c 53 75 [(t 50),(t 52)],[]⟩,⟨7,m 12 53,[]⟩]) (.seq (.seq (r [m 54 12,s 55 (.bin .lss (t 54) (i 0))]) (.cond (t 55) (.seq (r [s 4 (.move (i 0)),s 5 (.move (i 16))]) .ret) .skip)) (.seq (.seq (.dregion [⟨0,m 56 6,[]⟩,⟨1,s 57 (.idxA 1 (t 56) (i 0)),[]⟩,⟨2,l 58 57,[]⟩,⟨3,c 59 91 [],[0,1,2]⟩,⟨4,s 60 (.m (.look .str (.int .i64 0) false (t 59) (.const (.string ⟨#[119,111,114,100]⟩)))),[0,1,2]⟩,⟨5,s 61 (.bin .neq (t 58) (t 60)),[]⟩]) (.cond (t 61) (.seq (r [s 4 (.move (i 0)),s 5 (.move (i 14))]) .ret) .skip)) (.seq (r [m 62 0,s 63 (.nilck (t 62)),fa 64 0 63,fa 65 0 64,l 66 65,m 67 12,s 68 (.idxA 3 (t 66) (t 67)),fa 69 1 68,l 70 69,m 4 70,s 5 (.move (i 0))]) .ret)))) (.seq (.seq (r [s 72 (.bin .eql (t 35) (.const (.int .u8 4))),m 71 72]) (.cond (t 71) .skip (r [s 73 (.bin .eql (t 35) (.const (.int .u8 5))),m 71 73]))) (.cond (t 71) (.seq (r [m 74 6,s 75 (.idxA 1 (t 74) (i 0)),l 76 75,m 4 76,s 5 (.move (i 0))]) .ret) (.seq (r [s 78 (.bin .eql (t 35) (.const (.int .u8 6))),m 77 78]) (.cond (t 77) (.seq (.seq (.dregion [⟨0,m 79 6,[]⟩,⟨1,s 80 (.idxA 1 (t 79) (i 0)),[]⟩,⟨2,l 81 80,[]⟩,⟨3,m 82 6,[]⟩,⟨4,s 83 (.idxA 1 (t 82) (i 1)),[]⟩,⟨5,l 84 83,[]⟩,⟨6,s 85 (.bin .neq (t 81) (t 84)),[]⟩]) (.cond (t 85) (.seq (r [s 4 (.move (i 0)),s 5 (.move (i 14))]) .ret) .skip)) (.seq (.seq (r [fa 86 4 3,l 87 86,s 88 (.bin .geq (t 87) (.const (.int .u8 16)))]) (.cond (t 88) (.seq (r [s 4 (.move (i 1)),s 5 (.move (i 0))]) .ret) .skip)) (.seq (r [m 89 6,s 90 (.idxA 1 (t 89) (i 0)),l 91 90,m 4 91,s 5 (.move (i 0))]) .ret))) .skip)))))))))) (.seq (r [fa 92 1 3,l 93 92,m 4 93,s 5 (.move (i 0))]) .ret))))) := ⟨_, by simp only [QQ]; rfl⟩
def A76 : ACode := A76p.1
def R76 : List RV := [.tmp 4, .tmp 5]
theorem is76 : Is Tryz.prog (fun _ _ => false) 76 94 A76 R76 := ⟨Tryz.f76, Tryz.func76, rfl, by kernel_rfl, by kernel_rfl, Tryz.call76⟩
def A77p : CX (.seq (r [s 5 (.box (t 1)),s 8 (.move (i 0))]) (.seq (.seq (r [fa 12 0 5,l 13 12]) (.block 0 (.seq (r [s 15 (.bin .eql (t 13) (.const (.int .u8 1))),m 14 15]) (.cond (t 14) (.seq (r [m 16 0,fa 17 1 5,l 18 17,fa 19 3 5,l 20 19,c 21 48 [(t 16),(t 18),(t 20)],m 9 21]) (.seq (.seq (r [m 22 9,s 23 (.bin .neq (t 22) (i 0))]) (.cond (t 23) (.seq (r [m 24 9,m 8 24]) .ret) .skip)) (.seq (.dregion [⟨0,m 25 2,[]⟩,⟨1,s 26 (.idxA 1 (t 25) (i 0)),[]⟩,⟨2,l 27 26,[]⟩,⟨3,fa 28 3 5,[]⟩,⟨4,l 29 28,[]⟩,⟨5,s 30 (.bin .eql (t 27) (t 29)),[]⟩,⟨6,c 31 97 [(t 30)],[]⟩,⟨7,m 8 31,[]⟩]) .ret))) (.seq (r [s 33 (.bin .eql (t 13) (.const (.int .u8 2))),m 32 33]) (.cond (t 32) (.seq (r [m 34 0,fa 35 1 5,l 36 35,c 37 74 [(t 34),(t 36)],m 10 37]) (.seq (.seq (r [m 38 10,s 39 (.bin .eql (t 38) (i 0))]) (.cond (t 39) (.seq (r [s 8 (.move (i 16))]) .ret) .skip)) (.seq (r [m 40 2,s 41 (.idxA 1 (t 40) (i 0)),l 42 41,m 43 10,s 44 (.bin .eql (t 42) (t 43)),c 45 97 [(t 44)],m 8 45]) .ret))) (.seq (r [s 47 (.bin .eql (t 13) (.const (.int .u8 3))),m 46 47]) (.cond (t 46) (.seq (.dregion [⟨0,m 48 0,[]⟩,⟨1,s 49 (.nilck (t 48)),[]⟩,⟨2,fa 50 0 49,[]⟩,⟨3,s 51 (.load 2 true (t 50)),[]⟩,⟨4,fa 52 1 5,[]⟩,⟨5,l 53 52,[]⟩,⟨6,c 54 75 [(t 51),(t 53)],[]⟩,⟨7,m 11 54,[]⟩]) (.seq (.seq (r [m 55 11,s 56 (.bin .lss (t 55) (i 0))]) (.cond (t 56) (.seq (r [s 8 (.move (i 16))]) .ret) .skip)) (.seq (.dregion [⟨0,m 57 2,[]⟩,⟨1,s 58 (.idxA 1 (t 57) (i 0)),[]⟩,⟨2,l 59 58,[]⟩,⟨3,c 60 91 [],[0,1,2]⟩,⟨4,s 61 (.m (.look .str (.int .i64 0) false (t 60) (.const (.string ⟨#[119,111,114,100]⟩)))),[0,1,2]⟩,⟨5,s 62 (.bin .eql (t 59) (t 61)),[]⟩,⟨6,m 63 62,[]⟩,⟨7,gt 64 63 (.move (t 2)),[]⟩,⟨8,gt 65 63 (.idxA 1 (t 64) (i 1)),[]⟩,⟨9,tl 66 63 65,[]⟩,⟨10,gt 67 63 (.move (t 0)),[]⟩,⟨11,gt 68 63 (.nilck (t 67)),[]⟩,⟨12,ta 69 63 0 68,[]⟩,⟨13,ta 70 63 0 69,[]⟩,⟨14,tl 71 63 70,[]⟩,⟨15,gt 72 63 (.move (t 11)),[]⟩,⟨16,gt 73 63 (.idxA 3 (t 71) (t 72)),[]⟩,⟨17,ta 74 63 1 73,[]⟩,⟨18,tl 75 63 74,[]⟩,⟨19,gt 76 63 (.bin .eql (t 66) (t 75)),[]⟩,⟨20,s 77 (.pick (t 63) (t 76) b0),[]⟩,⟨21,c 78 97 [(t 77)],[]⟩,⟨22,m 8 78,[]⟩]) .ret))) (.seq (.seq (r [s 80 (.bin .eql (t 13) (.const (.int .u8 4))),m 79 80]) (.cond (t 79) .skip (r [s 81 (.bin .eql (t 13) (.const (.int .u8 5))),m 79 81]))) (.cond (t 79) (.seq (r [m 82 2,s 83 (.idxA 1 (t 82) (i 0)),l 84 83,s 85 (.bin .eql (t 84) (i 1)),c 86 97 [(t 85)],m 8 86]) .ret) (.seq (r [s 88 (.bin .eql (t 13) (.const (.int .u8 6))),m 87 88]) (.cond (t 87) (.seq (r [m 89 3,s 90 (.un .not (t 89))]) (.cond (t 90) (.seq (r [s 8 (.move (i 12))]) .ret) .skip)) (.seq (r [s 92 (.bin .eql (t 13) (.const (.int .u8 8))),m 91 92]) (.cond (t 91) (.seq (.dregion [⟨0,m 93 2,[]⟩,⟨1,s 94 (.len (t 93)),[]⟩,⟨2,s 95 (.bin .eql (t 94) (i 0)),[]⟩,⟨3,m 96 95,[]⟩,⟨4,gt 97 96 (.move (t 0)),[]⟩,⟨5,gt 98 96 (.nilck (t 97)),[]⟩,⟨6,ta 99 96 2 98,[]⟩,⟨7,ta 100 96 2 99,[]⟩,⟨8,tl 101 96 100,[]⟩,⟨9,gt 102 96 (.bin .eql (t 101) (i 0)),[]⟩,⟨10,s 103 (.pick (t 96) (t 102) b0),[]⟩,⟨11,m 104 103,[]⟩,⟨12,gf 105 104 (.move (t 2)),[]⟩,⟨13,gf 106 104 (.len (t 105)),[]⟩,⟨14,gf 107 104 (.bin .eql (t 106) (i 1)),[]⟩,⟨15,gf 108 104 (.move (t 107)),[]⟩,⟨16,gt 109 108 (.move (t 2)),[]⟩,⟨17,gt 110 108 (.idxA 1 (t 109) (i 0)),[]⟩,⟨18,tl 111 108 110,[]⟩,⟨19,gt 112 108 (.move (t 0)),[]⟩,⟨20,gt 113 108 (.nilck (t 112)),[]⟩,⟨21,ta 114 108 2 113,[]⟩,⟨22,ta 115 108 2 114,[]⟩,⟨23,tl 116 108 115,[]⟩,⟨24,gt 117 108 (.bin .eql (t 111) (t 116)),[]⟩,⟨25,gf 118 104 (.pick (t 108) (t 117) b0),[]⟩,⟨26,s 119 (.pick (t 104) b1 (t 118)),[]⟩,⟨27,c 120 97 [(t 119)],[]⟩,⟨28,m 8 120,[]⟩]) .ret) (.seq (r [s 122 (.bin .eql (t 13) (.const (.int .u8 9))),m 121 122]) (.cond (t 121) (.seq (r [m 123 0,s 124 (.load 7 true (t 5)),m 125 2,c 126 98 [(t 123),(t 124),(t 125)],m 8 126]) .ret) .skip)))))))))))))))) (.seq (r [s 8 (.move (i 0))]) .ret))) := ⟨_, by simp only [QQ]; rfl⟩
def A77 : ACode := A77p.1
def R77 : List RV := [.tmp 8]
theorem is77 : Is Tryz.prog (fun _ _ => false) 77 127 A77 R77 := ⟨Tryz.f77, Tryz.func77, rfl, by kernel_rfl, by kernel_rfl, Tryz.call77⟩
def A78p : CX (.seq (r [s 1 (.box (t 0)),s 2 (.move b0)]) (.seq (r [s 3 (.load 6 true (t 1)),c 4 99 [(t 3)],s 5 (.bin .gtr (t 4) (i 50)),m 6 5,gf 7 6 (.load 6 true (t 1)),fc 8 6 100 [(t 7)],gf 9 6 (.bin .gtr (t 8) (i 14)),s 10 (.pick (t 6) b1 (t 9)),m 2 10]) .ret)) := ⟨_, by simp only [QQ]; rfl⟩
def A78 : ACode := A78p.1
def R78 : List RV := [.tmp 2]
theorem is78 : Is Tryz.prog (fun _ _ => false) 78 11 A78 R78 := ⟨Tryz.f78, Tryz.func78, rfl, by kernel_rfl, by kernel_rfl, Tryz.call78⟩
def A79l0p : CX (.seq (.seq (r [m 15 3,m 16 0,s 17 (.lens (t 16)),s 18 (.bin .lss (t 15) (t 17))]) (.cond (t 18) .skip (.exit 0))) (.seq (.block 1 (.seq (r [m 21 0,m 22 3,s 23 (.idxs (t 21) (t 22)),m 4 23]) (.seq (r [m 24 4,s 25 (.bin .geq (t 24) (.const (.int .u8 97))),m 26 25,gt 27 26 (.move (t 4)),gt 28 26 (.bin .leq (t 27) (.const (.int .u8 122))),s 29 (.pick (t 26) (t 28) b0),m 30 29,gf 31 30 (.move (t 4)),gf 32 30 (.bin .geq (t 31) (.const (.int .u8 65))),gf 33 30 (.move (t 32)),gt 34 33 (.move (t 4)),gt 35 33 (.bin .leq (t 34) (.const (.int .u8 90))),gf 36 30 (.pick (t 33) (t 35) b0),s 37 (.pick (t 30) b1 (t 36)),m 5 37]) (.seq (r [m 38 4,s 39 (.bin .geq (t 38) (.const (.int .u8 48))),m 40 39,gt 41 40 (.move (t 4)),gt 42 40 (.bin .leq (t 41) (.const (.int .u8 57))),s 43 (.pick (t 40) (t 42) b0),m 44 43,gf 45 44 (.move (t 4)),gf 46 44 (.bin .eql (t 45) (.const (.int .u8 95))),s 47 (.pick (t 44) b1 (t 46)),m 6 47]) (.seq (r [m 48 5,s 49 (.un .not (t 48)),m 50 49,gt 51 50 (.move (t 3)),gt 52 50 (.bin .eql (t 51) (i 0)),gt 53 50 (.move (t 52)),gf 54 53 (.move (t 6)),gf 55 53 (.un .not (t 54)),gt 56 50 (.pick (t 53) b1 (t 55)),s 57 (.pick (t 50) (t 56) b0)]) (.cond (t 57) (.seq (r [s 2 (.move b0)]) .ret) .skip)))))) (r [m 19 3,s 20 (.bin .add (t 19) (i 1)),m 3 20]))) := ⟨_, by simp only [QQ]; rfl⟩
def A79l0 : ACode := A79l0p.1
def A79p : CX (.seq (r [s 2 (.move b0)]) (.seq (.seq (r [m 7 0,s 8 (.lens (t 7)),s 9 (.bin .eql (t 8) (i 0)),m 10 9,gf 11 10 (.move (t 0)),gf 12 10 (.lens (t 11)),gf 13 10 (.bin .gtr (t 12) (i 24)),s 14 (.pick (t 10) b1 (t 13))]) (.cond (t 14) (.seq (r [s 2 (.move b0)]) .ret) .skip)) (.seq (.seq (r [s 3 (.move (i 0))]) (.block 0 (.loop A79l0))) (.seq (r [s 2 (.move b1)]) .ret)))) := ⟨_, by simp only [QQ]; rfl⟩
def A79 : ACode := A79p.1
def R79 : List RV := [.tmp 2]
theorem is79 : Is Tryz.prog (fun _ _ => false) 79 58 A79 R79 := ⟨Tryz.f79, Tryz.func79, rfl, by kernel_rfl, by kernel_rfl, Tryz.call79⟩
def A80l0p : CX (.seq (.seq (r [m 4 3,s 5 (.m (.glb (.lst 1 [[(.str [97,114,114,97,121])],[(.str [102,117,110,99])],[(.str [118,97,114])],[(.str [105,102])],[(.str [101,108,115,101])],[(.str [119,104,105,108,101])],[(.str [98,114,101,97,107])],[(.str [116,101,108,108])],[(.str [114,101,116,117,114,110])],[(.str [115,105,103,110,101,100])],[(.str [98,105,116])],[(.str [98,121,116,101])],[(.str [104,97,108,102])],[(.str [119,111,114,100])]]))),s 6 (.len (t 5)),s 7 (.bin .lss (t 4) (t 6))]) (.cond (t 7) .skip (.exit 0))) (.seq (.block 1 (.seq (r [s 10 (.m (.glb (.lst 1 [[(.str [97,114,114,97,121])],[(.str [102,117,110,99])],[(.str [118,97,114])],[(.str [105,102])],[(.str [101,108,115,101])],[(.str [119,104,105,108,101])],[(.str [98,114,101,97,107])],[(.str [116,101,108,108])],[(.str [114,101,116,117,114,110])],[(.str [115,105,103,110,101,100])],[(.str [98,105,116])],[(.str [98,121,116,101])],[(.str [104,97,108,102])],[(.str [119,111,114,100])]]))),m 11 3,s 12 (.idxA 1 (t 10) (t 11)),l 13 12,m 14 0,s 15 (.bin .eql (t 13) (t 14))]) (.cond (t 15) (.seq (r [s 2 (.move b1)]) .ret) .skip))) (r [m 8 3,s 9 (.bin .add (t 8) (i 1)),m 3 9]))) := ⟨_, by simp only [QQ]; rfl⟩
def A80l0 : ACode := A80l0p.1
def A80p : CX (.seq (r [s 2 (.move b0)]) (.seq (.seq (r [s 3 (.move (i 0))]) (.block 0 (.loop A80l0))) (.seq (r [s 2 (.move b0)]) .ret))) := ⟨_, by simp only [QQ]; rfl⟩
def A80 : ACode := A80p.1
def R80 : List RV := [.tmp 2]
theorem is80 : Is Tryz.prog (fun _ _ => false) 80 16 A80 R80 := ⟨Tryz.f80, Tryz.func80, rfl, by kernel_rfl, by kernel_rfl, Tryz.call80⟩
def A81l0p : CX (.seq (.seq (r [m 6 3,fa 7 4 1,l 8 7,s 9 (.len (t 8)),s 10 (.bin .lss (t 6) (t 9))]) (.cond (t 10) .skip (.exit 0))) (.seq (.block 1 (.seq (r [fa 13 4 1,l 14 13,m 15 3,s 16 (.idxA 6 (t 14) (t 15)),s 17 (.load 6 true (t 16)),c 18 101 [(t 17)],s 19 (.un .not (t 18))]) (.cond (t 19) (.seq (r [s 2 (.move b0)]) .ret) .skip))) (r [m 11 3,s 12 (.bin .add (t 11) (i 1)),m 3 12]))) := ⟨_, by simp only [QQ]; rfl⟩
def A81l0 : ACode := A81l0p.1
def A81p : CX (.seq (r [s 1 (.box (t 0)),s 2 (.move b0)]) (.seq (.seq (r [s 3 (.move (i 0))]) (.block 0 (.loop A81l0))) (.seq (.seq (r [fa 20 5 1,l 21 20,c 22 53 [(t 21)],s 23 (.un .not (t 22)),m 24 23,fb 25 24 6 1,fl 26 24 25,fc 27 24 53 [(t 26)],gf 28 24 (.un .not (t 27)),s 29 (.pick (t 24) b1 (t 28))]) (.cond (t 29) (.seq (r [s 2 (.move b0)]) .ret) .skip)) (.seq (r [fa 30 4 1,l 31 30,s 32 (.len (t 31)),m 4 32]) (.seq (r [fa 33 5 1,l 34 33,s 35 (.len (t 34)),s 36 (.bin .eql (t 35) (i 0)),m 37 36,ta 38 37 6 1,tl 39 37 38,gt 40 37 (.len (t 39)),gt 41 37 (.bin .eql (t 40) (i 0)),s 42 (.pick (t 37) (t 41) b0),m 5 42]) (.seq (.seq (r [fa 43 0 1,l 44 43,s 45 (.bin .neq (t 44) (.const (.int .u8 1))),m 46 45,ta 47 46 3 1,tl 48 46 47,gt 49 46 (.bin .neq (t 48) (i 0)),s 50 (.pick (t 46) (t 49) b0),m 51 50,fb 52 51 0 1,fl 53 51 52,gf 54 51 (.bin .neq (t 53) (.const (.int .u8 9))),gf 55 51 (.move (t 54)),ta 56 55 2 1,tl 57 55 56,gt 58 55 (.bin .neq (t 57) (.const (.string ⟨#[]⟩))),gf 59 51 (.pick (t 55) (t 58) b0),s 60 (.pick (t 51) b1 (t 59))]) (.cond (t 60) (.seq (r [s 2 (.move b0)]) .ret) .skip)) (.seq (.seq (r [fa 61 0 1,l 62 61]) (.block 2 (.seq (r [s 64 (.bin .eql (t 62) (.const (.int .u8 1))),m 63 64]) (.cond (t 63) (.seq (r [fa 65 1 1,l 66 65,c 67 51 [(t 66)],m 68 67,ta 69 68 3 1,tl 70 68 69,tc 71 68 52 [(t 70)],s 72 (.pick (t 68) (t 71) b0),m 73 72,gt 74 73 (.move (t 4)),gt 75 73 (.bin .eql (t 74) (i 1)),s 76 (.pick (t 73) (t 75) b0),m 77 76,gt 78 77 (.move (t 5)),s 79 (.pick (t 77) (t 78) b0),m 2 79]) .ret) (.seq (r [s 81 (.bin .eql (t 62) (.const (.int .u8 2))),m 80 81]) (.cond (t 80) (.seq (r [fa 82 1 1,l 83 82,c 84 51 [(t 83)],m 85 84,gt 86 85 (.move (t 4)),gt 87 85 (.bin .eql (t 86) (i 1)),s 88 (.pick (t 85) (t 87) b0),m 89 88,gt 90 89 (.move (t 5)),s 91 (.pick (t 89) (t 90) b0),m 2 91]) .ret) (.seq (r [s 93 (.bin .eql (t 62) (.const (.int .u8 3))),m 92 93]) (.cond (t 92) (.seq (r [fa 94 1 1,l 95 94,c 96 51 [(t 95)],m 97 96,gt 98 97 (.move (t 4)),gt 99 97 (.bin .eql (t 98) (i 2)),s 100 (.pick (t 97) (t 99) b0),m 101 100,gt 102 101 (.move (t 5)),s 103 (.pick (t 101) (t 102) b0),m 2 103]) .ret) (.seq (r [s 105 (.bin .eql (t 62) (.const (.int .u8 4))),m 104 105]) (.cond (t 104) (.seq (r [fa 106 1 1,l 107 106,s 108 (.bin .eql (t 107) (.const (.string ⟨#[]⟩))),m 109 108,gt 110 109 (.move (t 4)),gt 111 109 (.bin .eql (t 110) (i 1)),s 112 (.pick (t 109) (t 111) b0),m 2 112]) .ret) (.seq (r [s 114 (.bin .eql (t 62) (.const (.int .u8 5))),m 113 114]) (.cond (t 113) (.seq (r [fa 115 1 1,l 116 115,s 117 (.bin .eql (t 116) (.const (.string ⟨#[]⟩))),m 118 117,gt 119 118 (.move (t 4)),gt 120 118 (.bin .eql (t 119) (i 1)),s 121 (.pick (t 118) (t 120) b0),m 122 121,ta 123 122 6 1,tl 124 122 123,gt 125 122 (.len (t 124)),gt 126 122 (.bin .eql (t 125) (i 0)),s 127 (.pick (t 122) (t 126) b0),m 2 127]) .ret) (.seq (r [s 129 (.bin .eql (t 62) (.const (.int .u8 6))),m 128 129]) (.cond (t 128) (.seq (r [fa 130 1 1,l 131 130,s 132 (.bin .eql (t 131) (.const (.string ⟨#[]⟩))),m 133 132,gt 134 133 (.move (t 4)),gt 135 133 (.bin .eql (t 134) (i 0)),s 136 (.pick (t 133) (t 135) b0),m 137 136,gt 138 137 (.move (t 5)),s 139 (.pick (t 137) (t 138) b0),m 2 139]) .ret) (.seq (r [s 141 (.bin .eql (t 62) (.const (.int .u8 7))),m 140 141]) (.cond (t 140) (.seq (r [fa 142 1 1,l 143 142,s 144 (.bin .eql (t 143) (.const (.string ⟨#[]⟩))),m 145 144,gt 146 145 (.move (t 4)),gt 147 145 (.bin .eql (t 146) (i 1)),s 148 (.pick (t 145) (t 147) b0),m 149 148,gt 150 149 (.move (t 5)),s 151 (.pick (t 149) (t 150) b0),m 2 151]) .ret) (.seq (r [s 153 (.bin .eql (t 62) (.const (.int .u8 8))),m 152 153]) (.cond (t 152) (.seq (r [fa 154 1 1,l 155 154,s 156 (.bin .eql (t 155) (.const (.string ⟨#[]⟩))),m 157 156,gt 158 157 (.move (t 4)),gt 159 157 (.bin .leq (t 158) (i 1)),s 160 (.pick (t 157) (t 159) b0),m 161 160,gt 162 161 (.move (t 5)),s 163 (.pick (t 161) (t 162) b0),m 2 163]) .ret) (.seq (r [s 165 (.bin .eql (t 62) (.const (.int .u8 9))),m 164 165]) (.cond (t 164) (.seq (r [fa 166 1 1,l 167 166,s 168 (.bin .eql (t 167) (.const (.string ⟨#[]⟩))),m 169 168,fb 170 169 1 1,fl 171 169 170,fc 172 169 51 [(t 171)],s 173 (.pick (t 169) b1 (t 172)),m 174 173,ta 175 174 2 1,tl 176 174 175,tc 177 174 51 [(t 176)],s 178 (.pick (t 174) (t 177) b0),m 179 178,gt 180 179 (.move (t 5)),s 181 (.pick (t 179) (t 180) b0),m 2 181]) .ret) .skip)))))))))))))))))))) (.seq (r [s 2 (.move b0)]) .ret)))))))) := ⟨_, by simp only [QQ]; rfl⟩
def A81 : ACode := A81p.1
def R81 : List RV := [.tmp 2]
theorem is81 : Is Tryz.prog (fun _ _ => false) 81 182 A81 R81 := ⟨Tryz.f81, Tryz.func81, rfl, by kernel_rfl, by kernel_rfl, Tryz.call81⟩
def A82p : CX (.seq (r [m 6 1,m 7 6,gt 8 7 (.move (t 0)),gt 9 7 (.nilck (t 8)),ta 10 7 4 9,tl 11 7 10,gt 12 7 (.bin .eql (t 11) (i 0)),s 13 (.pick (t 7) (t 12) b0)]) (.cond (t 13) (r [m 14 0,m 15 2,s 16 (.nilck (t 14)),fa 17 4 16,sn (.store 1 (t 17) (t 15))]) .skip)) := ⟨_, by simp only [QQ]; rfl⟩
def A82 : ACode := A82p.1
def R82 : List RV := []
theorem is82 : Is Tryz.prog (fun _ _ => false) 82 18 A82 R82 := ⟨Tryz.f82, Tryz.func82, rfl, by kernel_rfl, by kernel_rfl, Tryz.call82⟩
def A83l0p : CX (.seq (.seq (r [m 6 5,m 7 0,s 8 (.nilck (t 7)),fa 9 3 8,l 10 9,s 11 (.len (t 10)),s 12 (.bin .lss (t 6) (t 11))]) (.cond (t 12) .skip (.exit 0))) (.seq (.block 1 (.seq (r [m 15 0,s 16 (.nilck (t 15)),fa 17 3 16,l 18 17,m 19 5,s 20 (.idxA 2 (t 18) (t 19)),fa 21 0 20,l 22 21,m 23 1,s 24 (.bin .eql (t 22) (t 23))]) (.cond (t 24) (.seq (r [m 25 0,s 26 (.nilck (t 25)),fa 27 3 26,l 28 27,m 29 5,s 30 (.idxA 2 (t 28) (t 29)),fa 31 1 30,l 32 31,m 4 32]) .ret) .skip))) (r [m 13 5,s 14 (.bin .add (t 13) (i 1)),m 5 14]))) := ⟨_, by simp only [QQ]; rfl⟩
def A83l0 : ACode := A83l0p.1
def A83p : CX (.seq (r [s 4 (.move (i 0))]) (.seq (.seq (r [s 5 (.move (i 0))]) (.block 0 (.loop A83l0))) (.seq (r [s 4 (.move (i 0))]) .ret))) := ⟨_, by simp only [QQ]; rfl⟩
def A83 : ACode := A83p.1
def R83 : List RV := [.tmp 4]
theorem is83 : Is Tryz.prog (fun _ _ => false) 83 33 A83 R83 := ⟨Tryz.f83, Tryz.func83, rfl, by kernel_rfl, by kernel_rfl, Tryz.call83⟩
def A84l0p : CX (.seq (.seq (r [m 6 5,fa 7 0 2,l 8 7,s 9 (.len (t 8)),s 10 (.bin .lss (t 6) (t 9))]) (.cond (t 10) .skip (.exit 0))) (.seq (.block 1 (.seq (r [fa 13 0 2,l 14 13,m 15 5,s 16 (.idxA 3 (t 14) (t 15)),fa 17 0 16,l 18 17,m 19 1,s 20 (.bin .eql (t 18) (t 19))]) (.cond (t 20) (.seq (r [m 21 5,m 4 21]) .ret) .skip))) (r [m 11 5,s 12 (.bin .add (t 11) (i 1)),m 5 12]))) := ⟨_, by simp only [QQ]; rfl⟩
def A84l0 : ACode := A84l0p.1
def A84p : CX (.seq (r [s 2 (.box (t 0)),s 4 (.move (i 0))]) (.seq (.seq (r [s 5 (.move (i 0))]) (.block 0 (.loop A84l0))) (.seq (r [s 4 (.move (.const (.int .i64 (-1))))]) .ret))) := ⟨_, by simp only [QQ]; rfl⟩
def A84 : ACode := A84p.1
def R84 : List RV := [.tmp 4]
theorem is84 : Is Tryz.prog (fun _ _ => false) 84 22 A84 R84 := ⟨Tryz.f84, Tryz.func84, rfl, by kernel_rfl, by kernel_rfl, Tryz.call84⟩
def A85l0p : CX (.seq (.seq (r [m 10 7,fa 11 4 4,l 12 11,s 13 (.len (t 12)),s 14 (.bin .lss (t 10) (t 13))]) (.cond (t 14) .skip (.exit 0))) (.seq (.block 1 (r [m 17 6,m 18 0,fa 19 4 4,l 20 19,m 21 7,s 22 (.idxA 6 (t 20) (t 21)),s 23 (.load 6 true (t 22)),c 24 102 [(t 18),(t 23)],s 25 (.buildF [(.int .i64 0)] 1 [(0,(t 24))]),s 26 (.app 3 1 8 (t 17) (t 25)),m 6 26])) (r [m 15 7,s 16 (.bin .add (t 15) (i 1)),m 7 16]))) := ⟨_, by simp only [QQ]; rfl⟩
def A85l0 : ACode := A85l0p.1
def A85p : CX (.seq (r [s 4 (.box (t 1))]) (.seq (r [s 6 (.move ns)]) (.seq (.seq (r [s 7 (.move (i 0))]) (.block 0 (.loop A85l0))) (.seq (.seq (r [m 27 0,s 28 (.nilck (t 27)),fa 29 4 28,l 30 29,s 31 (.bin .neq (t 30) (i 0))]) (.cond (t 31) .ret .skip)) (.seq (.dregion [⟨0,m 32 0,[]⟩,⟨1,s 33 (.nilck (t 32)),[]⟩,⟨2,fa 34 0 33,[]⟩,⟨3,fa 35 1 34,[]⟩,⟨4,l 36 35,[]⟩,⟨5,m 37 0,[]⟩,⟨6,s 38 (.nilck (t 37)),[]⟩,⟨7,fa 39 2 38,[]⟩,⟨8,l 40 39,[]⟩,⟨9,s 41 (.idxA 4 (t 36) (t 40)),[]⟩,⟨10,fa 42 2 41,[]⟩,⟨11,l 43 42,[]⟩,⟨12,m 8 43,[]⟩]) (.seq (.seq (r [fa 44 0 4,l 45 44]) (.block 2 (.seq (r [s 47 (.bin .eql (t 45) (.const (.int .u8 1))),m 46 47]) (.cond (t 46) (.seq (r [m 48 0,fa 49 1 4,l 50 49,fa 51 3 4,l 52 51,s 53 (.build [(.str []),(.int .i64 0)] [(0,1,(t 50)),(1,1,(t 52))]),c 54 54 [(t 48),(t 53)]]) (.dregion [⟨0,m 55 0,[]⟩,⟨1,m 56 6,[]⟩,⟨2,s 57 (.idxA 1 (t 56) (i 0)),[]⟩,⟨3,l 58 57,[]⟩,⟨4,fa 59 3 4,[]⟩,⟨5,l 60 59,[]⟩,⟨6,s 61 (.bin .neq (t 58) (t 60)),[]⟩,⟨7,c 62 82 [(t 55),(t 61),(i 14)],[]⟩])) (.seq (r [s 64 (.bin .eql (t 45) (.const (.int .u8 2))),m 63 64]) (.cond (t 63) (.seq (r [m 65 0,m 66 0,fa 67 1 4,l 68 67,c 69 83 [(t 66),(t 68)],s 70 (.bin .eql (t 69) (i 0)),c 71 82 [(t 65),(t 70),(i 16)]]) (.dregion [⟨0,m 72 0,[]⟩,⟨1,m 73 6,[]⟩,⟨2,s 74 (.idxA 1 (t 73) (i 0)),[]⟩,⟨3,l 75 74,[]⟩,⟨4,m 76 0,[]⟩,⟨5,fa 77 1 4,[]⟩,⟨6,l 78 77,[]⟩,⟨7,c 79 83 [(t 76),(t 78)],[0,1,2,3]⟩,⟨8,s 80 (.bin .neq (t 75) (t 79)),[]⟩,⟨9,c 81 82 [(t 72),(t 80),(i 14)],[]⟩])) (.seq (r [s 83 (.bin .eql (t 45) (.const (.int .u8 3))),m 82 83]) (.cond (t 82) (.seq (.dregion [⟨0,m 84 0,[]⟩,⟨1,s 85 (.nilck (t 84)),[]⟩,⟨2,fa 86 0 85,[]⟩,⟨3,s 87 (.load 2 true (t 86)),[]⟩,⟨4,fa 88 1 4,[]⟩,⟨5,l 89 88,[]⟩,⟨6,c 90 84 [(t 87),(t 89)],[]⟩,⟨7,m 9 90,[]⟩]) (.seq (r [m 91 0,m 92 9,s 93 (.bin .lss (t 92) (i 0)),c 94 82 [(t 91),(t 93),(i 16)]]) (.dregion [⟨0,m 95 0,[]⟩,⟨1,m 96 9,[]⟩,⟨2,s 97 (.bin .geq (t 96) (i 0)),[]⟩,⟨3,m 98 97,[]⟩,⟨4,gt 99 98 (.move (t 6)),[]⟩,⟨5,gt 100 98 (.idxA 1 (t 99) (i 0)),[]⟩,⟨6,tl 101 98 100,[]⟩,⟨7,gt 102 98 (.bin .neq (t 101) (i 32)),[]⟩,⟨8,gt 103 98 (.move (t 102)),[]⟩,⟨9,gf 104 103 (.move (t 6)),[]⟩,⟨10,gf 105 103 (.idxA 1 (t 104) (i 1)),[]⟩,⟨11,fl 106 103 105,[]⟩,⟨12,gf 107 103 (.move (t 0)),[]⟩,⟨13,gf 108 103 (.nilck (t 107)),[]⟩,⟨14,fb 109 103 0 108,[]⟩,⟨15,fb 110 103 0 109,[]⟩,⟨16,fl 111 103 110,[]⟩,⟨17,gf 112 103 (.move (t 9)),[]⟩,⟨18,gf 113 103 (.mx (t 112) (i 0)),[]⟩,⟨19,gf 114 103 (.idxA 3 (t 111) (t 113)),[]⟩,⟨20,fb 115 103 1 114,[]⟩,⟨21,fl 116 103 115,[]⟩,⟨22,gf 117 103 (.bin .neq (t 106) (t 116)),[]⟩,⟨23,gt 118 98 (.pick (t 103) b1 (t 117)),[]⟩,⟨24,s 119 (.pick (t 98) (t 118) b0),[]⟩,⟨25,c 120 82 [(t 95),(t 119),(i 14)],[]⟩]))) (.seq (.seq (r [s 122 (.bin .eql (t 45) (.const (.int .u8 4))),m 121 122]) (.cond (t 121) .skip (r [s 123 (.bin .eql (t 45) (.const (.int .u8 5))),m 121 123]))) (.cond (t 121) (r [m 124 0,m 125 6,s 126 (.idxA 1 (t 125) (i 0)),l 127 126,s 128 (.bin .neq (t 127) (i 1)),c 129 82 [(t 124),(t 128),(i 14)]]) (.seq (r [s 131 (.bin .eql (t 45) (.const (.int .u8 6))),m 130 131]) (.cond (t 130) (r [m 132 0,m 133 2,s 134 (.un .not (t 133)),c 135 82 [(t 132),(t 134),(i 12)]]) (.seq (r [s 137 (.bin .eql (t 45) (.const (.int .u8 8))),m 136 137]) (.cond (t 136) (r [m 138 0,m 139 6,s 140 (.len (t 139)),s 141 (.bin .eql (t 140) (i 0)),m 142 141,gt 143 142 (.move (t 8)),gt 144 142 (.bin .neq (t 143) (i 0)),s 145 (.pick (t 142) (t 144) b0),m 146 145,gf 147 146 (.move (t 6)),gf 148 146 (.len (t 147)),gf 149 146 (.bin .eql (t 148) (i 1)),gf 150 146 (.move (t 149)),gt 151 150 (.move (t 6)),gt 152 150 (.idxA 1 (t 151) (i 0)),tl 153 150 152,gt 154 150 (.move (t 8)),gt 155 150 (.bin .neq (t 153) (t 154)),gf 156 146 (.pick (t 150) (t 155) b0),s 157 (.pick (t 146) b1 (t 156)),c 158 82 [(t 138),(t 157),(i 14)]]) (.seq (r [s 160 (.bin .eql (t 45) (.const (.int .u8 9))),m 159 160]) (.cond (t 159) (r [m 161 0,s 162 (.load 7 true (t 4)),m 163 6,c 164 103 [(t 161),(t 162),(t 163)]]) .skip)))))))))))))))) (.seq (r [m 165 0,fa 166 5 4,l 167 166,m 168 2,m 169 168,fb 170 169 0 4,fl 171 169 170,gf 172 169 (.bin .eql (t 171) (.const (.int .u8 5))),s 173 (.pick (t 169) b1 (t 172)),c 174 55 [(t 165),(t 167),(t 173)]]) (r [m 175 0,fa 176 6 4,l 177 176,m 178 2,c 179 55 [(t 175),(t 177),(t 178)]])))))))) := ⟨_, by simp only [QQ]; rfl⟩
def A85 : ACode := A85p.1
def R85 : List RV := []
theorem is85 : Is Tryz.prog (fun _ _ => false) 85 180 A85 R85 := ⟨Tryz.f85, Tryz.func85, rfl, by kernel_rfl, by kernel_rfl, Tryz.call85⟩
def A86l0p : CX (.seq (r [s 18 (.bin .lss (t 17) (t 16))]) (.seq (.cond (t 18) .skip (.exit 0)) (.seq (.block 1 (.seq (r [m 19 17,s 20 (.idxA 6 (t 15) (t 17)),s 21 (.load 6 true (t 20)),s 8 (.alloc [(.int .u8 0),(.int .i64 0),(.int .u64 0),(.str []),(.int .u8 0),.nilS]),m 7 19,sn (.store 6 (t 8) (t 21))]) (.seq (r [m 22 1,m 23 7,s 24 (.idxA 6 (t 22) (t 23)),s 25 (.load 6 true (t 24)),s 9 (.alloc [(.int .u8 0),(.int .i64 0),(.int .u64 0),(.str []),(.int .u8 0),.nilS]),sn (.store 6 (t 9) (t 25))]) (.seq (r [m 26 2,s 27 (.load 6 true (t 8)),s 28 (.load 6 true (t 9)),⟨(some 29),none,.call (t 26) [(t 27),(t 28)]⟩,s 30 (.un .not (t 29))]) (.cond (t 30) (.seq (r [s 6 (.move b0)]) .ret) .skip))))) (r [s 31 (.bin .add (t 17) (i 1)),m 17 31])))) := ⟨_, by simp only [QQ]; rfl⟩
def A86l0 : ACode := A86l0p.1
def A86p : CX (.seq (r [s 6 (.move b0)]) (.seq (.seq (r [m 10 0,s 11 (.len (t 10)),m 12 1,s 13 (.len (t 12)),s 14 (.bin .neq (t 11) (t 13))]) (.cond (t 14) (.seq (r [s 6 (.move b0)]) .ret) .skip)) (.seq (.seq (r [m 15 0,s 16 (.len (t 15)),s 17 (.move (i 0))]) (.block 0 (.loop A86l0))) (.seq (r [s 6 (.move b1)]) .ret)))) := ⟨_, by simp only [QQ]; rfl⟩
def A86 : ACode := A86p.1
def R86 : List RV := [.tmp 6]
theorem is86 : Is Tryz.prog (fun _ _ => false) 86 32 A86 R86 := ⟨Tryz.f86, Tryz.func86, rfl, by kernel_rfl, by kernel_rfl, Tryz.call86⟩
def A87p : CX (.seq (r [s 2 (.box (t 0)),s 3 (.box (t 1)),s 4 (.move b0)]) (.seq (r [fa 5 0 2,l 6 5,fa 7 0 3,l 8 7,s 9 (.bin .eql (t 6) (t 8)),m 10 9,ta 11 10 1 2,tl 12 10 11,ta 13 10 1 3,tl 14 10 13,gt 15 10 (.bin .eql (t 12) (t 14)),s 16 (.pick (t 10) (t 15) b0),m 17 16,ta 18 17 2 2,tl 19 17 18,ta 20 17 2 3,tl 21 17 20,gt 22 17 (.bin .eql (t 19) (t 21)),s 23 (.pick (t 17) (t 22) b0),m 24 23,ta 25 24 3 2,tl 26 24 25,ta 27 24 3 3,tl 28 24 27,gt 29 24 (.bin .eql (t 26) (t 28)),s 30 (.pick (t 24) (t 29) b0),m 31 30,ta 32 31 4 2,tl 33 31 32,ta 34 31 4 3,tl 35 31 34,gt 36 31 (.bin .eql (t 33) (t 35)),s 37 (.pick (t 31) (t 36) b0),m 38 37,ta 39 38 5 2,tl 40 38 39,ta 41 38 5 3,tl 42 38 41,tc 43 38 86 [(t 40),(t 42),(.func 87)],s 44 (.pick (t 38) (t 43) b0),m 4 44]) .ret)) := ⟨_, by simp only [QQ]; rfl⟩
def A87 : ACode := A87p.1
def R87 : List RV := [.tmp 4]
theorem is87 : Is Tryz.prog (fun _ _ => false) 87 45 A87 R87 := ⟨Tryz.f87, Tryz.func87, rfl, by kernel_rfl, by kernel_rfl, Tryz.call87⟩
def A88l0p : CX (.seq (r [s 9 (.bin .lss (t 8) (t 7))]) (.seq (.cond (t 9) .skip (.exit 0)) (.seq (.block 1 (.seq (r [m 10 8,m 5 10]) (.seq (r [m 11 1,m 12 0,m 13 5,s 14 (.idxA 6 (t 12) (t 13)),s 15 (.load 6 true (t 14)),⟨(some 16),none,.call (t 11) [(t 15)]⟩]) (.cond (t 16) (.seq (r [m 17 5,m 4 17]) .ret) .skip)))) (r [s 18 (.bin .add (t 8) (i 1)),m 8 18])))) := ⟨_, by simp only [QQ]; rfl⟩
def A88l0 : ACode := A88l0p.1
def A88p : CX (.seq (r [s 4 (.move (i 0))]) (.seq (.seq (r [m 6 0,s 7 (.len (t 6)),s 8 (.move (i 0))]) (.block 0 (.loop A88l0))) (.seq (r [s 4 (.move (.const (.int .i64 (-1))))]) .ret))) := ⟨_, by simp only [QQ]; rfl⟩
def A88 : ACode := A88p.1
def R88 : List RV := [.tmp 4]
theorem is88 : Is Tryz.prog (fun _ _ => false) 88 19 A88 R88 := ⟨Tryz.f88, Tryz.func88, rfl, by kernel_rfl, by kernel_rfl, Tryz.call88⟩
def A89l0p : CX (.seq (r [s 12 (.bin .lss (t 11) (t 10))]) (.seq (.cond (t 12) .skip (.exit 0)) (.seq (.block 1 (.seq (r [s 13 (.idxA 6 (t 9) (t 11)),s 14 (.load 6 true (t 13)),s 5 (.alloc [(.int .u8 0),(.int .i64 0),(.int .u64 0),(.str []),(.int .u8 0),.nilS]),sn (.store 6 (t 5) (t 14))]) (.seq (r [s 16 (.load 6 true (t 5)),c 17 89 [(t 16)],m 15 17,e 18 15 0,e 19 15 1,m 6 18,m 7 19]) (r [m 20 2,m 21 6,s 22 (.bin .add (t 20) (t 21)),m 23 3,m 24 7,s 25 (.mx (t 23) (t 24)),m 2 22,m 3 25])))) (r [s 26 (.bin .add (t 11) (i 1)),m 11 26])))) := ⟨_, by simp only [QQ]; rfl⟩
def A89l0 : ACode := A89l0p.1
def A89p : CX (.seq (r [s 1 (.box (t 0)),s 2 (.move (i 0)),s 3 (.move (i 0))]) (.seq (.seq (r [fa 8 5 1,l 9 8,s 10 (.len (t 9)),s 11 (.move (i 0))]) (.block 0 (.loop A89l0))) (.seq (r [m 27 2,s 28 (.bin .add (t 27) (i 1)),m 29 3,s 30 (.bin .add (t 29) (i 1)),m 2 28,m 3 30]) .ret))) := ⟨_, by simp only [QQ]; rfl⟩
def A89 : ACode := A89p.1
def R89 : List RV := [.tmp 2, .tmp 3]
theorem is89 : Is Tryz.prog (fun _ _ => false) 89 31 A89 R89 := ⟨Tryz.f89, Tryz.func89, rfl, by kernel_rfl, by kernel_rfl, Tryz.call89⟩
def A90l0p : CX (.seq (r [s 9 (.bin .lss (t 8) (t 7))]) (.seq (.cond (t 9) .skip (.exit 0)) (.seq (.block 1 (.seq (r [m 10 8,m 5 10]) (.seq (r [m 11 1,m 12 0,m 13 5,s 14 (.idxA 1 (t 12) (t 13)),l 15 14,s 16 (.bin .eql (t 11) (t 15))]) (.cond (t 16) (.seq (r [m 17 5,m 4 17]) .ret) .skip)))) (r [s 18 (.bin .add (t 8) (i 1)),m 8 18])))) := ⟨_, by simp only [QQ]; rfl⟩
def A90l0 : ACode := A90l0p.1
def A90p : CX (.seq (r [s 4 (.move (i 0))]) (.seq (.seq (r [m 6 0,s 7 (.len (t 6)),s 8 (.move (i 0))]) (.block 0 (.loop A90l0))) (.seq (r [s 4 (.move (.const (.int .i64 (-1))))]) .ret))) := ⟨_, by simp only [QQ]; rfl⟩
def A90 : ACode := A90p.1
def R90 : List RV := [.tmp 4]
theorem is90 : Is Tryz.prog (fun _ _ => false) 90 19 A90 R90 := ⟨Tryz.f90, Tryz.func90, rfl, by kernel_rfl, by kernel_rfl, Tryz.call90⟩
def A91p : CX (.seq (r [s 0 (.move (.const (.map none)))]) (.seq (r [s 1 (.m .mk),sn (.m (.set .str (t 1) (.const (.string ⟨#[98,105,116]⟩)) (i 1))),sn (.m (.set .str (t 1) (.const (.string ⟨#[98,121,116,101]⟩)) (i 8))),sn (.m (.set .str (t 1) (.const (.string ⟨#[104,97,108,102]⟩)) (i 16))),sn (.m (.set .str (t 1) (.const (.string ⟨#[119,111,114,100]⟩)) (i 32))),m 2 1,m 0 2]) .ret)) := ⟨_, by simp only [QQ]; rfl⟩
def A91 : ACode := A91p.1
def R91 : List RV := [.tmp 0]
theorem is91 : Is Tryz.prog (fun _ _ => false) 91 3 A91 R91 := ⟨Tryz.f91, Tryz.func91, rfl, by kernel_rfl, by kernel_rfl, Tryz.call91⟩
def A92l0p : CX (.seq (r [s 9 (.bin .lss (t 8) (t 7))]) (.seq (.cond (t 9) .skip (.exit 0)) (.seq (.block 1 (.seq (r [m 10 8,m 5 10]) (.seq (r [m 11 1,m 12 0,m 13 5,s 14 (.idxA 2 (t 12) (t 13)),s 15 (.load 2 true (t 14)),⟨(some 16),none,.call (t 11) [(t 15)]⟩]) (.cond (t 16) (.seq (r [m 17 5,m 4 17]) .ret) .skip)))) (r [s 18 (.bin .add (t 8) (i 1)),m 8 18])))) := ⟨_, by simp only [QQ]; rfl⟩
def A92l0 : ACode := A92l0p.1
def A92p : CX (.seq (r [s 4 (.move (i 0))]) (.seq (.seq (r [m 6 0,s 7 (.len (t 6)),s 8 (.move (i 0))]) (.block 0 (.loop A92l0))) (.seq (r [s 4 (.move (.const (.int .i64 (-1))))]) .ret))) := ⟨_, by simp only [QQ]; rfl⟩
def A92 : ACode := A92p.1
def R92 : List RV := [.tmp 4]
theorem is92 : Is Tryz.prog (fun _ _ => false) 92 19 A92 R92 := ⟨Tryz.f92, Tryz.func92, rfl, by kernel_rfl, by kernel_rfl, Tryz.call92⟩
def A93l0p : CX (.seq (r [s 9 (.bin .lss (t 8) (t 7))]) (.seq (.cond (t 9) .skip (.exit 0)) (.seq (.block 1 (.seq (r [m 10 8,m 5 10]) (.seq (r [m 11 1,m 12 0,m 13 5,s 14 (.idxA 7 (t 12) (t 13)),s 15 (.load 7 true (t 14)),⟨(some 16),none,.call (t 11) [(t 15)]⟩]) (.cond (t 16) (.seq (r [m 17 5,m 4 17]) .ret) .skip)))) (r [s 18 (.bin .add (t 8) (i 1)),m 8 18])))) := ⟨_, by simp only [QQ]; rfl⟩
def A93l0 : ACode := A93l0p.1
def A93p : CX (.seq (r [s 4 (.move (i 0))]) (.seq (.seq (r [m 6 0,s 7 (.len (t 6)),s 8 (.move (i 0))]) (.block 0 (.loop A93l0))) (.seq (r [s 4 (.move (.const (.int .i64 (-1))))]) .ret))) := ⟨_, by simp only [QQ]; rfl⟩
def A93 : ACode := A93p.1
def R93 : List RV := [.tmp 4]
theorem is93 : Is Tryz.prog (fun _ _ => false) 93 19 A93 R93 := ⟨Tryz.f93, Tryz.func93, rfl, by kernel_rfl, by kernel_rfl, Tryz.call93⟩
def A94p : CX (.seq (r [s 2 (.box (t 0)),s 3 (.move b0)]) (.seq (r [l 4 1,s 5 (.load 6 true (t 2)),⟨(some 6),none,.call (t 4) [(t 5)]⟩,s 7 (.un .not (t 6)),m 3 7]) .ret)) := ⟨_, by simp only [QQ]; rfl⟩
def A94 : ACode := A94p.1
def R94 : List RV := [.tmp 3]
theorem is94 : Is Tryz.prog (fun _ _ => false) 94 8 A94 R94 := ⟨Tryz.f94, Tryz.func94, rfl, by kernel_rfl, by kernel_rfl, Tryz.call94⟩
end Go.Proofs.YtkfldbimfbacmaaGreatDoor
