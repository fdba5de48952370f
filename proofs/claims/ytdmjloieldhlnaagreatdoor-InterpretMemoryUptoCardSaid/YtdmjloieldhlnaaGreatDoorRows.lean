/-
  NARROWER THAN 'FOR EVERY INPUT', by the rows' own cells (each row's printed sentence says how): InterpretNames: laid · InterpretFuel: loops, laid · InterpretMemory: laid · InterpretCalls: loops, laid · InterpretBlind: loops, laid.
  DERIVED. THE GIVEN ROWS OF THIS SEAT. 5 by the template 'for every input the law returns true; each argument reads behind the call as it read before'; 0 by the template 'total and deterministic' (their statements: YtdmjloieldhlnaaGreatDoorTotals.lean).
  GIVEN WITH THE SEED: the statements are not yours to turn. If you find one false, say at which input.
  Laid BY PROGRAM, IN A SANDBOX (cutbox-rows.mjs): the forced cells as the released guide's own fill.sh prints them over the translation b600edea99205295… (all of the seat's roots in one cut). By AI agents, Wed Nov 11 2026. No macro, syntax, notation, axiom, sorry.
-/
import Derived.Test.YtdmjloieldhlnaaGreatDoorChecked
import GoSem.Claim
import GoSem.ClaimJoined
import GoSem.ClaimMapViews
import Derived.JoinedTies
import Derived.KernelRfl
namespace Go.Proofs.YtdmjloieldhlnaaGreatDoor
/- THE CELL 'sum', in the pinned program and in every row, IS THE sha256 OF THE DUMP (.gsa) THAT YtdmjloieldhlnaaGreatDoorProg.lean LOADS. Nothing in Lean hashes anything: it is a label: what it is worth is what the hold of that sum in a sandbox is worth. -/
noncomputable def Tryz.pinned : Pinned := { name := "ytdmjloieldhlnaagreatdoor", sum := "b600edea99205295039643e76245ad9033d9b2ad6816585af72f2943c6f9be73", checked := Tryz.checked }
namespace Rows
def none {H : Type} : Left H := { results := [], args := [] }

/- WHAT THE LISTED PACKAGE-LEVEL VARIABLES READ AS WHEN THE CALL BEGINS. Each datum BY PROGRAM (the guide's laid-datum.mjs) off the statement by which the dump's own 'gosem.cut.vars' lays the variable. In a bare row this is a premise. The card (YtdmjloieldhlnaaGreatDoorCards.lean) ties it to the program's text. -/
def laid_retarget_term_shapes {H : Type} : DataW H := .agg [.agg [.lit (.string []), .lit (.int .i64 0), .lit (.int .i64 0)], .agg [.lit (.string []), .lit (.int .i64 0), .lit (.int .i64 0)], .agg [.lit (.string []), .lit (.int .i64 0), .lit (.int .i64 0)], .agg [.lit (.string [110, 111, 116]), .lit (.int .i64 1), .lit (.int .i64 1)], .agg [.lit (.string [110, 101, 103]), .lit (.int .i64 1), .lit (.int .i64 1)], .agg [.lit (.string [97, 100, 100]), .lit (.int .i64 2), .lit (.int .i64 1)], .agg [.lit (.string [115, 117, 98]), .lit (.int .i64 2), .lit (.int .i64 1)], .agg [.lit (.string [109, 117, 108]), .lit (.int .i64 2), .lit (.int .i64 1)], .agg [.lit (.string [97, 110, 100]), .lit (.int .i64 2), .lit (.int .i64 1)], .agg [.lit (.string [111, 114]), .lit (.int .i64 2), .lit (.int .i64 1)], .agg [.lit (.string [120, 111, 114]), .lit (.int .i64 2), .lit (.int .i64 1)], .agg [.lit (.string [115, 104, 108]), .lit (.int .i64 2), .lit (.int .i64 1)], .agg [.lit (.string [115, 104, 114]), .lit (.int .i64 2), .lit (.int .i64 1)], .agg [.lit (.string [115, 97, 114]), .lit (.int .i64 2), .lit (.int .i64 1)], .agg [.lit (.string [117, 100, 105, 118]), .lit (.int .i64 2), .lit (.int .i64 1)], .agg [.lit (.string [117, 114, 101, 109]), .lit (.int .i64 2), .lit (.int .i64 1)], .agg [.lit (.string [101, 113]), .lit (.int .i64 2), .lit (.int .i64 2)], .agg [.lit (.string [117, 108, 116]), .lit (.int .i64 2), .lit (.int .i64 2)], .agg [.lit (.string [115, 108, 116]), .lit (.int .i64 2), .lit (.int .i64 2)], .agg [.lit (.string [105, 116, 101]), .lit (.int .i64 3), .lit (.int .i64 3)], .agg [.lit (.string [99, 111, 110, 99, 97, 116]), .lit (.int .i64 2), .lit (.int .i64 4)], .agg [.lit (.string [101, 120, 116, 114, 97, 99, 116]), .lit (.int .i64 1), .lit (.int .i64 5)], .agg [.lit (.string [122, 101, 120, 116]), .lit (.int .i64 1), .lit (.int .i64 6)], .agg [.lit (.string [115, 101, 120, 116]), .lit (.int .i64 1), .lit (.int .i64 6)], .agg [.lit (.string [108, 111, 97, 100]), .lit (.int .i64 1), .lit (.int .i64 7)]]

/-- 'retargetlaw19.InterpretNames': WHATEVER THE INPUT: true; the input reads as it did. -/
def interpretNamesSpec : ChangeSpec := { name := "interpretNames", fn := fun _ => fun
  | [] => { results := [.lit (.bool true)], args := [] }
  | _ => none }
def interpretNamesRow : OpenClaim := { program := "ytdmjloieldhlnaagreatdoor", sum := "b600edea99205295039643e76245ad9033d9b2ad6816585af72f2943c6f9be73", func := "retarget/retargetlaw19.InterpretNames", spec := "interpretNames", inPlace := ["internal/bytealg.abigen_runtime_cmpstring", "slices.overlaps[retarget/api.Cell]"], unfollowed := true, recurses := true, named := ["retarget/term.shapes"], apart := false, laid := [("retarget/term.shapes", laid_retarget_term_shapes)] }
def InterpretNamesSaid : Prop := interpretNamesRow.holds Tryz.pinned (OpenSpec.ofChange interpretNamesSpec)

/-- ITS FALSE NEIGHBOUR: 'it returns false'. Refute it at one input. -/
def interpretNamesWrong : ChangeSpec := { name := "interpretNames", fn := fun _ => fun
  | [] => { results := [.lit (.bool false)], args := [] }
  | _ => none }
def InterpretNamesWrongFalsely : Prop := interpretNamesRow.holds Tryz.pinned (OpenSpec.ofChange interpretNamesWrong)

/-- 'retargetlaw19.InterpretFuel': WHATEVER THE INPUT: true; the input reads as it did. -/
def interpretFuelSpec : ChangeSpec := { name := "interpretFuel", fn := fun _ => fun
  | [d1, d2, d3, d4, d5] => { results := [.lit (.bool true)], args := [d1, d2, d3, d4, d5] }
  | _ => none }
def interpretFuelRow : OpenClaim := { program := "ytdmjloieldhlnaagreatdoor", sum := "b600edea99205295039643e76245ad9033d9b2ad6816585af72f2943c6f9be73", func := "retarget/retargetlaw19.InterpretFuel", spec := "interpretFuel", inPlace := ["internal/bytealg.abigen_runtime_cmpstring", "slices.overlaps[retarget/api.Cell]"], unfollowed := true, recurses := true, named := ["retarget/term.shapes"], loops := true, apart := false, laid := [("retarget/term.shapes", laid_retarget_term_shapes)] }
def InterpretFuelSaid : Prop := interpretFuelRow.holds Tryz.pinned (OpenSpec.ofChange interpretFuelSpec)

/-- ITS FALSE NEIGHBOUR: 'it returns false'. Refute it at one input. -/
def interpretFuelWrong : ChangeSpec := { name := "interpretFuel", fn := fun _ => fun
  | [d1, d2, d3, d4, d5] => { results := [.lit (.bool false)], args := [d1, d2, d3, d4, d5] }
  | _ => none }
def InterpretFuelWrongFalsely : Prop := interpretFuelRow.holds Tryz.pinned (OpenSpec.ofChange interpretFuelWrong)

/-- 'retargetlaw19.InterpretMemory': WHATEVER THE INPUT: true; the input reads as it did. -/
def interpretMemorySpec : ChangeSpec := { name := "interpretMemory", fn := fun _ => fun
  | [d1, d2, d3, d4, d5] => { results := [.lit (.bool true)], args := [d1, d2, d3, d4, d5] }
  | _ => none }
def interpretMemoryRow : OpenClaim := { program := "ytdmjloieldhlnaagreatdoor", sum := "b600edea99205295039643e76245ad9033d9b2ad6816585af72f2943c6f9be73", func := "retarget/retargetlaw19.InterpretMemory", spec := "interpretMemory", inPlace := ["internal/bytealg.abigen_runtime_cmpstring", "slices.overlaps[retarget/api.Cell]"], unfollowed := true, recurses := true, named := ["retarget/term.shapes"], apart := false, laid := [("retarget/term.shapes", laid_retarget_term_shapes)] }
def InterpretMemorySaid : Prop := interpretMemoryRow.holds Tryz.pinned (OpenSpec.ofChange interpretMemorySpec)

/-- ITS FALSE NEIGHBOUR: 'it returns false'. Refute it at one input. -/
def interpretMemoryWrong : ChangeSpec := { name := "interpretMemory", fn := fun _ => fun
  | [d1, d2, d3, d4, d5] => { results := [.lit (.bool false)], args := [d1, d2, d3, d4, d5] }
  | _ => none }
def InterpretMemoryWrongFalsely : Prop := interpretMemoryRow.holds Tryz.pinned (OpenSpec.ofChange interpretMemoryWrong)

/-- 'retargetlaw19.InterpretCalls': WHATEVER THE INPUT: true; the input reads as it did. -/
def interpretCallsSpec : ChangeSpec := { name := "interpretCalls", fn := fun _ => fun
  | [d1, d2, d3, d4, d5] => { results := [.lit (.bool true)], args := [d1, d2, d3, d4, d5] }
  | _ => none }
def interpretCallsRow : OpenClaim := { program := "ytdmjloieldhlnaagreatdoor", sum := "b600edea99205295039643e76245ad9033d9b2ad6816585af72f2943c6f9be73", func := "retarget/retargetlaw19.InterpretCalls", spec := "interpretCalls", inPlace := ["internal/bytealg.abigen_runtime_cmpstring", "slices.overlaps[retarget/api.Cell]"], unfollowed := true, recurses := true, named := ["retarget/term.shapes"], loops := true, apart := false, laid := [("retarget/term.shapes", laid_retarget_term_shapes)] }
def InterpretCallsSaid : Prop := interpretCallsRow.holds Tryz.pinned (OpenSpec.ofChange interpretCallsSpec)

/-- ITS FALSE NEIGHBOUR: 'it returns false'. Refute it at one input. -/
def interpretCallsWrong : ChangeSpec := { name := "interpretCalls", fn := fun _ => fun
  | [d1, d2, d3, d4, d5] => { results := [.lit (.bool false)], args := [d1, d2, d3, d4, d5] }
  | _ => none }
def InterpretCallsWrongFalsely : Prop := interpretCallsRow.holds Tryz.pinned (OpenSpec.ofChange interpretCallsWrong)

/-- 'retargetlaw19.InterpretBlind': WHATEVER THE INPUT: true; the input reads as it did. -/
def interpretBlindSpec : ChangeSpec := { name := "interpretBlind", fn := fun _ => fun
  | [d1, d2, d3, d4, d5, d6, d7, d8] => { results := [.lit (.bool true)], args := [d1, d2, d3, d4, d5, d6, d7, d8] }
  | _ => none }
def interpretBlindRow : OpenClaim := { program := "ytdmjloieldhlnaagreatdoor", sum := "b600edea99205295039643e76245ad9033d9b2ad6816585af72f2943c6f9be73", func := "retarget/retargetlaw19.InterpretBlind", spec := "interpretBlind", inPlace := ["internal/bytealg.abigen_runtime_cmpstring", "slices.overlaps[retarget/api.Cell]"], unfollowed := true, recurses := true, named := ["retarget/term.shapes"], loops := true, apart := false, laid := [("retarget/term.shapes", laid_retarget_term_shapes)] }
def InterpretBlindSaid : Prop := interpretBlindRow.holds Tryz.pinned (OpenSpec.ofChange interpretBlindSpec)

/-- ITS FALSE NEIGHBOUR: 'it returns false'. Refute it at one input. -/
def interpretBlindWrong : ChangeSpec := { name := "interpretBlind", fn := fun _ => fun
  | [d1, d2, d3, d4, d5, d6, d7, d8] => { results := [.lit (.bool false)], args := [d1, d2, d3, d4, d5, d6, d7, d8] }
  | _ => none }
def InterpretBlindWrongFalsely : Prop := interpretBlindRow.holds Tryz.pinned (OpenSpec.ofChange interpretBlindWrong)

/- THE SECOND FORM. 'bulk': how many values and letters a reading holds, each counted each time it is reached (what is shared counts as often as it is met; a slice's spare places count too). A statement '..UptoSaid' is the law's where the arguments, and the package variables that the reading takes, are together of bulk at most 1048576: NARROWER than '..Said'. Prove '..Said' where nothing that the law and all that it calls make is longer than what came in: it says more and counts as full. Else prove '..UptoSaid'. A law counts once. -/
mutual
def uptoBulk {H : Type} : DataW H → Nat
  | .lit (.string bytes) => bytes.length + 1
  | .lit _ => 1
  | .nil => 1
  | .ptr d => uptoBulk d + 1
  | .slice elems spare => uptoBulkAll elems + uptoBulkAll spare + 1
  | .agg parts => uptoBulkAll parts + 1
  | .iface _ d => uptoBulk d + 1
  | .map entries => uptoBulkEntries entries + 1
  | .held _ => 1
def uptoBulkAll {H : Type} : List (DataW H) → Nat
  | [] => 0
  | d :: r => uptoBulk d + uptoBulkAll r
def uptoBulkEntries {H : Type} : List (Lit × DataW H) → Nat
  | [] => 0
  | x :: r => uptoBulkEntry x + uptoBulkEntries r
def uptoBulkEntry {H : Type} : Lit × DataW H → Nat
  | (.string bytes, d) => bytes.length + uptoBulk d + 1
  | (_, d) => uptoBulk d + 1
 end
def uptoSmall : (H : Type) → List (DataW H) → Bool := fun _ ds => decide (uptoBulkAll ds ≤ 1048576)
def OpenSpec.upto (s : _root_.Go.ChangeSpec) : _root_.Go.OpenSpec := { _root_.Go.OpenSpec.ofChange s with cond := some uptoSmall }

/-- 'retargetlaw19.InterpretNames', WHERE WHAT IT READS IS OF BULK AT MOST 1048576: true; the input reads as it did. -/
def interpretNamesUptoRow : OpenClaim := { program := "ytdmjloieldhlnaagreatdoor", sum := "b600edea99205295039643e76245ad9033d9b2ad6816585af72f2943c6f9be73", func := "retarget/retargetlaw19.InterpretNames", spec := "interpretNames", inPlace := ["internal/bytealg.abigen_runtime_cmpstring", "slices.overlaps[retarget/api.Cell]"], unfollowed := true, recurses := true, named := ["retarget/term.shapes"], apart := false, laid := [("retarget/term.shapes", laid_retarget_term_shapes)], narrowed := true }
def InterpretNamesUptoSaid : Prop := interpretNamesUptoRow.holds Tryz.pinned (OpenSpec.upto interpretNamesSpec)

/-- 'retargetlaw19.InterpretFuel', WHERE WHAT IT READS IS OF BULK AT MOST 1048576: true; the input reads as it did. -/
def interpretFuelUptoRow : OpenClaim := { program := "ytdmjloieldhlnaagreatdoor", sum := "b600edea99205295039643e76245ad9033d9b2ad6816585af72f2943c6f9be73", func := "retarget/retargetlaw19.InterpretFuel", spec := "interpretFuel", inPlace := ["internal/bytealg.abigen_runtime_cmpstring", "slices.overlaps[retarget/api.Cell]"], unfollowed := true, recurses := true, named := ["retarget/term.shapes"], loops := true, apart := false, laid := [("retarget/term.shapes", laid_retarget_term_shapes)], narrowed := true }
def InterpretFuelUptoSaid : Prop := interpretFuelUptoRow.holds Tryz.pinned (OpenSpec.upto interpretFuelSpec)

/-- 'retargetlaw19.InterpretMemory', WHERE WHAT IT READS IS OF BULK AT MOST 1048576: true; the input reads as it did. -/
def interpretMemoryUptoRow : OpenClaim := { program := "ytdmjloieldhlnaagreatdoor", sum := "b600edea99205295039643e76245ad9033d9b2ad6816585af72f2943c6f9be73", func := "retarget/retargetlaw19.InterpretMemory", spec := "interpretMemory", inPlace := ["internal/bytealg.abigen_runtime_cmpstring", "slices.overlaps[retarget/api.Cell]"], unfollowed := true, recurses := true, named := ["retarget/term.shapes"], apart := false, laid := [("retarget/term.shapes", laid_retarget_term_shapes)], narrowed := true }
def InterpretMemoryUptoSaid : Prop := interpretMemoryUptoRow.holds Tryz.pinned (OpenSpec.upto interpretMemorySpec)

/-- 'retargetlaw19.InterpretCalls', WHERE WHAT IT READS IS OF BULK AT MOST 1048576: true; the input reads as it did. -/
def interpretCallsUptoRow : OpenClaim := { program := "ytdmjloieldhlnaagreatdoor", sum := "b600edea99205295039643e76245ad9033d9b2ad6816585af72f2943c6f9be73", func := "retarget/retargetlaw19.InterpretCalls", spec := "interpretCalls", inPlace := ["internal/bytealg.abigen_runtime_cmpstring", "slices.overlaps[retarget/api.Cell]"], unfollowed := true, recurses := true, named := ["retarget/term.shapes"], loops := true, apart := false, laid := [("retarget/term.shapes", laid_retarget_term_shapes)], narrowed := true }
def InterpretCallsUptoSaid : Prop := interpretCallsUptoRow.holds Tryz.pinned (OpenSpec.upto interpretCallsSpec)

/-- 'retargetlaw19.InterpretBlind', WHERE WHAT IT READS IS OF BULK AT MOST 1048576: true; the input reads as it did. -/
def interpretBlindUptoRow : OpenClaim := { program := "ytdmjloieldhlnaagreatdoor", sum := "b600edea99205295039643e76245ad9033d9b2ad6816585af72f2943c6f9be73", func := "retarget/retargetlaw19.InterpretBlind", spec := "interpretBlind", inPlace := ["internal/bytealg.abigen_runtime_cmpstring", "slices.overlaps[retarget/api.Cell]"], unfollowed := true, recurses := true, named := ["retarget/term.shapes"], loops := true, apart := false, laid := [("retarget/term.shapes", laid_retarget_term_shapes)], narrowed := true }
def InterpretBlindUptoSaid : Prop := interpretBlindUptoRow.holds Tryz.pinned (OpenSpec.upto interpretBlindSpec)

end Rows
end Go.Proofs.YtdmjloieldhlnaaGreatDoor
