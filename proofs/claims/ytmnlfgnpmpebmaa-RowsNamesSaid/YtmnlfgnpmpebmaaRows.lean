/-
  No cell of these rows narrows 'for every input' (looked for: loops, veiled, ifaces, maps, wideKeys, modest, calm, conditions, laid).
  DERIVED. THE GIVEN ROWS OF THIS SEAT. 8 by the template 'for every input the law returns true; each argument reads behind the call as it read before'; 0 by the template 'total and deterministic' (their statements: YtmnlfgnpmpebmaaTotals.lean).
  GIVEN WITH THE SEED: the statements are not yours to turn. If you find one false, say at which input.
  Laid BY PROGRAM, IN A SANDBOX (cutbox-rows.mjs): the forced cells as the released guide's own fill.sh prints them over the translation 0e9733ae99957e9d… (all of the seat's roots in one cut). By AI agents, Wed Nov 11 2026. No macro, syntax, notation, axiom, sorry.
-/
import Derived.Test.YtmnlfgnpmpebmaaChecked
import GoSem.Claim
import GoSem.ClaimJoined
import GoSem.ClaimMapViews
import Derived.JoinedTies
import Derived.KernelRfl
namespace Go.Proofs.Ytmnlfgnpmpebmaa
/- THE CELL 'sum', in the pinned program and in every row, IS THE sha256 OF THE DUMP (.gsa) THAT YtmnlfgnpmpebmaaProg.lean LOADS. Nothing in Lean hashes anything: it is a label: what it is worth is what the hold of that sum in a sandbox is worth. -/
noncomputable def Try.pinned : Pinned := { name := "ytmnlfgnpmpebmaa", sum := "0e9733ae99957e9dce8350b5028c013d178e41372b560fde758a101620c9d01b", checked := Try.checked }
namespace Rows
def none {H : Type} : Left H := { results := [], args := [] }

/-- 'retargetlaw42.RowsFinds': WHATEVER THE INPUT: true; the input reads as it did. -/
def rowsFindsSpec : ChangeSpec := { name := "rowsFinds", fn := fun _ => fun
  | [d1, d2] => { results := [.lit (.bool true)], args := [d1, d2] }
  | _ => none }
def rowsFindsRow : OpenClaim := { program := "ytmnlfgnpmpebmaa", sum := "0e9733ae99957e9dce8350b5028c013d178e41372b560fde758a101620c9d01b", func := "retarget/retargetlaw42.RowsFinds", spec := "rowsFinds", apart := false }
def RowsFindsSaid : Prop := rowsFindsRow.holds Try.pinned (OpenSpec.ofChange rowsFindsSpec)

/-- ITS FALSE NEIGHBOUR: 'it returns false'. Refute it at one input. -/
def rowsFindsWrong : ChangeSpec := { name := "rowsFinds", fn := fun _ => fun
  | [d1, d2] => { results := [.lit (.bool false)], args := [d1, d2] }
  | _ => none }
def RowsFindsWrongFalsely : Prop := rowsFindsRow.holds Try.pinned (OpenSpec.ofChange rowsFindsWrong)

/-- 'retargetlaw42.RowsBuilds': WHATEVER THE INPUT: true; the input reads as it did. -/
def rowsBuildsSpec : ChangeSpec := { name := "rowsBuilds", fn := fun _ => fun
  | [d1, d2, d3] => { results := [.lit (.bool true)], args := [d1, d2, d3] }
  | _ => none }
def rowsBuildsRow : OpenClaim := { program := "ytmnlfgnpmpebmaa", sum := "0e9733ae99957e9dce8350b5028c013d178e41372b560fde758a101620c9d01b", func := "retarget/retargetlaw42.RowsBuilds", spec := "rowsBuilds", apart := false }
def RowsBuildsSaid : Prop := rowsBuildsRow.holds Try.pinned (OpenSpec.ofChange rowsBuildsSpec)

/-- ITS FALSE NEIGHBOUR: 'it returns false'. Refute it at one input. -/
def rowsBuildsWrong : ChangeSpec := { name := "rowsBuilds", fn := fun _ => fun
  | [d1, d2, d3] => { results := [.lit (.bool false)], args := [d1, d2, d3] }
  | _ => none }
def RowsBuildsWrongFalsely : Prop := rowsBuildsRow.holds Try.pinned (OpenSpec.ofChange rowsBuildsWrong)

/-- 'retargetlaw42.RowsPacks': WHATEVER THE INPUT: true; the input reads as it did. -/
def rowsPacksSpec : ChangeSpec := { name := "rowsPacks", fn := fun _ => fun
  | [d1, d2] => { results := [.lit (.bool true)], args := [d1, d2] }
  | _ => none }
def rowsPacksRow : OpenClaim := { program := "ytmnlfgnpmpebmaa", sum := "0e9733ae99957e9dce8350b5028c013d178e41372b560fde758a101620c9d01b", func := "retarget/retargetlaw42.RowsPacks", spec := "rowsPacks", unfollowed := true, recurses := true, apart := false }
def RowsPacksSaid : Prop := rowsPacksRow.holds Try.pinned (OpenSpec.ofChange rowsPacksSpec)

/-- ITS FALSE NEIGHBOUR: 'it returns false'. Refute it at one input. -/
def rowsPacksWrong : ChangeSpec := { name := "rowsPacks", fn := fun _ => fun
  | [d1, d2] => { results := [.lit (.bool false)], args := [d1, d2] }
  | _ => none }
def RowsPacksWrongFalsely : Prop := rowsPacksRow.holds Try.pinned (OpenSpec.ofChange rowsPacksWrong)

/-- 'retargetlaw42.RowsBack': WHATEVER THE INPUT: true; the input reads as it did. -/
def rowsBackSpec : ChangeSpec := { name := "rowsBack", fn := fun _ => fun
  | [d] => { results := [.lit (.bool true)], args := [d] }
  | _ => none }
def rowsBackRow : OpenClaim := { program := "ytmnlfgnpmpebmaa", sum := "0e9733ae99957e9dce8350b5028c013d178e41372b560fde758a101620c9d01b", func := "retarget/retargetlaw42.RowsBack", spec := "rowsBack", unfollowed := true, recurses := true, apart := false }
def RowsBackSaid : Prop := rowsBackRow.holds Try.pinned (OpenSpec.ofChange rowsBackSpec)

/-- ITS FALSE NEIGHBOUR: 'it returns false'. Refute it at one input. -/
def rowsBackWrong : ChangeSpec := { name := "rowsBack", fn := fun _ => fun
  | [d] => { results := [.lit (.bool false)], args := [d] }
  | _ => none }
def RowsBackWrongFalsely : Prop := rowsBackRow.holds Try.pinned (OpenSpec.ofChange rowsBackWrong)

/-- 'retargetlaw42.RowsOnly': WHATEVER THE INPUT: true; the input reads as it did. -/
def rowsOnlySpec : ChangeSpec := { name := "rowsOnly", fn := fun _ => fun
  | [d] => { results := [.lit (.bool true)], args := [d] }
  | _ => none }
def rowsOnlyRow : OpenClaim := { program := "ytmnlfgnpmpebmaa", sum := "0e9733ae99957e9dce8350b5028c013d178e41372b560fde758a101620c9d01b", func := "retarget/retargetlaw42.RowsOnly", spec := "rowsOnly", unfollowed := true, recurses := true, apart := false }
def RowsOnlySaid : Prop := rowsOnlyRow.holds Try.pinned (OpenSpec.ofChange rowsOnlySpec)

/-- ITS FALSE NEIGHBOUR: 'it returns false'. Refute it at one input. -/
def rowsOnlyWrong : ChangeSpec := { name := "rowsOnly", fn := fun _ => fun
  | [d] => { results := [.lit (.bool false)], args := [d] }
  | _ => none }
def RowsOnlyWrongFalsely : Prop := rowsOnlyRow.holds Try.pinned (OpenSpec.ofChange rowsOnlyWrong)

/-- 'retargetlaw42.RowsLast': WHATEVER THE INPUT: true; the input reads as it did. -/
def rowsLastSpec : ChangeSpec := { name := "rowsLast", fn := fun _ => fun
  | [d1, d2, d3] => { results := [.lit (.bool true)], args := [d1, d2, d3] }
  | _ => none }
def rowsLastRow : OpenClaim := { program := "ytmnlfgnpmpebmaa", sum := "0e9733ae99957e9dce8350b5028c013d178e41372b560fde758a101620c9d01b", func := "retarget/retargetlaw42.RowsLast", spec := "rowsLast", unfollowed := true, recurses := true, apart := false }
def RowsLastSaid : Prop := rowsLastRow.holds Try.pinned (OpenSpec.ofChange rowsLastSpec)

/-- ITS FALSE NEIGHBOUR: 'it returns false'. Refute it at one input. -/
def rowsLastWrong : ChangeSpec := { name := "rowsLast", fn := fun _ => fun
  | [d1, d2, d3] => { results := [.lit (.bool false)], args := [d1, d2, d3] }
  | _ => none }
def RowsLastWrongFalsely : Prop := rowsLastRow.holds Try.pinned (OpenSpec.ofChange rowsLastWrong)

/-- 'retargetlaw42.RowsNames': WHATEVER THE INPUT: true; the input reads as it did. -/
def rowsNamesSpec : ChangeSpec := { name := "rowsNames", fn := fun _ => fun
  | [] => { results := [.lit (.bool true)], args := [] }
  | _ => none }
def rowsNamesRow : OpenClaim := { program := "ytmnlfgnpmpebmaa", sum := "0e9733ae99957e9dce8350b5028c013d178e41372b560fde758a101620c9d01b", func := "retarget/retargetlaw42.RowsNames", spec := "rowsNames", unfollowed := true, recurses := true, apart := false }
def RowsNamesSaid : Prop := rowsNamesRow.holds Try.pinned (OpenSpec.ofChange rowsNamesSpec)

/-- ITS FALSE NEIGHBOUR: 'it returns false'. Refute it at one input. -/
def rowsNamesWrong : ChangeSpec := { name := "rowsNames", fn := fun _ => fun
  | [] => { results := [.lit (.bool false)], args := [] }
  | _ => none }
def RowsNamesWrongFalsely : Prop := rowsNamesRow.holds Try.pinned (OpenSpec.ofChange rowsNamesWrong)

/-- 'retargetlaw42.RowsJoined': WHATEVER THE INPUT: true; the input reads as it did. -/
def rowsJoinedSpec : ChangeSpec := { name := "rowsJoined", fn := fun _ => fun
  | [d1, d2, d3, d4] => { results := [.lit (.bool true)], args := [d1, d2, d3, d4] }
  | _ => none }
def rowsJoinedRow : OpenClaim := { program := "ytmnlfgnpmpebmaa", sum := "0e9733ae99957e9dce8350b5028c013d178e41372b560fde758a101620c9d01b", func := "retarget/retargetlaw42.RowsJoined", spec := "rowsJoined", unfollowed := true, recurses := true, apart := false }
def RowsJoinedSaid : Prop := rowsJoinedRow.holds Try.pinned (OpenSpec.ofChange rowsJoinedSpec)

/-- ITS FALSE NEIGHBOUR: 'it returns false'. Refute it at one input. -/
def rowsJoinedWrong : ChangeSpec := { name := "rowsJoined", fn := fun _ => fun
  | [d1, d2, d3, d4] => { results := [.lit (.bool false)], args := [d1, d2, d3, d4] }
  | _ => none }
def RowsJoinedWrongFalsely : Prop := rowsJoinedRow.holds Try.pinned (OpenSpec.ofChange rowsJoinedWrong)

/- THE SECOND FORM. 'bulk': how many values and letters a reading holds, each counted each time it is reached (what is shared counts as often as it is met; a slice's spare places count too). A statement '..UptoSaid' is the law's where the arguments, and the package variables that the reading takes, are together of bulk at most 1048576: NARROWER than '..Said'. Prove '..Said' where nothing that the law and all that it calls make is longer than what came in: it says more and counts as full. Else prove '..UptoSaid'. A law counts once. -/
mutual
def uptoBulk {H : Type} : DataW H → Nat
  | .lit (.string bytes) => bytes.length + 1
  | .lit _ => 1
  | .nil => 1
  | .ptr d => uptoBulk d + 1
  | .slice elems spare => uptoBulkAll elems + uptoBulkAll spare + 1
  | .agg parts => uptoBulkAll parts + 1
  | .iface _ d => uptoBulk d + 1
  | .map entries => uptoBulkEntries entries + 1
  | .held _ => 1
def uptoBulkAll {H : Type} : List (DataW H) → Nat
  | [] => 0
  | d :: r => uptoBulk d + uptoBulkAll r
def uptoBulkEntries {H : Type} : List (Lit × DataW H) → Nat
  | [] => 0
  | x :: r => uptoBulkEntry x + uptoBulkEntries r
def uptoBulkEntry {H : Type} : Lit × DataW H → Nat
  | (.string bytes, d) => bytes.length + uptoBulk d + 1
  | (_, d) => uptoBulk d + 1
 end
def uptoSmall : (H : Type) → List (DataW H) → Bool := fun _ ds => decide (uptoBulkAll ds ≤ 1048576)
def OpenSpec.upto (s : _root_.Go.ChangeSpec) : _root_.Go.OpenSpec := { _root_.Go.OpenSpec.ofChange s with cond := some uptoSmall }

/-- 'retargetlaw42.RowsFinds', WHERE WHAT IT READS IS OF BULK AT MOST 1048576: true; the input reads as it did. -/
def rowsFindsUptoRow : OpenClaim := { program := "ytmnlfgnpmpebmaa", sum := "0e9733ae99957e9dce8350b5028c013d178e41372b560fde758a101620c9d01b", func := "retarget/retargetlaw42.RowsFinds", spec := "rowsFinds", apart := false, narrowed := true }
def RowsFindsUptoSaid : Prop := rowsFindsUptoRow.holds Try.pinned (OpenSpec.upto rowsFindsSpec)

/-- 'retargetlaw42.RowsBuilds', WHERE WHAT IT READS IS OF BULK AT MOST 1048576: true; the input reads as it did. -/
def rowsBuildsUptoRow : OpenClaim := { program := "ytmnlfgnpmpebmaa", sum := "0e9733ae99957e9dce8350b5028c013d178e41372b560fde758a101620c9d01b", func := "retarget/retargetlaw42.RowsBuilds", spec := "rowsBuilds", apart := false, narrowed := true }
def RowsBuildsUptoSaid : Prop := rowsBuildsUptoRow.holds Try.pinned (OpenSpec.upto rowsBuildsSpec)

/-- 'retargetlaw42.RowsPacks', WHERE WHAT IT READS IS OF BULK AT MOST 1048576: true; the input reads as it did. -/
def rowsPacksUptoRow : OpenClaim := { program := "ytmnlfgnpmpebmaa", sum := "0e9733ae99957e9dce8350b5028c013d178e41372b560fde758a101620c9d01b", func := "retarget/retargetlaw42.RowsPacks", spec := "rowsPacks", unfollowed := true, recurses := true, apart := false, narrowed := true }
def RowsPacksUptoSaid : Prop := rowsPacksUptoRow.holds Try.pinned (OpenSpec.upto rowsPacksSpec)

/-- 'retargetlaw42.RowsBack', WHERE WHAT IT READS IS OF BULK AT MOST 1048576: true; the input reads as it did. -/
def rowsBackUptoRow : OpenClaim := { program := "ytmnlfgnpmpebmaa", sum := "0e9733ae99957e9dce8350b5028c013d178e41372b560fde758a101620c9d01b", func := "retarget/retargetlaw42.RowsBack", spec := "rowsBack", unfollowed := true, recurses := true, apart := false, narrowed := true }
def RowsBackUptoSaid : Prop := rowsBackUptoRow.holds Try.pinned (OpenSpec.upto rowsBackSpec)

/-- 'retargetlaw42.RowsOnly', WHERE WHAT IT READS IS OF BULK AT MOST 1048576: true; the input reads as it did. -/
def rowsOnlyUptoRow : OpenClaim := { program := "ytmnlfgnpmpebmaa", sum := "0e9733ae99957e9dce8350b5028c013d178e41372b560fde758a101620c9d01b", func := "retarget/retargetlaw42.RowsOnly", spec := "rowsOnly", unfollowed := true, recurses := true, apart := false, narrowed := true }
def RowsOnlyUptoSaid : Prop := rowsOnlyUptoRow.holds Try.pinned (OpenSpec.upto rowsOnlySpec)

/-- 'retargetlaw42.RowsLast', WHERE WHAT IT READS IS OF BULK AT MOST 1048576: true; the input reads as it did. -/
def rowsLastUptoRow : OpenClaim := { program := "ytmnlfgnpmpebmaa", sum := "0e9733ae99957e9dce8350b5028c013d178e41372b560fde758a101620c9d01b", func := "retarget/retargetlaw42.RowsLast", spec := "rowsLast", unfollowed := true, recurses := true, apart := false, narrowed := true }
def RowsLastUptoSaid : Prop := rowsLastUptoRow.holds Try.pinned (OpenSpec.upto rowsLastSpec)

/-- 'retargetlaw42.RowsNames', WHERE WHAT IT READS IS OF BULK AT MOST 1048576: true; the input reads as it did. -/
def rowsNamesUptoRow : OpenClaim := { program := "ytmnlfgnpmpebmaa", sum := "0e9733ae99957e9dce8350b5028c013d178e41372b560fde758a101620c9d01b", func := "retarget/retargetlaw42.RowsNames", spec := "rowsNames", unfollowed := true, recurses := true, apart := false, narrowed := true }
def RowsNamesUptoSaid : Prop := rowsNamesUptoRow.holds Try.pinned (OpenSpec.upto rowsNamesSpec)

/-- 'retargetlaw42.RowsJoined', WHERE WHAT IT READS IS OF BULK AT MOST 1048576: true; the input reads as it did. -/
def rowsJoinedUptoRow : OpenClaim := { program := "ytmnlfgnpmpebmaa", sum := "0e9733ae99957e9dce8350b5028c013d178e41372b560fde758a101620c9d01b", func := "retarget/retargetlaw42.RowsJoined", spec := "rowsJoined", unfollowed := true, recurses := true, apart := false, narrowed := true }
def RowsJoinedUptoSaid : Prop := rowsJoinedUptoRow.holds Try.pinned (OpenSpec.upto rowsJoinedSpec)

end Rows
end Go.Proofs.Ytmnlfgnpmpebmaa
