/-
  NARROWER THAN 'FOR EVERY INPUT', by the rows' own cells (each row's printed sentence says how): SourceChecks: loops, laid.
  DERIVED. THE GIVEN ROWS OF THIS SEAT. 1 by the template 'for every input the law returns true; each argument reads behind the call as it read before'; 0 by the template 'total and deterministic' (their statements: YtkfldbimfbacmaaGreatDoorTotals.lean).
  GIVEN WITH THE SEED: the statements are not yours to turn. If you find one false, say at which input.
  Laid BY PROGRAM, IN A SANDBOX (cutbox-rows.mjs): the forced cells as the released guide's own fill.sh prints them over the translation 8f9ef1ef50ac37c1… (all of the seat's roots in one cut). By AI agents, Wed Nov 11 2026. No macro, syntax, notation, axiom, sorry.
-/
import Derived.Test.YtkfldbimfbacmaaGreatDoorChecked
import GoSem.Claim
import GoSem.ClaimJoined
import GoSem.ClaimMapViews
import Derived.JoinedTies
import Derived.KernelRfl
namespace Go.Proofs.YtkfldbimfbacmaaGreatDoor
/- THE CELL 'sum', in the pinned program and in every row, IS THE sha256 OF THE DUMP (.gsa) THAT YtkfldbimfbacmaaGreatDoorProg.lean LOADS. Nothing in Lean hashes anything: it is a label: what it is worth is what the hold of that sum in a sandbox is worth. -/
noncomputable def Tryz.pinned : Pinned := { name := "ytkfldbimfbacmaagreatdoor", sum := "8f9ef1ef50ac37c16406c4acd1cba88220ff3da9b8cb3a79cb7e22db8a71013c", checked := Tryz.checked }
namespace Rows
def none {H : Type} : Left H := { results := [], args := [] }

/- WHAT THE LISTED PACKAGE-LEVEL VARIABLES READ AS WHEN THE CALL BEGINS. Each datum BY PROGRAM (the guide's laid-datum.mjs) off the statement by which the dump's own 'gosem.cut.vars' lays the variable. In a bare row this is a premise. The card (YtkfldbimfbacmaaGreatDoorCards.lean) ties it to the program's text. -/
def laid_retarget_retargetref20_words {H : Type} : DataW H := .slice [.lit (.string [97, 114, 114, 97, 121]), .lit (.string [102, 117, 110, 99]), .lit (.string [118, 97, 114]), .lit (.string [105, 102]), .lit (.string [101, 108, 115, 101]), .lit (.string [119, 104, 105, 108, 101]), .lit (.string [98, 114, 101, 97, 107]), .lit (.string [116, 101, 108, 108]), .lit (.string [114, 101, 116, 117, 114, 110]), .lit (.string [115, 105, 103, 110, 101, 100]), .lit (.string [98, 105, 116]), .lit (.string [98, 121, 116, 101]), .lit (.string [104, 97, 108, 102]), .lit (.string [119, 111, 114, 100])] []

/-- 'retargetlaw20.SourceChecks': WHATEVER THE INPUT: true; the input reads as it did. -/
def sourceChecksSpec : ChangeSpec := { name := "sourceChecks", fn := fun _ => fun
  | [d1, d2] => { results := [.lit (.bool true)], args := [d1, d2] }
  | _ => none }
def sourceChecksRow : OpenClaim := { program := "ytkfldbimfbacmaagreatdoor", sum := "8f9ef1ef50ac37c16406c4acd1cba88220ff3da9b8cb3a79cb7e22db8a71013c", func := "retarget/retargetlaw20.SourceChecks", spec := "sourceChecks", unfollowed := true, recurses := true, named := ["retarget/retargetref20.words"], loops := true, apart := false, laid := [("retarget/retargetref20.words", laid_retarget_retargetref20_words)] }
def SourceChecksSaid : Prop := sourceChecksRow.holds Tryz.pinned (OpenSpec.ofChange sourceChecksSpec)

/-- ITS FALSE NEIGHBOUR: 'it returns false'. Refute it at one input. -/
def sourceChecksWrong : ChangeSpec := { name := "sourceChecks", fn := fun _ => fun
  | [d1, d2] => { results := [.lit (.bool false)], args := [d1, d2] }
  | _ => none }
def SourceChecksWrongFalsely : Prop := sourceChecksRow.holds Tryz.pinned (OpenSpec.ofChange sourceChecksWrong)

/- THE SECOND FORM. 'bulk': how many values and letters a reading holds, each counted each time it is reached (what is shared counts as often as it is met; a slice's spare places count too). A statement '..UptoSaid' is the law's where the arguments, and the package variables that the reading takes, are together of bulk at most 1048576: NARROWER than '..Said'. Prove '..Said' where nothing that the law and all that it calls make is longer than what came in: it says more and counts as full. Else prove '..UptoSaid'. A law counts once. -/
mutual
def uptoBulk {H : Type} : DataW H → Nat
  | .lit (.string bytes) => bytes.length + 1
  | .lit _ => 1
  | .nil => 1
  | .ptr d => uptoBulk d + 1
  | .slice elems spare => uptoBulkAll elems + uptoBulkAll spare + 1
  | .agg parts => uptoBulkAll parts + 1
  | .iface _ d => uptoBulk d + 1
  | .map entries => uptoBulkEntries entries + 1
  | .held _ => 1
def uptoBulkAll {H : Type} : List (DataW H) → Nat
  | [] => 0
  | d :: r => uptoBulk d + uptoBulkAll r
def uptoBulkEntries {H : Type} : List (Lit × DataW H) → Nat
  | [] => 0
  | x :: r => uptoBulkEntry x + uptoBulkEntries r
def uptoBulkEntry {H : Type} : Lit × DataW H → Nat
  | (.string bytes, d) => bytes.length + uptoBulk d + 1
  | (_, d) => uptoBulk d + 1
 end
def uptoSmall : (H : Type) → List (DataW H) → Bool := fun _ ds => decide (uptoBulkAll ds ≤ 1048576)
def OpenSpec.upto (s : _root_.Go.ChangeSpec) : _root_.Go.OpenSpec := { _root_.Go.OpenSpec.ofChange s with cond := some uptoSmall }

/-- 'retargetlaw20.SourceChecks', WHERE WHAT IT READS IS OF BULK AT MOST 1048576: true; the input reads as it did. -/
def sourceChecksUptoRow : OpenClaim := { program := "ytkfldbimfbacmaagreatdoor", sum := "8f9ef1ef50ac37c16406c4acd1cba88220ff3da9b8cb3a79cb7e22db8a71013c", func := "retarget/retargetlaw20.SourceChecks", spec := "sourceChecks", unfollowed := true, recurses := true, named := ["retarget/retargetref20.words"], loops := true, apart := false, laid := [("retarget/retargetref20.words", laid_retarget_retargetref20_words)], narrowed := true }
def SourceChecksUptoSaid : Prop := sourceChecksUptoRow.holds Tryz.pinned (OpenSpec.upto sourceChecksSpec)

end Rows
end Go.Proofs.YtkfldbimfbacmaaGreatDoor
