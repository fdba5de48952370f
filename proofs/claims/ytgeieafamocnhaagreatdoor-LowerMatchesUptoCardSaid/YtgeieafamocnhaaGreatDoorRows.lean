/-
  NARROWER THAN 'FOR EVERY INPUT', by the rows' own cells (each row's printed sentence says how): LowerTerms: loops, laid · LowerMatches: loops, laid.
  DERIVED. THE GIVEN ROWS OF THIS SEAT. 2 by the template 'for every input the law returns true; each argument reads behind the call as it read before'; 0 by the template 'total and deterministic' (their statements: YtgeieafamocnhaaGreatDoorTotals.lean).
  GIVEN WITH THE SEED: the statements are not yours to turn. If you find one false, say at which input.
  Laid BY PROGRAM, IN A SANDBOX (cutbox-rows.mjs): the forced cells as the released guide's own fill.sh prints them over the translation 14aeedadea57b1e3… (all of the seat's roots in one cut). By AI agents, Wed Nov 11 2026. No macro, syntax, notation, axiom, sorry.
-/
import Derived.Test.YtgeieafamocnhaaGreatDoorChecked
import GoSem.Claim
import GoSem.ClaimJoined
import GoSem.ClaimMapViews
import Derived.JoinedTies
import Derived.KernelRfl
namespace Go.Proofs.YtgeieafamocnhaaGreatDoor
/- THE CELL 'sum', in the pinned program and in every row, IS THE sha256 OF THE DUMP (.gsa) THAT YtgeieafamocnhaaGreatDoorProg.lean LOADS. Nothing in Lean hashes anything: it is a label: what it is worth is what the hold of that sum in a sandbox is worth. -/
noncomputable def Tryz.pinned : Pinned := { name := "ytgeieafamocnhaagreatdoor", sum := "14aeedadea57b1e39463256d5cbb73951a57362aeac71063554d39fca300195e", checked := Tryz.checked }
namespace Rows
def none {H : Type} : Left H := { results := [], args := [] }

/- WHAT THE LISTED PACKAGE-LEVEL VARIABLES READ AS WHEN THE CALL BEGINS. Each datum BY PROGRAM (the guide's laid-datum.mjs) off the statement by which the dump's own 'gosem.cut.vars' lays the variable. In a bare row this is a premise. The card (YtgeieafamocnhaaGreatDoorCards.lean) ties it to the program's text. -/
def laid_retarget_retargetref20_words {H : Type} : DataW H := .slice [.lit (.string [97, 114, 114, 97, 121]), .lit (.string [102, 117, 110, 99]), .lit (.string [118, 97, 114]), .lit (.string [105, 102]), .lit (.string [101, 108, 115, 101]), .lit (.string [119, 104, 105, 108, 101]), .lit (.string [98, 114, 101, 97, 107]), .lit (.string [116, 101, 108, 108]), .lit (.string [114, 101, 116, 117, 114, 110]), .lit (.string [115, 105, 103, 110, 101, 100]), .lit (.string [98, 105, 116]), .lit (.string [98, 121, 116, 101]), .lit (.string [104, 97, 108, 102]), .lit (.string [119, 111, 114, 100])] []

/-- 'retargetlaw21.LowerTerms': WHATEVER THE INPUT: true; the input reads as it did. -/
def lowerTermsSpec : ChangeSpec := { name := "lowerTerms", fn := fun _ => fun
  | [d1, d2, d3] => { results := [.lit (.bool true)], args := [d1, d2, d3] }
  | _ => none }
def lowerTermsRow : OpenClaim := { program := "ytgeieafamocnhaagreatdoor", sum := "14aeedadea57b1e39463256d5cbb73951a57362aeac71063554d39fca300195e", func := "retarget/retargetlaw21.LowerTerms", spec := "lowerTerms", unfollowed := true, recurses := true, named := ["retarget/retargetref20.words"], loops := true, apart := false, laid := [("retarget/retargetref20.words", laid_retarget_retargetref20_words)] }
def LowerTermsSaid : Prop := lowerTermsRow.holds Tryz.pinned (OpenSpec.ofChange lowerTermsSpec)

/-- ITS FALSE NEIGHBOUR: 'it returns false'. Refute it at one input. -/
def lowerTermsWrong : ChangeSpec := { name := "lowerTerms", fn := fun _ => fun
  | [d1, d2, d3] => { results := [.lit (.bool false)], args := [d1, d2, d3] }
  | _ => none }
def LowerTermsWrongFalsely : Prop := lowerTermsRow.holds Tryz.pinned (OpenSpec.ofChange lowerTermsWrong)

/-- 'retargetlaw21.LowerMatches': WHATEVER THE INPUT: true; the input reads as it did. -/
def lowerMatchesSpec : ChangeSpec := { name := "lowerMatches", fn := fun _ => fun
  | [d] => { results := [.lit (.bool true)], args := [d] }
  | _ => none }
def lowerMatchesRow : OpenClaim := { program := "ytgeieafamocnhaagreatdoor", sum := "14aeedadea57b1e39463256d5cbb73951a57362aeac71063554d39fca300195e", func := "retarget/retargetlaw21.LowerMatches", spec := "lowerMatches", unfollowed := true, recurses := true, named := ["retarget/retargetref20.words"], loops := true, apart := false, laid := [("retarget/retargetref20.words", laid_retarget_retargetref20_words)] }
def LowerMatchesSaid : Prop := lowerMatchesRow.holds Tryz.pinned (OpenSpec.ofChange lowerMatchesSpec)

/-- ITS FALSE NEIGHBOUR: 'it returns false'. Refute it at one input. -/
def lowerMatchesWrong : ChangeSpec := { name := "lowerMatches", fn := fun _ => fun
  | [d] => { results := [.lit (.bool false)], args := [d] }
  | _ => none }
def LowerMatchesWrongFalsely : Prop := lowerMatchesRow.holds Tryz.pinned (OpenSpec.ofChange lowerMatchesWrong)

/- THE SECOND FORM. 'bulk': how many values and letters a reading holds, each counted each time it is reached (what is shared counts as often as it is met; a slice's spare places count too). A statement '..UptoSaid' is the law's where the arguments, and the package variables that the reading takes, are together of bulk at most 1048576: NARROWER than '..Said'. Prove '..Said' where nothing that the law and all that it calls make is longer than what came in: it says more and counts as full. Else prove '..UptoSaid'. A law counts once. -/
mutual
def uptoBulk {H : Type} : DataW H → Nat
  | .lit (.string bytes) => bytes.length + 1
  | .lit _ => 1
  | .nil => 1
  | .ptr d => uptoBulk d + 1
  | .slice elems spare => uptoBulkAll elems + uptoBulkAll spare + 1
  | .agg parts => uptoBulkAll parts + 1
  | .iface _ d => uptoBulk d + 1
  | .map entries => uptoBulkEntries entries + 1
  | .held _ => 1
def uptoBulkAll {H : Type} : List (DataW H) → Nat
  | [] => 0
  | d :: r => uptoBulk d + uptoBulkAll r
def uptoBulkEntries {H : Type} : List (Lit × DataW H) → Nat
  | [] => 0
  | x :: r => uptoBulkEntry x + uptoBulkEntries r
def uptoBulkEntry {H : Type} : Lit × DataW H → Nat
  | (.string bytes, d) => bytes.length + uptoBulk d + 1
  | (_, d) => uptoBulk d + 1
 end
def uptoSmall : (H : Type) → List (DataW H) → Bool := fun _ ds => decide (uptoBulkAll ds ≤ 1048576)
def OpenSpec.upto (s : _root_.Go.ChangeSpec) : _root_.Go.OpenSpec := { _root_.Go.OpenSpec.ofChange s with cond := some uptoSmall }

/-- 'retargetlaw21.LowerTerms', WHERE WHAT IT READS IS OF BULK AT MOST 1048576: true; the input reads as it did. -/
def lowerTermsUptoRow : OpenClaim := { program := "ytgeieafamocnhaagreatdoor", sum := "14aeedadea57b1e39463256d5cbb73951a57362aeac71063554d39fca300195e", func := "retarget/retargetlaw21.LowerTerms", spec := "lowerTerms", unfollowed := true, recurses := true, named := ["retarget/retargetref20.words"], loops := true, apart := false, laid := [("retarget/retargetref20.words", laid_retarget_retargetref20_words)], narrowed := true }
def LowerTermsUptoSaid : Prop := lowerTermsUptoRow.holds Tryz.pinned (OpenSpec.upto lowerTermsSpec)

/-- 'retargetlaw21.LowerMatches', WHERE WHAT IT READS IS OF BULK AT MOST 1048576: true; the input reads as it did. -/
def lowerMatchesUptoRow : OpenClaim := { program := "ytgeieafamocnhaagreatdoor", sum := "14aeedadea57b1e39463256d5cbb73951a57362aeac71063554d39fca300195e", func := "retarget/retargetlaw21.LowerMatches", spec := "lowerMatches", unfollowed := true, recurses := true, named := ["retarget/retargetref20.words"], loops := true, apart := false, laid := [("retarget/retargetref20.words", laid_retarget_retargetref20_words)], narrowed := true }
def LowerMatchesUptoSaid : Prop := lowerMatchesUptoRow.holds Tryz.pinned (OpenSpec.upto lowerMatchesSpec)

end Rows
end Go.Proofs.YtgeieafamocnhaaGreatDoor
