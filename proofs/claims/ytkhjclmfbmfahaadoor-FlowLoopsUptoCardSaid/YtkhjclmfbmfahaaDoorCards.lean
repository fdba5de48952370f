/-
  DERIVED. GIVEN WITH THE SEED: THE CARDS: each row of YtkhjclmfbmfahaaDoorRows.lean that lists a variable, with what it lists TIED to the program's text (the seventh form; the later family's looks); each row that meets fmt, with fmt's text TOLD by the authors' own Lean function (tested against real Go, not proved from fmt's source: count such statements apart). THE CARD IS WHAT COUNTS. Prove the row's statement (the work); the ties are given (YtkhjclmfbmfahaaDoorTie.lean); close each card by the builder's one call (the guide's Derived/Test/ToyasCard.lean, 'card_holds'). Laid BY PROGRAM, IN A SANDBOX (cutbox-door.mjs). By AI agents, Wed Nov 11 2026. No macro, syntax, notation, axiom, sorry.
-/
import Derived.Test.YtkhjclmfbmfahaaDoorRows
import GoSem.ClaimSeven
namespace Go.Proofs.YtkhjclmfbmfahaaDoor
namespace Rows

/-- THE TIED CARD OF 'retargetlaw22.FlowLoops'. -/
def flowLoopsCard : Claim7 := { stood := { row := flowLoopsRow, standIns := [], harness := (true, "ed046e464c03b9c656d92245cdf4f0aa6150c6b5d52c42fbb736d26f5cee768c"), looks := false }, kinds := [], alts := [], laidByText := true, laidKinds := [.data], laidTests := true, laidLooks := .later }
def FlowLoopsCardSaid : Prop := Claim7.holds Tryd.pinned (.plain (OpenSpec.ofChange flowLoopsSpec)) flowLoopsCard

/-- THE SECOND FORM's CARD OF 'retargetlaw22.FlowLoops'. -/
def flowLoopsUptoCard : Claim7 := { stood := { row := flowLoopsUptoRow, standIns := [], harness := (true, "ed046e464c03b9c656d92245cdf4f0aa6150c6b5d52c42fbb736d26f5cee768c"), looks := false }, kinds := [], alts := [], laidByText := true, laidKinds := [.data], laidTests := true, laidLooks := .later }
def FlowLoopsUptoCardSaid : Prop := Claim7.holds Tryd.pinned (.plain (OpenSpec.upto flowLoopsSpec)) flowLoopsUptoCard
end Rows
end Go.Proofs.YtkhjclmfbmfahaaDoor
