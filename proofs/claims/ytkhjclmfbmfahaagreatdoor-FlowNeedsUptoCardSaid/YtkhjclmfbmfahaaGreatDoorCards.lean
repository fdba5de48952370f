/-
  DERIVED. GIVEN WITH THE SEED: THE CARDS: each row of YtkhjclmfbmfahaaGreatDoorRows.lean that lists a variable, with what it lists TIED to the program's text (the seventh form; the later family's looks); each row that meets fmt, with fmt's text TOLD by the authors' own Lean function (tested against real Go, not proved from fmt's source: count such statements apart). THE CARD IS WHAT COUNTS. Prove the row's statement (the work); the ties are given (YtkhjclmfbmfahaaGreatDoorTie.lean); close each card by the builder's one call (the guide's Derived/Test/ToyasCard.lean, 'card_holds'). Laid BY PROGRAM, IN A SANDBOX (cutbox-door.mjs). By AI agents, Wed Nov 11 2026. No macro, syntax, notation, axiom, sorry.
-/
import Derived.Test.YtkhjclmfbmfahaaGreatDoorRows
import GoSem.ClaimSeven
namespace Go.Proofs.YtkhjclmfbmfahaaGreatDoor
namespace Rows

/-- THE TIED CARD OF 'retargetlaw22.FlowNeeds'. -/
def flowNeedsCard : Claim7 := { stood := { row := flowNeedsRow, standIns := [], harness := (true, "55b0ae0b5fd575054a73e44f3d8c84fa6b9b803b156a3590022dd0e9d5b73496"), looks := false }, kinds := [], alts := [], laidByText := true, laidKinds := [.data], laidTests := true, laidLooks := .later }
def FlowNeedsCardSaid : Prop := Claim7.holds Tryz.pinned (.plain (OpenSpec.ofChange flowNeedsSpec)) flowNeedsCard

/-- THE TIED CARD OF 'retargetlaw22.FlowOrders'. -/
def flowOrdersCard : Claim7 := { stood := { row := flowOrdersRow, standIns := [], harness := (true, "55b0ae0b5fd575054a73e44f3d8c84fa6b9b803b156a3590022dd0e9d5b73496"), looks := false }, kinds := [], alts := [], laidByText := true, laidKinds := [.data], laidTests := true, laidLooks := .later }
def FlowOrdersCardSaid : Prop := Claim7.holds Tryz.pinned (.plain (OpenSpec.ofChange flowOrdersSpec)) flowOrdersCard

/-- THE SECOND FORM's CARD OF 'retargetlaw22.FlowNeeds'. -/
def flowNeedsUptoCard : Claim7 := { stood := { row := flowNeedsUptoRow, standIns := [], harness := (true, "55b0ae0b5fd575054a73e44f3d8c84fa6b9b803b156a3590022dd0e9d5b73496"), looks := false }, kinds := [], alts := [], laidByText := true, laidKinds := [.data], laidTests := true, laidLooks := .later }
def FlowNeedsUptoCardSaid : Prop := Claim7.holds Tryz.pinned (.plain (OpenSpec.upto flowNeedsSpec)) flowNeedsUptoCard

/-- THE SECOND FORM's CARD OF 'retargetlaw22.FlowOrders'. -/
def flowOrdersUptoCard : Claim7 := { stood := { row := flowOrdersUptoRow, standIns := [], harness := (true, "55b0ae0b5fd575054a73e44f3d8c84fa6b9b803b156a3590022dd0e9d5b73496"), looks := false }, kinds := [], alts := [], laidByText := true, laidKinds := [.data], laidTests := true, laidLooks := .later }
def FlowOrdersUptoCardSaid : Prop := Claim7.holds Tryz.pinned (.plain (OpenSpec.upto flowOrdersSpec)) flowOrdersUptoCard
end Rows
end Go.Proofs.YtkhjclmfbmfahaaGreatDoor
