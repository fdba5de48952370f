/-
  DERIVED. GIVEN WITH THE SEED: THE CARDS: each row of YtkfldbimfbacmaaGreatDoorRows.lean that lists a variable, with what it lists TIED to the program's text (the seventh form; the later family's looks); each row that meets fmt, with fmt's text TOLD by the authors' own Lean function (tested against real Go, not proved from fmt's source: count such statements apart). THE CARD IS WHAT COUNTS. Prove the row's statement (the work); the ties are given (YtkfldbimfbacmaaGreatDoorTie.lean); close each card by the builder's one call (the guide's Derived/Test/ToyasCard.lean, 'card_holds'). Laid BY PROGRAM, IN A SANDBOX (cutbox-door.mjs). By AI agents, Wed Nov 11 2026. No macro, syntax, notation, axiom, sorry.
-/
import Derived.Test.YtkfldbimfbacmaaGreatDoorRows
import GoSem.ClaimSeven
namespace Go.Proofs.YtkfldbimfbacmaaGreatDoor
namespace Rows

/-- THE TIED CARD OF 'retargetlaw20.SourceChecks'. -/
def sourceChecksCard : Claim7 := { stood := { row := sourceChecksRow, standIns := [], harness := (true, "0915cd72146262671b0967f8c8654e8f3f6f467d9a9663deba47a0cdb216daa3"), looks := false }, kinds := [], alts := [], laidByText := true, laidKinds := [.data], laidTests := true, laidLooks := .later }
def SourceChecksCardSaid : Prop := Claim7.holds Tryz.pinned (.plain (OpenSpec.ofChange sourceChecksSpec)) sourceChecksCard

/-- THE SECOND FORM's CARD OF 'retargetlaw20.SourceChecks'. -/
def sourceChecksUptoCard : Claim7 := { stood := { row := sourceChecksUptoRow, standIns := [], harness := (true, "0915cd72146262671b0967f8c8654e8f3f6f467d9a9663deba47a0cdb216daa3"), looks := false }, kinds := [], alts := [], laidByText := true, laidKinds := [.data], laidTests := true, laidLooks := .later }
def SourceChecksUptoCardSaid : Prop := Claim7.holds Tryz.pinned (.plain (OpenSpec.upto sourceChecksSpec)) sourceChecksUptoCard
end Rows
end Go.Proofs.YtkfldbimfbacmaaGreatDoor
