/-
  DERIVED. GIVEN WITH THE SEED: THE CARDS: each row of YtkfldbimfbacmaaDoorRows.lean that lists a variable, with what it lists TIED to the program's text (the seventh form; the later family's looks); each row that meets fmt, with fmt's text TOLD by the authors' own Lean function (tested against real Go, not proved from fmt's source: count such statements apart). THE CARD IS WHAT COUNTS. Prove the row's statement (the work); the ties are given (YtkfldbimfbacmaaDoorTie.lean); close each card by the builder's one call (the guide's Derived/Test/ToyasCard.lean, 'card_holds'). Laid BY PROGRAM, IN A SANDBOX (cutbox-door.mjs). By AI agents, Wed Nov 11 2026. No macro, syntax, notation, axiom, sorry.
-/
import Derived.Test.YtkfldbimfbacmaaDoorRows
import GoSem.ClaimSeven
namespace Go.Proofs.YtkfldbimfbacmaaDoor
namespace Rows

/-- THE TIED CARD OF 'retargetlaw20.SourceWidths'. -/
def sourceWidthsCard : Claim7 := { stood := { row := sourceWidthsRow, standIns := [], harness := (true, "c4399e95d55318e1c46dda31da306cc8d5a029565363f5f026d5c49c4d310daf"), looks := false }, kinds := [], alts := [], laidByText := true, laidKinds := [.data], laidTests := true, laidLooks := .later }
def SourceWidthsCardSaid : Prop := Claim7.holds Tryd.pinned (.plain (OpenSpec.ofChange sourceWidthsSpec)) sourceWidthsCard

/-- THE SECOND FORM's CARD OF 'retargetlaw20.SourceWidths'. -/
def sourceWidthsUptoCard : Claim7 := { stood := { row := sourceWidthsUptoRow, standIns := [], harness := (true, "c4399e95d55318e1c46dda31da306cc8d5a029565363f5f026d5c49c4d310daf"), looks := false }, kinds := [], alts := [], laidByText := true, laidKinds := [.data], laidTests := true, laidLooks := .later }
def SourceWidthsUptoCardSaid : Prop := Claim7.holds Tryd.pinned (.plain (OpenSpec.upto sourceWidthsSpec)) sourceWidthsUptoCard
end Rows
end Go.Proofs.YtkfldbimfbacmaaDoor
