/-
  DERIVED. GIVEN WITH THE SEED: THE CARDS: each row of YtgeieafamocnhaaGreatDoorRows.lean that lists a variable, with what it lists TIED to the program's text (the seventh form; the later family's looks); each row that meets fmt, with fmt's text TOLD by the authors' own Lean function (tested against real Go, not proved from fmt's source: count such statements apart). THE CARD IS WHAT COUNTS. Prove the row's statement (the work); the ties are given (YtgeieafamocnhaaGreatDoorTie.lean); close each card by the builder's one call (the guide's Derived/Test/ToyasCard.lean, 'card_holds'). Laid BY PROGRAM, IN A SANDBOX (cutbox-door.mjs). By AI agents, Wed Nov 11 2026. No macro, syntax, notation, axiom, sorry.
-/
import Derived.Test.YtgeieafamocnhaaGreatDoorRows
import GoSem.ClaimSeven
namespace Go.Proofs.YtgeieafamocnhaaGreatDoor
namespace Rows

/-- THE TIED CARD OF 'retargetlaw21.LowerTerms'. -/
def lowerTermsCard : Claim7 := { stood := { row := lowerTermsRow, standIns := [], harness := (true, "a879edf3578f1cf5b3107aa122238928e8003573841ed731dfa1848c64d66484"), looks := false }, kinds := [], alts := [], laidByText := true, laidKinds := [.data], laidTests := true, laidLooks := .later }
def LowerTermsCardSaid : Prop := Claim7.holds Tryz.pinned (.plain (OpenSpec.ofChange lowerTermsSpec)) lowerTermsCard

/-- THE TIED CARD OF 'retargetlaw21.LowerMatches'. -/
def lowerMatchesCard : Claim7 := { stood := { row := lowerMatchesRow, standIns := [], harness := (true, "a879edf3578f1cf5b3107aa122238928e8003573841ed731dfa1848c64d66484"), looks := false }, kinds := [], alts := [], laidByText := true, laidKinds := [.data], laidTests := true, laidLooks := .later }
def LowerMatchesCardSaid : Prop := Claim7.holds Tryz.pinned (.plain (OpenSpec.ofChange lowerMatchesSpec)) lowerMatchesCard

/-- THE SECOND FORM's CARD OF 'retargetlaw21.LowerTerms'. -/
def lowerTermsUptoCard : Claim7 := { stood := { row := lowerTermsUptoRow, standIns := [], harness := (true, "a879edf3578f1cf5b3107aa122238928e8003573841ed731dfa1848c64d66484"), looks := false }, kinds := [], alts := [], laidByText := true, laidKinds := [.data], laidTests := true, laidLooks := .later }
def LowerTermsUptoCardSaid : Prop := Claim7.holds Tryz.pinned (.plain (OpenSpec.upto lowerTermsSpec)) lowerTermsUptoCard

/-- THE SECOND FORM's CARD OF 'retargetlaw21.LowerMatches'. -/
def lowerMatchesUptoCard : Claim7 := { stood := { row := lowerMatchesUptoRow, standIns := [], harness := (true, "a879edf3578f1cf5b3107aa122238928e8003573841ed731dfa1848c64d66484"), looks := false }, kinds := [], alts := [], laidByText := true, laidKinds := [.data], laidTests := true, laidLooks := .later }
def LowerMatchesUptoCardSaid : Prop := Claim7.holds Tryz.pinned (.plain (OpenSpec.upto lowerMatchesSpec)) lowerMatchesUptoCard
end Rows
end Go.Proofs.YtgeieafamocnhaaGreatDoor
