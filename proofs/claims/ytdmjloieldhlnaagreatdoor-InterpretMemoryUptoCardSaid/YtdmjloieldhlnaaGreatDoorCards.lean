/-
  DERIVED. GIVEN WITH THE SEED: THE CARDS: each row of YtdmjloieldhlnaaGreatDoorRows.lean that lists a variable, with what it lists TIED to the program's text (the seventh form; the later family's looks); each row that meets fmt, with fmt's text TOLD by the authors' own Lean function (tested against real Go, not proved from fmt's source: count such statements apart). THE CARD IS WHAT COUNTS. Prove the row's statement (the work); the ties are given (YtdmjloieldhlnaaGreatDoorTie.lean); close each card by the builder's one call (the guide's Derived/Test/ToyasCard.lean, 'card_holds'). Laid BY PROGRAM, IN A SANDBOX (cutbox-door.mjs). By AI agents, Wed Nov 11 2026. No macro, syntax, notation, axiom, sorry.
-/
import Derived.Test.YtdmjloieldhlnaaGreatDoorRows
import GoSem.ClaimSeven
namespace Go.Proofs.YtdmjloieldhlnaaGreatDoor
namespace Rows

/-- THE TIED CARD OF 'retargetlaw19.InterpretNames'. -/
def interpretNamesCard : Claim7 := { stood := { row := interpretNamesRow, standIns := [], harness := (true, "adc4986a5807abbb115d02a9a98d184c11e39064e7f8f8238356347fb3925e4e"), looks := true }, kinds := [], alts := [], laidByText := true, laidKinds := [.data], laidTests := true, laidLooks := .later }
def InterpretNamesCardSaid : Prop := Claim7.holds Tryz.pinned (.plain (OpenSpec.ofChange interpretNamesSpec)) interpretNamesCard

/-- THE TIED CARD OF 'retargetlaw19.InterpretFuel'. -/
def interpretFuelCard : Claim7 := { stood := { row := interpretFuelRow, standIns := [], harness := (true, "adc4986a5807abbb115d02a9a98d184c11e39064e7f8f8238356347fb3925e4e"), looks := true }, kinds := [], alts := [], laidByText := true, laidKinds := [.data], laidTests := true, laidLooks := .later }
def InterpretFuelCardSaid : Prop := Claim7.holds Tryz.pinned (.plain (OpenSpec.ofChange interpretFuelSpec)) interpretFuelCard

/-- THE TIED CARD OF 'retargetlaw19.InterpretMemory'. -/
def interpretMemoryCard : Claim7 := { stood := { row := interpretMemoryRow, standIns := [], harness := (true, "adc4986a5807abbb115d02a9a98d184c11e39064e7f8f8238356347fb3925e4e"), looks := true }, kinds := [], alts := [], laidByText := true, laidKinds := [.data], laidTests := true, laidLooks := .later }
def InterpretMemoryCardSaid : Prop := Claim7.holds Tryz.pinned (.plain (OpenSpec.ofChange interpretMemorySpec)) interpretMemoryCard

/-- THE TIED CARD OF 'retargetlaw19.InterpretCalls'. -/
def interpretCallsCard : Claim7 := { stood := { row := interpretCallsRow, standIns := [], harness := (true, "adc4986a5807abbb115d02a9a98d184c11e39064e7f8f8238356347fb3925e4e"), looks := true }, kinds := [], alts := [], laidByText := true, laidKinds := [.data], laidTests := true, laidLooks := .later }
def InterpretCallsCardSaid : Prop := Claim7.holds Tryz.pinned (.plain (OpenSpec.ofChange interpretCallsSpec)) interpretCallsCard

/-- THE TIED CARD OF 'retargetlaw19.InterpretBlind'. -/
def interpretBlindCard : Claim7 := { stood := { row := interpretBlindRow, standIns := [], harness := (true, "adc4986a5807abbb115d02a9a98d184c11e39064e7f8f8238356347fb3925e4e"), looks := true }, kinds := [], alts := [], laidByText := true, laidKinds := [.data], laidTests := true, laidLooks := .later }
def InterpretBlindCardSaid : Prop := Claim7.holds Tryz.pinned (.plain (OpenSpec.ofChange interpretBlindSpec)) interpretBlindCard

/-- THE SECOND FORM's CARD OF 'retargetlaw19.InterpretNames'. -/
def interpretNamesUptoCard : Claim7 := { stood := { row := interpretNamesUptoRow, standIns := [], harness := (true, "adc4986a5807abbb115d02a9a98d184c11e39064e7f8f8238356347fb3925e4e"), looks := true }, kinds := [], alts := [], laidByText := true, laidKinds := [.data], laidTests := true, laidLooks := .later }
def InterpretNamesUptoCardSaid : Prop := Claim7.holds Tryz.pinned (.plain (OpenSpec.upto interpretNamesSpec)) interpretNamesUptoCard

/-- THE SECOND FORM's CARD OF 'retargetlaw19.InterpretFuel'. -/
def interpretFuelUptoCard : Claim7 := { stood := { row := interpretFuelUptoRow, standIns := [], harness := (true, "adc4986a5807abbb115d02a9a98d184c11e39064e7f8f8238356347fb3925e4e"), looks := true }, kinds := [], alts := [], laidByText := true, laidKinds := [.data], laidTests := true, laidLooks := .later }
def InterpretFuelUptoCardSaid : Prop := Claim7.holds Tryz.pinned (.plain (OpenSpec.upto interpretFuelSpec)) interpretFuelUptoCard

/-- THE SECOND FORM's CARD OF 'retargetlaw19.InterpretMemory'. -/
def interpretMemoryUptoCard : Claim7 := { stood := { row := interpretMemoryUptoRow, standIns := [], harness := (true, "adc4986a5807abbb115d02a9a98d184c11e39064e7f8f8238356347fb3925e4e"), looks := true }, kinds := [], alts := [], laidByText := true, laidKinds := [.data], laidTests := true, laidLooks := .later }
def InterpretMemoryUptoCardSaid : Prop := Claim7.holds Tryz.pinned (.plain (OpenSpec.upto interpretMemorySpec)) interpretMemoryUptoCard

/-- THE SECOND FORM's CARD OF 'retargetlaw19.InterpretCalls'. -/
def interpretCallsUptoCard : Claim7 := { stood := { row := interpretCallsUptoRow, standIns := [], harness := (true, "adc4986a5807abbb115d02a9a98d184c11e39064e7f8f8238356347fb3925e4e"), looks := true }, kinds := [], alts := [], laidByText := true, laidKinds := [.data], laidTests := true, laidLooks := .later }
def InterpretCallsUptoCardSaid : Prop := Claim7.holds Tryz.pinned (.plain (OpenSpec.upto interpretCallsSpec)) interpretCallsUptoCard

/-- THE SECOND FORM's CARD OF 'retargetlaw19.InterpretBlind'. -/
def interpretBlindUptoCard : Claim7 := { stood := { row := interpretBlindUptoRow, standIns := [], harness := (true, "adc4986a5807abbb115d02a9a98d184c11e39064e7f8f8238356347fb3925e4e"), looks := true }, kinds := [], alts := [], laidByText := true, laidKinds := [.data], laidTests := true, laidLooks := .later }
def InterpretBlindUptoCardSaid : Prop := Claim7.holds Tryz.pinned (.plain (OpenSpec.upto interpretBlindSpec)) interpretBlindUptoCard
end Rows
end Go.Proofs.YtdmjloieldhlnaaGreatDoor
