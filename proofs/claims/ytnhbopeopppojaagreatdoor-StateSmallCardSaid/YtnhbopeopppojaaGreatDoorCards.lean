/-
  DERIVED. GIVEN WITH THE SEED: THE CARDS: each row of YtnhbopeopppojaaGreatDoorRows.lean that lists a variable, with what it lists TIED to the program's text (the seventh form; the later family's looks); each row that meets fmt, with fmt's text TOLD by the authors' own Lean function (tested against real Go, not proved from fmt's source: count such statements apart). THE CARD IS WHAT COUNTS. Prove the row's statement (the work); the ties are given (YtnhbopeopppojaaGreatDoorTie.lean); close each card by the builder's one call (the guide's Derived/Test/ToyasCard.lean, 'card_holds'). Laid BY PROGRAM, IN A SANDBOX (cutbox-door.mjs). By AI agents, Wed Nov 11 2026. No macro, syntax, notation, axiom, sorry.
-/
import Derived.Test.YtnhbopeopppojaaGreatDoorRows
import GoSem.ClaimSeven
namespace Go.Proofs.YtnhbopeopppojaaGreatDoor
namespace Rows

/-- THE TIED CARD OF 'annuitantlaw39.StateReads'. -/
def stateReadsCard : Claim7 := { stood := { row := stateReadsRow, standIns := [], harness := (true, "4d41835dcd73ab4f1d2cb3572f7e948a5de076cb8bebe58e24a61b688484a91f"), looks := true }, kinds := [], alts := [], laidByText := true, laidKinds := [.data, .data, .data], laidTests := true, laidLooks := .later }
def StateReadsCardSaid : Prop := Claim7.holds Tryz.pinned (.plain (OpenSpec.ofChange stateReadsSpec)) stateReadsCard

/-- THE TIED CARD OF 'annuitantlaw39.StateSmall'. -/
def stateSmallCard : Claim7 := { stood := { row := stateSmallRow, standIns := [], harness := (true, "4d41835dcd73ab4f1d2cb3572f7e948a5de076cb8bebe58e24a61b688484a91f"), looks := true }, kinds := [], alts := [], laidByText := true, laidKinds := [.data, .data, .data], laidTests := true, laidLooks := .later }
def StateSmallCardSaid : Prop := Claim7.holds Tryz.pinned (.plain (OpenSpec.ofChange stateSmallSpec)) stateSmallCard

/-- THE SECOND FORM's CARD OF 'annuitantlaw39.StateReads'. -/
def stateReadsUptoCard : Claim7 := { stood := { row := stateReadsUptoRow, standIns := [], harness := (true, "4d41835dcd73ab4f1d2cb3572f7e948a5de076cb8bebe58e24a61b688484a91f"), looks := true }, kinds := [], alts := [], laidByText := true, laidKinds := [.data, .data, .data], laidTests := true, laidLooks := .later }
def StateReadsUptoCardSaid : Prop := Claim7.holds Tryz.pinned (.plain (OpenSpec.upto stateReadsSpec)) stateReadsUptoCard

/-- THE SECOND FORM's CARD OF 'annuitantlaw39.StateSmall'. -/
def stateSmallUptoCard : Claim7 := { stood := { row := stateSmallUptoRow, standIns := [], harness := (true, "4d41835dcd73ab4f1d2cb3572f7e948a5de076cb8bebe58e24a61b688484a91f"), looks := true }, kinds := [], alts := [], laidByText := true, laidKinds := [.data, .data, .data], laidTests := true, laidLooks := .later }
def StateSmallUptoCardSaid : Prop := Claim7.holds Tryz.pinned (.plain (OpenSpec.upto stateSmallSpec)) stateSmallUptoCard
end Rows
end Go.Proofs.YtnhbopeopppojaaGreatDoor
