/-
  DERIVED. GIVEN WITH THE SEED: THE CARDS: each row of YtgefdialaemelaaGreatDoorRows.lean that lists a variable, with what it lists TIED to the program's text (the seventh form; the later family's looks); each row that meets fmt, with fmt's text TOLD by the authors' own Lean function (tested against real Go, not proved from fmt's source: count such statements apart). THE CARD IS WHAT COUNTS. Prove the row's statement (the work); the ties are given (YtgefdialaemelaaGreatDoorTie.lean); close each card by the builder's one call (the guide's Derived/Test/ToyasCard.lean, 'card_holds'). Laid BY PROGRAM, IN A SANDBOX (cutbox-door.mjs). By AI agents, Wed Nov 11 2026. No macro, syntax, notation, axiom, sorry.
-/
import Derived.Test.YtgefdialaemelaaGreatDoorRows
import GoSem.ClaimSeven
namespace Go.Proofs.YtgefdialaemelaaGreatDoor
namespace Rows

/-- THE TIED CARD OF 'annuitantlaw26.RecalcAmounts'. -/
def recalcAmountsCard : Claim7 := { stood := { row := recalcAmountsRow, standIns := [], harness := (true, "be1a6d2ed038d480cde6c0fa9e928b3d6aec979c15f885fa74887e29ae16d86f"), looks := true }, kinds := [], alts := [], laidByText := true, laidKinds := [.data, .data], laidTests := true, laidLooks := .later }
def RecalcAmountsCardSaid : Prop := Claim7.holds Tryz.pinned (.plain (OpenSpec.ofChange recalcAmountsSpec)) recalcAmountsCard

/-- THE SECOND FORM's CARD OF 'annuitantlaw26.RecalcAmounts'. -/
def recalcAmountsUptoCard : Claim7 := { stood := { row := recalcAmountsUptoRow, standIns := [], harness := (true, "be1a6d2ed038d480cde6c0fa9e928b3d6aec979c15f885fa74887e29ae16d86f"), looks := true }, kinds := [], alts := [], laidByText := true, laidKinds := [.data, .data], laidTests := true, laidLooks := .later }
def RecalcAmountsUptoCardSaid : Prop := Claim7.holds Tryz.pinned (.plain (OpenSpec.upto recalcAmountsSpec)) recalcAmountsUptoCard
end Rows
end Go.Proofs.YtgefdialaemelaaGreatDoor
