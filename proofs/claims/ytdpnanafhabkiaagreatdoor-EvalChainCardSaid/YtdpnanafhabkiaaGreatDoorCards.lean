/-
  DERIVED. GIVEN WITH THE SEED: THE CARDS: each row of YtdpnanafhabkiaaGreatDoorRows.lean that lists a variable, with what it lists TIED to the program's text (the seventh form; the later family's looks); each row that meets fmt, with fmt's text TOLD by the authors' own Lean function (tested against real Go, not proved from fmt's source: count such statements apart). THE CARD IS WHAT COUNTS. Prove the row's statement (the work); the ties are given (YtdpnanafhabkiaaGreatDoorTie.lean); close each card by the builder's one call (the guide's Derived/Test/ToyasCard.lean, 'card_holds'). Laid BY PROGRAM, IN A SANDBOX (cutbox-door.mjs). By AI agents, Wed Nov 11 2026. No macro, syntax, notation, axiom, sorry.
-/
import Derived.Test.YtdpnanafhabkiaaGreatDoorRows
import GoSem.ClaimSeven
namespace Go.Proofs.YtdpnanafhabkiaaGreatDoor
namespace Rows

/-- THE TIED CARD OF 'annuitantlaw18.EvalChain'. -/
def evalChainCard : Claim7 := { stood := { row := evalChainRow, standIns := [], harness := (true, "20bd719225acfc4b3a41aacf1046e535642fa5042fa6a5a6e78e38e3491cd116"), looks := true }, kinds := [], alts := [], laidByText := true, laidKinds := [.data, .data], laidTests := true, laidLooks := .later }
def EvalChainCardSaid : Prop := Claim7.holds Tryz.pinned (.plain (OpenSpec.ofChange evalChainSpec)) evalChainCard

/-- THE TIED CARD OF 'annuitantlaw18.EvalAlgebra'. -/
def evalAlgebraCard : Claim7 := { stood := { row := evalAlgebraRow, standIns := [], harness := (true, "20bd719225acfc4b3a41aacf1046e535642fa5042fa6a5a6e78e38e3491cd116"), looks := true }, kinds := [], alts := [], laidByText := true, laidKinds := [.data, .data], laidTests := true, laidLooks := .later }
def EvalAlgebraCardSaid : Prop := Claim7.holds Tryz.pinned (.plain (OpenSpec.ofChange evalAlgebraSpec)) evalAlgebraCard

/-- THE SECOND FORM's CARD OF 'annuitantlaw18.EvalChain'. -/
def evalChainUptoCard : Claim7 := { stood := { row := evalChainUptoRow, standIns := [], harness := (true, "20bd719225acfc4b3a41aacf1046e535642fa5042fa6a5a6e78e38e3491cd116"), looks := true }, kinds := [], alts := [], laidByText := true, laidKinds := [.data, .data], laidTests := true, laidLooks := .later }
def EvalChainUptoCardSaid : Prop := Claim7.holds Tryz.pinned (.plain (OpenSpec.upto evalChainSpec)) evalChainUptoCard

/-- THE SECOND FORM's CARD OF 'annuitantlaw18.EvalAlgebra'. -/
def evalAlgebraUptoCard : Claim7 := { stood := { row := evalAlgebraUptoRow, standIns := [], harness := (true, "20bd719225acfc4b3a41aacf1046e535642fa5042fa6a5a6e78e38e3491cd116"), looks := true }, kinds := [], alts := [], laidByText := true, laidKinds := [.data, .data], laidTests := true, laidLooks := .later }
def EvalAlgebraUptoCardSaid : Prop := Claim7.holds Tryz.pinned (.plain (OpenSpec.upto evalAlgebraSpec)) evalAlgebraUptoCard
end Rows
end Go.Proofs.YtdpnanafhabkiaaGreatDoor
