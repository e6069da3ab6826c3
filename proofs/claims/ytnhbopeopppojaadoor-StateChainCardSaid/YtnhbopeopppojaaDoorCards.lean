/-
  DERIVED. GIVEN WITH THE SEED: THE CARDS: each row of YtnhbopeopppojaaDoorRows.lean that lists a variable, with what it lists TIED to the program's text (the seventh form; the later family's looks); each row that meets fmt, with fmt's text TOLD by the authors' own Lean function (tested against real Go, not proved from fmt's source: count such statements apart). THE CARD IS WHAT COUNTS. Prove the row's statement (the work); the ties are given (YtnhbopeopppojaaDoorTie.lean); close each card by the builder's one call (the guide's Derived/Test/ToyasCard.lean, 'card_holds'). Laid BY PROGRAM, IN A SANDBOX (cutbox-door.mjs). By AI agents, Wed Nov 11 2026. No macro, syntax, notation, axiom, sorry.
-/
import Derived.Test.YtnhbopeopppojaaDoorRows
import GoSem.ClaimSeven
namespace Go.Proofs.YtnhbopeopppojaaDoor
namespace Rows

/-- THE TIED CARD OF 'annuitantlaw39.StateMakes'. -/
def stateMakesCard : Claim7 := { stood := { row := stateMakesRow, standIns := [], harness := (true, "e09641f2b7fa0255b9d6174e27189e5eeb1c577739ed6e86885e6e9c40942df8"), looks := true }, kinds := [], alts := [], laidByText := true, laidKinds := [.data, .data, .data], laidTests := true, laidLooks := .later }
def StateMakesCardSaid : Prop := Claim7.holds Tryd.pinned (.plain (OpenSpec.ofChange stateMakesSpec)) stateMakesCard

/-- THE TIED CARD OF 'annuitantlaw39.StateWrites'. -/
def stateWritesCard : Claim7 := { stood := { row := stateWritesRow, standIns := [], harness := (true, "e09641f2b7fa0255b9d6174e27189e5eeb1c577739ed6e86885e6e9c40942df8"), looks := true }, kinds := [], alts := [], laidByText := true, laidKinds := [.data, .data, .data], laidTests := true, laidLooks := .later }
def StateWritesCardSaid : Prop := Claim7.holds Tryd.pinned (.plain (OpenSpec.ofChange stateWritesSpec)) stateWritesCard

/-- THE TIED CARD OF 'annuitantlaw39.StateBack'. -/
def stateBackCard : Claim7 := { stood := { row := stateBackRow, standIns := [], harness := (true, "e09641f2b7fa0255b9d6174e27189e5eeb1c577739ed6e86885e6e9c40942df8"), looks := true }, kinds := [], alts := [], laidByText := true, laidKinds := [.data, .data, .data], laidTests := true, laidLooks := .later }
def StateBackCardSaid : Prop := Claim7.holds Tryd.pinned (.plain (OpenSpec.ofChange stateBackSpec)) stateBackCard

/-- THE TIED CARD OF 'annuitantlaw39.StateOnly'. -/
def stateOnlyCard : Claim7 := { stood := { row := stateOnlyRow, standIns := [], harness := (true, "e09641f2b7fa0255b9d6174e27189e5eeb1c577739ed6e86885e6e9c40942df8"), looks := true }, kinds := [], alts := [], laidByText := true, laidKinds := [.data, .data, .data], laidTests := true, laidLooks := .later }
def StateOnlyCardSaid : Prop := Claim7.holds Tryd.pinned (.plain (OpenSpec.ofChange stateOnlySpec)) stateOnlyCard

/-- THE TIED CARD OF 'annuitantlaw39.StateEdit'. -/
def stateEditCard : Claim7 := { stood := { row := stateEditRow, standIns := [], harness := (true, "e09641f2b7fa0255b9d6174e27189e5eeb1c577739ed6e86885e6e9c40942df8"), looks := true }, kinds := [], alts := [], laidByText := true, laidKinds := [.data, .data, .data], laidTests := true, laidLooks := .later }
def StateEditCardSaid : Prop := Claim7.holds Tryd.pinned (.plain (OpenSpec.ofChange stateEditSpec)) stateEditCard

/-- THE TIED CARD OF 'annuitantlaw39.StateWrong'. -/
def stateWrongCard : Claim7 := { stood := { row := stateWrongRow, standIns := [], harness := (true, "e09641f2b7fa0255b9d6174e27189e5eeb1c577739ed6e86885e6e9c40942df8"), looks := true }, kinds := [], alts := [], laidByText := true, laidKinds := [.data, .data, .data], laidTests := true, laidLooks := .later }
def StateWrongCardSaid : Prop := Claim7.holds Tryd.pinned (.plain (OpenSpec.ofChange stateWrongSpec)) stateWrongCard

/-- THE TIED CARD OF 'annuitantlaw39.StateChain'. -/
def stateChainCard : Claim7 := { stood := { row := stateChainRow, standIns := [], harness := (true, "e09641f2b7fa0255b9d6174e27189e5eeb1c577739ed6e86885e6e9c40942df8"), looks := true }, kinds := [], alts := [], laidByText := true, laidKinds := [.data, .data, .data], laidTests := true, laidLooks := .later }
def StateChainCardSaid : Prop := Claim7.holds Tryd.pinned (.plain (OpenSpec.ofChange stateChainSpec)) stateChainCard

/-- THE SECOND FORM's CARD OF 'annuitantlaw39.StateMakes'. -/
def stateMakesUptoCard : Claim7 := { stood := { row := stateMakesUptoRow, standIns := [], harness := (true, "e09641f2b7fa0255b9d6174e27189e5eeb1c577739ed6e86885e6e9c40942df8"), looks := true }, kinds := [], alts := [], laidByText := true, laidKinds := [.data, .data, .data], laidTests := true, laidLooks := .later }
def StateMakesUptoCardSaid : Prop := Claim7.holds Tryd.pinned (.plain (OpenSpec.upto stateMakesSpec)) stateMakesUptoCard

/-- THE SECOND FORM's CARD OF 'annuitantlaw39.StateWrites'. -/
def stateWritesUptoCard : Claim7 := { stood := { row := stateWritesUptoRow, standIns := [], harness := (true, "e09641f2b7fa0255b9d6174e27189e5eeb1c577739ed6e86885e6e9c40942df8"), looks := true }, kinds := [], alts := [], laidByText := true, laidKinds := [.data, .data, .data], laidTests := true, laidLooks := .later }
def StateWritesUptoCardSaid : Prop := Claim7.holds Tryd.pinned (.plain (OpenSpec.upto stateWritesSpec)) stateWritesUptoCard

/-- THE SECOND FORM's CARD OF 'annuitantlaw39.StateBack'. -/
def stateBackUptoCard : Claim7 := { stood := { row := stateBackUptoRow, standIns := [], harness := (true, "e09641f2b7fa0255b9d6174e27189e5eeb1c577739ed6e86885e6e9c40942df8"), looks := true }, kinds := [], alts := [], laidByText := true, laidKinds := [.data, .data, .data], laidTests := true, laidLooks := .later }
def StateBackUptoCardSaid : Prop := Claim7.holds Tryd.pinned (.plain (OpenSpec.upto stateBackSpec)) stateBackUptoCard

/-- THE SECOND FORM's CARD OF 'annuitantlaw39.StateOnly'. -/
def stateOnlyUptoCard : Claim7 := { stood := { row := stateOnlyUptoRow, standIns := [], harness := (true, "e09641f2b7fa0255b9d6174e27189e5eeb1c577739ed6e86885e6e9c40942df8"), looks := true }, kinds := [], alts := [], laidByText := true, laidKinds := [.data, .data, .data], laidTests := true, laidLooks := .later }
def StateOnlyUptoCardSaid : Prop := Claim7.holds Tryd.pinned (.plain (OpenSpec.upto stateOnlySpec)) stateOnlyUptoCard

/-- THE SECOND FORM's CARD OF 'annuitantlaw39.StateEdit'. -/
def stateEditUptoCard : Claim7 := { stood := { row := stateEditUptoRow, standIns := [], harness := (true, "e09641f2b7fa0255b9d6174e27189e5eeb1c577739ed6e86885e6e9c40942df8"), looks := true }, kinds := [], alts := [], laidByText := true, laidKinds := [.data, .data, .data], laidTests := true, laidLooks := .later }
def StateEditUptoCardSaid : Prop := Claim7.holds Tryd.pinned (.plain (OpenSpec.upto stateEditSpec)) stateEditUptoCard

/-- THE SECOND FORM's CARD OF 'annuitantlaw39.StateWrong'. -/
def stateWrongUptoCard : Claim7 := { stood := { row := stateWrongUptoRow, standIns := [], harness := (true, "e09641f2b7fa0255b9d6174e27189e5eeb1c577739ed6e86885e6e9c40942df8"), looks := true }, kinds := [], alts := [], laidByText := true, laidKinds := [.data, .data, .data], laidTests := true, laidLooks := .later }
def StateWrongUptoCardSaid : Prop := Claim7.holds Tryd.pinned (.plain (OpenSpec.upto stateWrongSpec)) stateWrongUptoCard

/-- THE SECOND FORM's CARD OF 'annuitantlaw39.StateChain'. -/
def stateChainUptoCard : Claim7 := { stood := { row := stateChainUptoRow, standIns := [], harness := (true, "e09641f2b7fa0255b9d6174e27189e5eeb1c577739ed6e86885e6e9c40942df8"), looks := true }, kinds := [], alts := [], laidByText := true, laidKinds := [.data, .data, .data], laidTests := true, laidLooks := .later }
def StateChainUptoCardSaid : Prop := Claim7.holds Tryd.pinned (.plain (OpenSpec.upto stateChainSpec)) stateChainUptoCard
end Rows
end Go.Proofs.YtnhbopeopppojaaDoor
