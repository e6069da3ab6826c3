/-
  DERIVED. GIVEN WITH THE SEED: THE CARDS: each row of YtigbdbdlkoeadaaGreatDoorRows.lean that lists a variable, with what it lists TIED to the program's text (the seventh form; the later family's looks); each row that meets fmt, with fmt's text TOLD by the authors' own Lean function (tested against real Go, not proved from fmt's source: count such statements apart). THE CARD IS WHAT COUNTS. Prove the row's statement (the work); the ties are given (YtigbdbdlkoeadaaGreatDoorTie.lean); close each card by the builder's one call (the guide's Derived/Test/ToyasCard.lean, 'card_holds'). Laid BY PROGRAM, IN A SANDBOX (cutbox-door.mjs). By AI agents, Wed Nov 11 2026. No macro, syntax, notation, axiom, sorry.
-/
import Derived.Test.YtigbdbdlkoeadaaGreatDoorRows
import GoSem.ClaimSeven
namespace Go.Proofs.YtigbdbdlkoeadaaGreatDoor
namespace Rows

/-- THE TIED CARD OF 'annuitantlaw18.EvalKnown'. -/
def evalKnownCard : Claim7 := { stood := { row := evalKnownRow, standIns := [], harness := (true, "d2f66619731205b62bdda76f55f10269a6509d0bf6d83bde4f3b5aa37805ca1d"), looks := true }, kinds := [], alts := [], laidByText := true, laidKinds := [.data, .data], laidTests := true, laidLooks := .later }
def EvalKnownCardSaid : Prop := Claim7.holds Tryz.pinned (.plain (OpenSpec.ofChange evalKnownSpec)) evalKnownCard

/-- THE TIED CARD OF 'annuitantlaw18.EvalReads'. -/
def evalReadsCard : Claim7 := { stood := { row := evalReadsRow, standIns := [], harness := (true, "d2f66619731205b62bdda76f55f10269a6509d0bf6d83bde4f3b5aa37805ca1d"), looks := true }, kinds := [], alts := [], laidByText := true, laidKinds := [.data, .data], laidTests := true, laidLooks := .later }
def EvalReadsCardSaid : Prop := Claim7.holds Tryz.pinned (.plain (OpenSpec.ofChange evalReadsSpec)) evalReadsCard

/-- THE TIED CARD OF 'annuitantlaw18.EvalLazy'. -/
def evalLazyCard : Claim7 := { stood := { row := evalLazyRow, standIns := [], harness := (true, "d2f66619731205b62bdda76f55f10269a6509d0bf6d83bde4f3b5aa37805ca1d"), looks := true }, kinds := [], alts := [], laidByText := true, laidKinds := [.data, .data], laidTests := true, laidLooks := .later }
def EvalLazyCardSaid : Prop := Claim7.holds Tryz.pinned (.plain (OpenSpec.ofChange evalLazySpec)) evalLazyCard

/-- THE TIED CARD OF 'annuitantlaw18.EvalUnique'. -/
def evalUniqueCard : Claim7 := { stood := { row := evalUniqueRow, standIns := [], harness := (true, "d2f66619731205b62bdda76f55f10269a6509d0bf6d83bde4f3b5aa37805ca1d"), looks := true }, kinds := [], alts := [], laidByText := true, laidKinds := [.data, .data], laidTests := true, laidLooks := .later }
def EvalUniqueCardSaid : Prop := Claim7.holds Tryz.pinned (.plain (OpenSpec.ofChange evalUniqueSpec)) evalUniqueCard

/-- THE SECOND FORM's CARD OF 'annuitantlaw18.EvalKnown'. -/
def evalKnownUptoCard : Claim7 := { stood := { row := evalKnownUptoRow, standIns := [], harness := (true, "d2f66619731205b62bdda76f55f10269a6509d0bf6d83bde4f3b5aa37805ca1d"), looks := true }, kinds := [], alts := [], laidByText := true, laidKinds := [.data, .data], laidTests := true, laidLooks := .later }
def EvalKnownUptoCardSaid : Prop := Claim7.holds Tryz.pinned (.plain (OpenSpec.upto evalKnownSpec)) evalKnownUptoCard

/-- THE SECOND FORM's CARD OF 'annuitantlaw18.EvalReads'. -/
def evalReadsUptoCard : Claim7 := { stood := { row := evalReadsUptoRow, standIns := [], harness := (true, "d2f66619731205b62bdda76f55f10269a6509d0bf6d83bde4f3b5aa37805ca1d"), looks := true }, kinds := [], alts := [], laidByText := true, laidKinds := [.data, .data], laidTests := true, laidLooks := .later }
def EvalReadsUptoCardSaid : Prop := Claim7.holds Tryz.pinned (.plain (OpenSpec.upto evalReadsSpec)) evalReadsUptoCard

/-- THE SECOND FORM's CARD OF 'annuitantlaw18.EvalLazy'. -/
def evalLazyUptoCard : Claim7 := { stood := { row := evalLazyUptoRow, standIns := [], harness := (true, "d2f66619731205b62bdda76f55f10269a6509d0bf6d83bde4f3b5aa37805ca1d"), looks := true }, kinds := [], alts := [], laidByText := true, laidKinds := [.data, .data], laidTests := true, laidLooks := .later }
def EvalLazyUptoCardSaid : Prop := Claim7.holds Tryz.pinned (.plain (OpenSpec.upto evalLazySpec)) evalLazyUptoCard

/-- THE SECOND FORM's CARD OF 'annuitantlaw18.EvalUnique'. -/
def evalUniqueUptoCard : Claim7 := { stood := { row := evalUniqueUptoRow, standIns := [], harness := (true, "d2f66619731205b62bdda76f55f10269a6509d0bf6d83bde4f3b5aa37805ca1d"), looks := true }, kinds := [], alts := [], laidByText := true, laidKinds := [.data, .data], laidTests := true, laidLooks := .later }
def EvalUniqueUptoCardSaid : Prop := Claim7.holds Tryz.pinned (.plain (OpenSpec.upto evalUniqueSpec)) evalUniqueUptoCard
end Rows
end Go.Proofs.YtigbdbdlkoeadaaGreatDoor
