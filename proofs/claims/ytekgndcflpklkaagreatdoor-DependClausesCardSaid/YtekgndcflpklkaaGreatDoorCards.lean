/-
  DERIVED. GIVEN WITH THE SEED: THE CARDS: each row of YtekgndcflpklkaaGreatDoorRows.lean that lists a variable, with what it lists TIED to the program's text (the seventh form; the later family's looks); each row that meets fmt, with fmt's text TOLD by the authors' own Lean function (tested against real Go, not proved from fmt's source: count such statements apart). THE CARD IS WHAT COUNTS. Prove the row's statement (the work); the ties are given (YtekgndcflpklkaaGreatDoorTie.lean); close each card by the builder's one call (the guide's Derived/Test/ToyasCard.lean, 'card_holds'). Laid BY PROGRAM, IN A SANDBOX (cutbox-door.mjs). By AI agents, Wed Nov 11 2026. No macro, syntax, notation, axiom, sorry.
-/
import Derived.Test.YtekgndcflpklkaaGreatDoorRows
import GoSem.ClaimSeven
namespace Go.Proofs.YtekgndcflpklkaaGreatDoor
namespace Rows

/-- THE TIED CARD OF 'annuitantlaw25.DependFacts'. -/
def dependFactsCard : Claim7 := { stood := { row := dependFactsRow, standIns := [], harness := (true, "e05eaacd276591e4d8842ac0018e21729faf65ed9c73a83bb4aceed1ff163d53"), looks := true }, kinds := [], alts := [], laidByText := true, laidKinds := [.data, .data], laidTests := true, laidLooks := .later }
def DependFactsCardSaid : Prop := Claim7.holds Tryz.pinned (.plain (OpenSpec.ofChange dependFactsSpec)) dependFactsCard

/-- THE TIED CARD OF 'annuitantlaw25.DependClauses'. -/
def dependClausesCard : Claim7 := { stood := { row := dependClausesRow, standIns := [], harness := (true, "e05eaacd276591e4d8842ac0018e21729faf65ed9c73a83bb4aceed1ff163d53"), looks := true }, kinds := [], alts := [], laidByText := true, laidKinds := [.data, .data], laidTests := true, laidLooks := .later }
def DependClausesCardSaid : Prop := Claim7.holds Tryz.pinned (.plain (OpenSpec.ofChange dependClausesSpec)) dependClausesCard

/-- THE TIED CARD OF 'annuitantlaw25.DependNews'. -/
def dependNewsCard : Claim7 := { stood := { row := dependNewsRow, standIns := [], harness := (true, "e05eaacd276591e4d8842ac0018e21729faf65ed9c73a83bb4aceed1ff163d53"), looks := true }, kinds := [], alts := [], laidByText := true, laidKinds := [.data, .data], laidTests := true, laidLooks := .later }
def DependNewsCardSaid : Prop := Claim7.holds Tryz.pinned (.plain (OpenSpec.ofChange dependNewsSpec)) dependNewsCard

/-- THE TIED CARD OF 'annuitantlaw25.DependRows'. -/
def dependRowsCard : Claim7 := { stood := { row := dependRowsRow, standIns := [], harness := (true, "e05eaacd276591e4d8842ac0018e21729faf65ed9c73a83bb4aceed1ff163d53"), looks := true }, kinds := [], alts := [], laidByText := true, laidKinds := [.data, .data], laidTests := true, laidLooks := .later }
def DependRowsCardSaid : Prop := Claim7.holds Tryz.pinned (.plain (OpenSpec.ofChange dependRowsSpec)) dependRowsCard

/-- THE SECOND FORM's CARD OF 'annuitantlaw25.DependFacts'. -/
def dependFactsUptoCard : Claim7 := { stood := { row := dependFactsUptoRow, standIns := [], harness := (true, "e05eaacd276591e4d8842ac0018e21729faf65ed9c73a83bb4aceed1ff163d53"), looks := true }, kinds := [], alts := [], laidByText := true, laidKinds := [.data, .data], laidTests := true, laidLooks := .later }
def DependFactsUptoCardSaid : Prop := Claim7.holds Tryz.pinned (.plain (OpenSpec.upto dependFactsSpec)) dependFactsUptoCard

/-- THE SECOND FORM's CARD OF 'annuitantlaw25.DependClauses'. -/
def dependClausesUptoCard : Claim7 := { stood := { row := dependClausesUptoRow, standIns := [], harness := (true, "e05eaacd276591e4d8842ac0018e21729faf65ed9c73a83bb4aceed1ff163d53"), looks := true }, kinds := [], alts := [], laidByText := true, laidKinds := [.data, .data], laidTests := true, laidLooks := .later }
def DependClausesUptoCardSaid : Prop := Claim7.holds Tryz.pinned (.plain (OpenSpec.upto dependClausesSpec)) dependClausesUptoCard

/-- THE SECOND FORM's CARD OF 'annuitantlaw25.DependNews'. -/
def dependNewsUptoCard : Claim7 := { stood := { row := dependNewsUptoRow, standIns := [], harness := (true, "e05eaacd276591e4d8842ac0018e21729faf65ed9c73a83bb4aceed1ff163d53"), looks := true }, kinds := [], alts := [], laidByText := true, laidKinds := [.data, .data], laidTests := true, laidLooks := .later }
def DependNewsUptoCardSaid : Prop := Claim7.holds Tryz.pinned (.plain (OpenSpec.upto dependNewsSpec)) dependNewsUptoCard

/-- THE SECOND FORM's CARD OF 'annuitantlaw25.DependRows'. -/
def dependRowsUptoCard : Claim7 := { stood := { row := dependRowsUptoRow, standIns := [], harness := (true, "e05eaacd276591e4d8842ac0018e21729faf65ed9c73a83bb4aceed1ff163d53"), looks := true }, kinds := [], alts := [], laidByText := true, laidKinds := [.data, .data], laidTests := true, laidLooks := .later }
def DependRowsUptoCardSaid : Prop := Claim7.holds Tryz.pinned (.plain (OpenSpec.upto dependRowsSpec)) dependRowsUptoCard
end Rows
end Go.Proofs.YtekgndcflpklkaaGreatDoor
