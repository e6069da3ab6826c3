/-
  NARROWER THAN 'FOR EVERY INPUT', by the rows' own cells (each row's printed sentence says how): DependFacts: loops, laid · DependClauses: loops, laid · DependNews: loops, laid · DependRows: loops, laid.
  DERIVED. THE GIVEN ROWS OF THIS SEAT. 4 by the template 'for every input the law returns true; each argument reads behind the call as it read before'; 0 by the template 'total and deterministic' (their statements: YtekgndcflpklkaaGreatDoorTotals.lean).
  GIVEN WITH THE SEED: the statements are not yours to turn. If you find one false, say at which input.
  Laid BY PROGRAM, IN A SANDBOX (cutbox-rows.mjs): the forced cells as the released guide's own fill.sh prints them over the translation 60252432f398e432… (all of the seat's roots in one cut). By AI agents, Wed Nov 11 2026. No macro, syntax, notation, axiom, sorry.
-/
import Derived.Test.YtekgndcflpklkaaGreatDoorChecked
import GoSem.Claim
import GoSem.ClaimJoined
import GoSem.ClaimMapViews
import Derived.JoinedTies
import Derived.KernelRfl
namespace Go.Proofs.YtekgndcflpklkaaGreatDoor
/- THE CELL 'sum', in the pinned program and in every row, IS THE sha256 OF THE DUMP (.gsa) THAT YtekgndcflpklkaaGreatDoorProg.lean LOADS. Nothing in Lean hashes anything: it is a label: what it is worth is what the hold of that sum in a sandbox is worth. -/
noncomputable def Tryz.pinned : Pinned := { name := "ytekgndcflpklkaagreatdoor", sum := "60252432f398e4321b8bdd812b590eef8a180b9ea21eababcd0bb4d7cc1516e2", checked := Tryz.checked }
namespace Rows
def none {H : Type} : Left H := { results := [], args := [] }

/- WHAT THE LISTED PACKAGE-LEVEL VARIABLES READ AS WHEN THE CALL BEGINS. Each datum BY PROGRAM (the guide's laid-datum.mjs) off the statement by which the dump's own 'gosem.cut.vars' lays the variable. In a bare row this is a premise. The card (YtekgndcflpklkaaGreatDoorCards.lean) ties it to the program's text. -/
def laid_annuitant_calendar_lengths {H : Type} : DataW H := .agg [.lit (.int .i64 31), .lit (.int .i64 28), .lit (.int .i64 31), .lit (.int .i64 30), .lit (.int .i64 31), .lit (.int .i64 30), .lit (.int .i64 31), .lit (.int .i64 31), .lit (.int .i64 30), .lit (.int .i64 31), .lit (.int .i64 30), .lit (.int .i64 31)]
def laid_annuitant_operation_argumentKinds {H : Type} : DataW H := .agg [.lit (.string []), .lit (.string []), .lit (.string []), .lit (.string [52]), .lit (.string [52]), .lit (.string []), .lit (.string [50, 32, 50, 50]), .lit (.string [50, 50, 32, 51, 51, 32, 53, 53, 32, 54, 54, 32, 52, 53, 32, 52, 54]), .lit (.string [50, 50, 32, 51, 51, 32, 53, 53, 32, 54, 54, 32, 52, 52, 32, 52, 53, 32, 52, 54]), .lit (.string [50, 50, 32, 51, 50, 32, 50, 51]), .lit (.string [50, 50, 32, 51, 51, 32, 51, 50]), .lit (.string [50, 50, 32, 51, 51, 32, 52, 52, 32, 53, 53, 32, 54, 54]), .lit (.string [50, 50, 32, 51, 51, 32, 52, 52, 32, 53, 53, 32, 54, 54]), .lit (.string [50, 50, 32, 51, 51, 32, 52, 52, 32, 53, 53, 32, 54, 54]), .lit (.string [49, 49, 32, 50, 50, 32, 51, 51, 32, 52, 52, 32, 53, 53, 32, 54, 54]), .lit (.string []), .lit (.string []), .lit (.string [49]), .lit (.string []), .lit (.string [50, 50, 32, 51, 51]), .lit (.string [52, 52]), .lit (.string [52, 52]), .lit (.string [52, 52, 54]), .lit (.string [52, 52]), .lit (.string [50]), .lit (.string [50, 32, 51, 32, 53, 32, 54]), .lit (.string [52])]

/-- 'annuitantlaw25.DependFacts': WHATEVER THE INPUT: true; the input reads as it did. -/
def dependFactsSpec : ChangeSpec := { name := "dependFacts", fn := fun _ => fun
  | [d1, d2, d3, d4, d5, d6, d7] => { results := [.lit (.bool true)], args := [d1, d2, d3, d4, d5, d6, d7] }
  | _ => none }
def dependFactsRow : OpenClaim := { program := "ytekgndcflpklkaagreatdoor", sum := "60252432f398e4321b8bdd812b590eef8a180b9ea21eababcd0bb4d7cc1516e2", func := "annuitant/annuitantlaw25.DependFacts", spec := "dependFacts", inPlace := ["internal/bytealg.IndexByteString", "internal/bytealg.IndexString"], unfollowed := true, recurses := true, named := ["math/bits.overflowError", "annuitant/operation.argumentKinds", "internal/bytealg.MaxLen", "annuitant/calendar.lengths"], loops := true, plainKeys := false, apart := false, laid := [("annuitant/calendar.lengths", laid_annuitant_calendar_lengths), ("annuitant/operation.argumentKinds", laid_annuitant_operation_argumentKinds)] }
def DependFactsSaid : Prop := dependFactsRow.holds Tryz.pinned (OpenSpec.ofChange dependFactsSpec)

/-- ITS FALSE NEIGHBOUR: 'it returns false'. Refute it at one input. -/
def dependFactsWrong : ChangeSpec := { name := "dependFacts", fn := fun _ => fun
  | [d1, d2, d3, d4, d5, d6, d7] => { results := [.lit (.bool false)], args := [d1, d2, d3, d4, d5, d6, d7] }
  | _ => none }
def DependFactsWrongFalsely : Prop := dependFactsRow.holds Tryz.pinned (OpenSpec.ofChange dependFactsWrong)

/-- 'annuitantlaw25.DependClauses': WHATEVER THE INPUT: true; the input reads as it did. -/
def dependClausesSpec : ChangeSpec := { name := "dependClauses", fn := fun _ => fun
  | [d1, d2, d3, d4, d5, d6, d7] => { results := [.lit (.bool true)], args := [d1, d2, d3, d4, d5, d6, d7] }
  | _ => none }
def dependClausesRow : OpenClaim := { program := "ytekgndcflpklkaagreatdoor", sum := "60252432f398e4321b8bdd812b590eef8a180b9ea21eababcd0bb4d7cc1516e2", func := "annuitant/annuitantlaw25.DependClauses", spec := "dependClauses", inPlace := ["internal/bytealg.IndexByteString", "internal/bytealg.IndexString"], unfollowed := true, recurses := true, named := ["math/bits.overflowError", "annuitant/operation.argumentKinds", "internal/bytealg.MaxLen", "annuitant/calendar.lengths"], loops := true, plainKeys := false, apart := false, laid := [("annuitant/calendar.lengths", laid_annuitant_calendar_lengths), ("annuitant/operation.argumentKinds", laid_annuitant_operation_argumentKinds)] }
def DependClausesSaid : Prop := dependClausesRow.holds Tryz.pinned (OpenSpec.ofChange dependClausesSpec)

/-- ITS FALSE NEIGHBOUR: 'it returns false'. Refute it at one input. -/
def dependClausesWrong : ChangeSpec := { name := "dependClauses", fn := fun _ => fun
  | [d1, d2, d3, d4, d5, d6, d7] => { results := [.lit (.bool false)], args := [d1, d2, d3, d4, d5, d6, d7] }
  | _ => none }
def DependClausesWrongFalsely : Prop := dependClausesRow.holds Tryz.pinned (OpenSpec.ofChange dependClausesWrong)

/-- 'annuitantlaw25.DependNews': WHATEVER THE INPUT: true; the input reads as it did. -/
def dependNewsSpec : ChangeSpec := { name := "dependNews", fn := fun _ => fun
  | [d1, d2, d3, d4, d5, d6] => { results := [.lit (.bool true)], args := [d1, d2, d3, d4, d5, d6] }
  | _ => none }
def dependNewsRow : OpenClaim := { program := "ytekgndcflpklkaagreatdoor", sum := "60252432f398e4321b8bdd812b590eef8a180b9ea21eababcd0bb4d7cc1516e2", func := "annuitant/annuitantlaw25.DependNews", spec := "dependNews", inPlace := ["internal/bytealg.IndexByteString", "internal/bytealg.IndexString"], unfollowed := true, recurses := true, named := ["math/bits.overflowError", "annuitant/operation.argumentKinds", "internal/bytealg.MaxLen", "annuitant/calendar.lengths"], loops := true, plainKeys := false, apart := false, laid := [("annuitant/calendar.lengths", laid_annuitant_calendar_lengths), ("annuitant/operation.argumentKinds", laid_annuitant_operation_argumentKinds)] }
def DependNewsSaid : Prop := dependNewsRow.holds Tryz.pinned (OpenSpec.ofChange dependNewsSpec)

/-- ITS FALSE NEIGHBOUR: 'it returns false'. Refute it at one input. -/
def dependNewsWrong : ChangeSpec := { name := "dependNews", fn := fun _ => fun
  | [d1, d2, d3, d4, d5, d6] => { results := [.lit (.bool false)], args := [d1, d2, d3, d4, d5, d6] }
  | _ => none }
def DependNewsWrongFalsely : Prop := dependNewsRow.holds Tryz.pinned (OpenSpec.ofChange dependNewsWrong)

/-- 'annuitantlaw25.DependRows': WHATEVER THE INPUT: true; the input reads as it did. -/
def dependRowsSpec : ChangeSpec := { name := "dependRows", fn := fun _ => fun
  | [d1, d2, d3, d4, d5, d6, d7] => { results := [.lit (.bool true)], args := [d1, d2, d3, d4, d5, d6, d7] }
  | _ => none }
def dependRowsRow : OpenClaim := { program := "ytekgndcflpklkaagreatdoor", sum := "60252432f398e4321b8bdd812b590eef8a180b9ea21eababcd0bb4d7cc1516e2", func := "annuitant/annuitantlaw25.DependRows", spec := "dependRows", inPlace := ["slices.overlaps[annuitant/api.Row]", "internal/bytealg.IndexByteString", "internal/bytealg.IndexString"], unfollowed := true, recurses := true, named := ["math/bits.overflowError", "annuitant/operation.argumentKinds", "internal/bytealg.MaxLen", "annuitant/calendar.lengths"], loops := true, plainKeys := false, apart := false, laid := [("annuitant/calendar.lengths", laid_annuitant_calendar_lengths), ("annuitant/operation.argumentKinds", laid_annuitant_operation_argumentKinds)] }
def DependRowsSaid : Prop := dependRowsRow.holds Tryz.pinned (OpenSpec.ofChange dependRowsSpec)

/-- ITS FALSE NEIGHBOUR: 'it returns false'. Refute it at one input. -/
def dependRowsWrong : ChangeSpec := { name := "dependRows", fn := fun _ => fun
  | [d1, d2, d3, d4, d5, d6, d7] => { results := [.lit (.bool false)], args := [d1, d2, d3, d4, d5, d6, d7] }
  | _ => none }
def DependRowsWrongFalsely : Prop := dependRowsRow.holds Tryz.pinned (OpenSpec.ofChange dependRowsWrong)

/- THE SECOND FORM. 'bulk': how many values and letters a reading holds, each counted each time it is reached (what is shared counts as often as it is met; a slice's spare places count too). A statement '..UptoSaid' is the law's where the arguments, and the package variables that the reading takes, are together of bulk at most 1048576: NARROWER than '..Said'. Prove '..Said' where nothing that the law and all that it calls make is longer than what came in: it says more and counts as full. Else prove '..UptoSaid'. A law counts once. -/
mutual
def uptoBulk {H : Type} : DataW H → Nat
  | .lit (.string bytes) => bytes.length + 1
  | .lit _ => 1
  | .nil => 1
  | .ptr d => uptoBulk d + 1
  | .slice elems spare => uptoBulkAll elems + uptoBulkAll spare + 1
  | .agg parts => uptoBulkAll parts + 1
  | .iface _ d => uptoBulk d + 1
  | .map entries => uptoBulkEntries entries + 1
  | .held _ => 1
def uptoBulkAll {H : Type} : List (DataW H) → Nat
  | [] => 0
  | d :: r => uptoBulk d + uptoBulkAll r
def uptoBulkEntries {H : Type} : List (Lit × DataW H) → Nat
  | [] => 0
  | x :: r => uptoBulkEntry x + uptoBulkEntries r
def uptoBulkEntry {H : Type} : Lit × DataW H → Nat
  | (.string bytes, d) => bytes.length + uptoBulk d + 1
  | (_, d) => uptoBulk d + 1
 end
def uptoSmall : (H : Type) → List (DataW H) → Bool := fun _ ds => decide (uptoBulkAll ds ≤ 1048576)
def OpenSpec.upto (s : _root_.Go.ChangeSpec) : _root_.Go.OpenSpec := { _root_.Go.OpenSpec.ofChange s with cond := some uptoSmall }

/-- 'annuitantlaw25.DependFacts', WHERE WHAT IT READS IS OF BULK AT MOST 1048576: true; the input reads as it did. -/
def dependFactsUptoRow : OpenClaim := { program := "ytekgndcflpklkaagreatdoor", sum := "60252432f398e4321b8bdd812b590eef8a180b9ea21eababcd0bb4d7cc1516e2", func := "annuitant/annuitantlaw25.DependFacts", spec := "dependFacts", inPlace := ["internal/bytealg.IndexByteString", "internal/bytealg.IndexString"], unfollowed := true, recurses := true, named := ["math/bits.overflowError", "annuitant/operation.argumentKinds", "internal/bytealg.MaxLen", "annuitant/calendar.lengths"], loops := true, plainKeys := false, apart := false, laid := [("annuitant/calendar.lengths", laid_annuitant_calendar_lengths), ("annuitant/operation.argumentKinds", laid_annuitant_operation_argumentKinds)], narrowed := true }
def DependFactsUptoSaid : Prop := dependFactsUptoRow.holds Tryz.pinned (OpenSpec.upto dependFactsSpec)

/-- 'annuitantlaw25.DependClauses', WHERE WHAT IT READS IS OF BULK AT MOST 1048576: true; the input reads as it did. -/
def dependClausesUptoRow : OpenClaim := { program := "ytekgndcflpklkaagreatdoor", sum := "60252432f398e4321b8bdd812b590eef8a180b9ea21eababcd0bb4d7cc1516e2", func := "annuitant/annuitantlaw25.DependClauses", spec := "dependClauses", inPlace := ["internal/bytealg.IndexByteString", "internal/bytealg.IndexString"], unfollowed := true, recurses := true, named := ["math/bits.overflowError", "annuitant/operation.argumentKinds", "internal/bytealg.MaxLen", "annuitant/calendar.lengths"], loops := true, plainKeys := false, apart := false, laid := [("annuitant/calendar.lengths", laid_annuitant_calendar_lengths), ("annuitant/operation.argumentKinds", laid_annuitant_operation_argumentKinds)], narrowed := true }
def DependClausesUptoSaid : Prop := dependClausesUptoRow.holds Tryz.pinned (OpenSpec.upto dependClausesSpec)

/-- 'annuitantlaw25.DependNews', WHERE WHAT IT READS IS OF BULK AT MOST 1048576: true; the input reads as it did. -/
def dependNewsUptoRow : OpenClaim := { program := "ytekgndcflpklkaagreatdoor", sum := "60252432f398e4321b8bdd812b590eef8a180b9ea21eababcd0bb4d7cc1516e2", func := "annuitant/annuitantlaw25.DependNews", spec := "dependNews", inPlace := ["internal/bytealg.IndexByteString", "internal/bytealg.IndexString"], unfollowed := true, recurses := true, named := ["math/bits.overflowError", "annuitant/operation.argumentKinds", "internal/bytealg.MaxLen", "annuitant/calendar.lengths"], loops := true, plainKeys := false, apart := false, laid := [("annuitant/calendar.lengths", laid_annuitant_calendar_lengths), ("annuitant/operation.argumentKinds", laid_annuitant_operation_argumentKinds)], narrowed := true }
def DependNewsUptoSaid : Prop := dependNewsUptoRow.holds Tryz.pinned (OpenSpec.upto dependNewsSpec)

/-- 'annuitantlaw25.DependRows', WHERE WHAT IT READS IS OF BULK AT MOST 1048576: true; the input reads as it did. -/
def dependRowsUptoRow : OpenClaim := { program := "ytekgndcflpklkaagreatdoor", sum := "60252432f398e4321b8bdd812b590eef8a180b9ea21eababcd0bb4d7cc1516e2", func := "annuitant/annuitantlaw25.DependRows", spec := "dependRows", inPlace := ["slices.overlaps[annuitant/api.Row]", "internal/bytealg.IndexByteString", "internal/bytealg.IndexString"], unfollowed := true, recurses := true, named := ["math/bits.overflowError", "annuitant/operation.argumentKinds", "internal/bytealg.MaxLen", "annuitant/calendar.lengths"], loops := true, plainKeys := false, apart := false, laid := [("annuitant/calendar.lengths", laid_annuitant_calendar_lengths), ("annuitant/operation.argumentKinds", laid_annuitant_operation_argumentKinds)], narrowed := true }
def DependRowsUptoSaid : Prop := dependRowsUptoRow.holds Tryz.pinned (OpenSpec.upto dependRowsSpec)

end Rows
end Go.Proofs.YtekgndcflpklkaaGreatDoor
