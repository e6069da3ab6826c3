/-
  NARROWER THAN 'FOR EVERY INPUT', by the rows' own cells (each row's printed sentence says how): EvalKnown: loops, laid · EvalReads: loops, laid · EvalLazy: loops, laid · EvalUnique: loops, laid.
  DERIVED. THE GIVEN ROWS OF THIS SEAT. 4 by the template 'for every input the law returns true; each argument reads behind the call as it read before'; 0 by the template 'total and deterministic' (their statements: YtigbdbdlkoeadaaGreatDoorTotals.lean).
  GIVEN WITH THE SEED: the statements are not yours to turn. If you find one false, say at which input.
  Laid BY PROGRAM, IN A SANDBOX (cutbox-rows.mjs): the forced cells as the released guide's own fill.sh prints them over the translation 554010157539ceb0… (all of the seat's roots in one cut). By AI agents, Wed Nov 11 2026. No macro, syntax, notation, axiom, sorry.
-/
import Derived.Test.YtigbdbdlkoeadaaGreatDoorChecked
import GoSem.Claim
import GoSem.ClaimJoined
import GoSem.ClaimMapViews
import Derived.JoinedTies
import Derived.KernelRfl
namespace Go.Proofs.YtigbdbdlkoeadaaGreatDoor
/- THE CELL 'sum', in the pinned program and in every row, IS THE sha256 OF THE DUMP (.gsa) THAT YtigbdbdlkoeadaaGreatDoorProg.lean LOADS. Nothing in Lean hashes anything: it is a label: what it is worth is what the hold of that sum in a sandbox is worth. -/
noncomputable def Tryz.pinned : Pinned := { name := "ytigbdbdlkoeadaagreatdoor", sum := "554010157539ceb03b4131a0c080296b155700e63d96907083fc610082c56987", checked := Tryz.checked }
namespace Rows
def none {H : Type} : Left H := { results := [], args := [] }

/- WHAT THE LISTED PACKAGE-LEVEL VARIABLES READ AS WHEN THE CALL BEGINS. Each datum BY PROGRAM (the guide's laid-datum.mjs) off the statement by which the dump's own 'gosem.cut.vars' lays the variable. In a bare row this is a premise. The card (YtigbdbdlkoeadaaGreatDoorCards.lean) ties it to the program's text. -/
def laid_annuitant_calendar_lengths {H : Type} : DataW H := .agg [.lit (.int .i64 31), .lit (.int .i64 28), .lit (.int .i64 31), .lit (.int .i64 30), .lit (.int .i64 31), .lit (.int .i64 30), .lit (.int .i64 31), .lit (.int .i64 31), .lit (.int .i64 30), .lit (.int .i64 31), .lit (.int .i64 30), .lit (.int .i64 31)]
def laid_annuitant_operation_argumentKinds {H : Type} : DataW H := .agg [.lit (.string []), .lit (.string []), .lit (.string []), .lit (.string [52]), .lit (.string [52]), .lit (.string []), .lit (.string [50, 32, 50, 50]), .lit (.string [50, 50, 32, 51, 51, 32, 53, 53, 32, 54, 54, 32, 52, 53, 32, 52, 54]), .lit (.string [50, 50, 32, 51, 51, 32, 53, 53, 32, 54, 54, 32, 52, 52, 32, 52, 53, 32, 52, 54]), .lit (.string [50, 50, 32, 51, 50, 32, 50, 51]), .lit (.string [50, 50, 32, 51, 51, 32, 51, 50]), .lit (.string [50, 50, 32, 51, 51, 32, 52, 52, 32, 53, 53, 32, 54, 54]), .lit (.string [50, 50, 32, 51, 51, 32, 52, 52, 32, 53, 53, 32, 54, 54]), .lit (.string [50, 50, 32, 51, 51, 32, 52, 52, 32, 53, 53, 32, 54, 54]), .lit (.string [49, 49, 32, 50, 50, 32, 51, 51, 32, 52, 52, 32, 53, 53, 32, 54, 54]), .lit (.string []), .lit (.string []), .lit (.string [49]), .lit (.string []), .lit (.string [50, 50, 32, 51, 51]), .lit (.string [52, 52]), .lit (.string [52, 52]), .lit (.string [52, 52, 54]), .lit (.string [52, 52]), .lit (.string [50]), .lit (.string [50, 32, 51, 32, 53, 32, 54]), .lit (.string [52])]

/-- 'annuitantlaw18.EvalKnown': WHATEVER THE INPUT: true; the input reads as it did. -/
def evalKnownSpec : ChangeSpec := { name := "evalKnown", fn := fun _ => fun
  | [d1, d2, d3, d4, d5] => { results := [.lit (.bool true)], args := [d1, d2, d3, d4, d5] }
  | _ => none }
def evalKnownRow : OpenClaim := { program := "ytigbdbdlkoeadaagreatdoor", sum := "554010157539ceb03b4131a0c080296b155700e63d96907083fc610082c56987", func := "annuitant/annuitantlaw18.EvalKnown", spec := "evalKnown", inPlace := ["internal/bytealg.IndexByteString", "internal/bytealg.IndexString"], unfollowed := true, recurses := true, named := ["math/bits.overflowError", "annuitant/operation.argumentKinds", "internal/bytealg.MaxLen", "annuitant/calendar.lengths"], loops := true, plainKeys := false, apart := false, laid := [("annuitant/calendar.lengths", laid_annuitant_calendar_lengths), ("annuitant/operation.argumentKinds", laid_annuitant_operation_argumentKinds)] }
def EvalKnownSaid : Prop := evalKnownRow.holds Tryz.pinned (OpenSpec.ofChange evalKnownSpec)

/-- ITS FALSE NEIGHBOUR: 'it returns false'. Refute it at one input. -/
def evalKnownWrong : ChangeSpec := { name := "evalKnown", fn := fun _ => fun
  | [d1, d2, d3, d4, d5] => { results := [.lit (.bool false)], args := [d1, d2, d3, d4, d5] }
  | _ => none }
def EvalKnownWrongFalsely : Prop := evalKnownRow.holds Tryz.pinned (OpenSpec.ofChange evalKnownWrong)

/-- 'annuitantlaw18.EvalReads': WHATEVER THE INPUT: true; the input reads as it did. -/
def evalReadsSpec : ChangeSpec := { name := "evalReads", fn := fun _ => fun
  | [d1, d2, d3, d4, d5] => { results := [.lit (.bool true)], args := [d1, d2, d3, d4, d5] }
  | _ => none }
def evalReadsRow : OpenClaim := { program := "ytigbdbdlkoeadaagreatdoor", sum := "554010157539ceb03b4131a0c080296b155700e63d96907083fc610082c56987", func := "annuitant/annuitantlaw18.EvalReads", spec := "evalReads", inPlace := ["internal/bytealg.IndexByteString", "internal/bytealg.IndexString"], unfollowed := true, recurses := true, named := ["math/bits.overflowError", "annuitant/operation.argumentKinds", "internal/bytealg.MaxLen", "annuitant/calendar.lengths"], loops := true, plainKeys := false, apart := false, laid := [("annuitant/calendar.lengths", laid_annuitant_calendar_lengths), ("annuitant/operation.argumentKinds", laid_annuitant_operation_argumentKinds)] }
def EvalReadsSaid : Prop := evalReadsRow.holds Tryz.pinned (OpenSpec.ofChange evalReadsSpec)

/-- ITS FALSE NEIGHBOUR: 'it returns false'. Refute it at one input. -/
def evalReadsWrong : ChangeSpec := { name := "evalReads", fn := fun _ => fun
  | [d1, d2, d3, d4, d5] => { results := [.lit (.bool false)], args := [d1, d2, d3, d4, d5] }
  | _ => none }
def EvalReadsWrongFalsely : Prop := evalReadsRow.holds Tryz.pinned (OpenSpec.ofChange evalReadsWrong)

/-- 'annuitantlaw18.EvalLazy': WHATEVER THE INPUT: true; the input reads as it did. -/
def evalLazySpec : ChangeSpec := { name := "evalLazy", fn := fun _ => fun
  | [d1, d2, d3, d4, d5] => { results := [.lit (.bool true)], args := [d1, d2, d3, d4, d5] }
  | _ => none }
def evalLazyRow : OpenClaim := { program := "ytigbdbdlkoeadaagreatdoor", sum := "554010157539ceb03b4131a0c080296b155700e63d96907083fc610082c56987", func := "annuitant/annuitantlaw18.EvalLazy", spec := "evalLazy", inPlace := ["internal/bytealg.IndexByteString", "internal/bytealg.IndexString"], unfollowed := true, recurses := true, named := ["math/bits.overflowError", "annuitant/operation.argumentKinds", "internal/bytealg.MaxLen", "annuitant/calendar.lengths"], loops := true, plainKeys := false, apart := false, laid := [("annuitant/calendar.lengths", laid_annuitant_calendar_lengths), ("annuitant/operation.argumentKinds", laid_annuitant_operation_argumentKinds)] }
def EvalLazySaid : Prop := evalLazyRow.holds Tryz.pinned (OpenSpec.ofChange evalLazySpec)

/-- ITS FALSE NEIGHBOUR: 'it returns false'. Refute it at one input. -/
def evalLazyWrong : ChangeSpec := { name := "evalLazy", fn := fun _ => fun
  | [d1, d2, d3, d4, d5] => { results := [.lit (.bool false)], args := [d1, d2, d3, d4, d5] }
  | _ => none }
def EvalLazyWrongFalsely : Prop := evalLazyRow.holds Tryz.pinned (OpenSpec.ofChange evalLazyWrong)

/-- 'annuitantlaw18.EvalUnique': WHATEVER THE INPUT: true; the input reads as it did. -/
def evalUniqueSpec : ChangeSpec := { name := "evalUnique", fn := fun _ => fun
  | [d1, d2, d3, d4, d5] => { results := [.lit (.bool true)], args := [d1, d2, d3, d4, d5] }
  | _ => none }
def evalUniqueRow : OpenClaim := { program := "ytigbdbdlkoeadaagreatdoor", sum := "554010157539ceb03b4131a0c080296b155700e63d96907083fc610082c56987", func := "annuitant/annuitantlaw18.EvalUnique", spec := "evalUnique", inPlace := ["internal/bytealg.IndexByteString", "internal/bytealg.IndexString"], unfollowed := true, recurses := true, named := ["math/bits.overflowError", "annuitant/operation.argumentKinds", "internal/bytealg.MaxLen", "annuitant/calendar.lengths"], loops := true, plainKeys := false, apart := false, laid := [("annuitant/calendar.lengths", laid_annuitant_calendar_lengths), ("annuitant/operation.argumentKinds", laid_annuitant_operation_argumentKinds)] }
def EvalUniqueSaid : Prop := evalUniqueRow.holds Tryz.pinned (OpenSpec.ofChange evalUniqueSpec)

/-- ITS FALSE NEIGHBOUR: 'it returns false'. Refute it at one input. -/
def evalUniqueWrong : ChangeSpec := { name := "evalUnique", fn := fun _ => fun
  | [d1, d2, d3, d4, d5] => { results := [.lit (.bool false)], args := [d1, d2, d3, d4, d5] }
  | _ => none }
def EvalUniqueWrongFalsely : Prop := evalUniqueRow.holds Tryz.pinned (OpenSpec.ofChange evalUniqueWrong)

/- THE SECOND FORM. 'bulk': how many values and letters a reading holds, each counted each time it is reached (what is shared counts as often as it is met; a slice's spare places count too). A statement '..UptoSaid' is the law's where the arguments, and the package variables that the reading takes, are together of bulk at most 1048576: NARROWER than '..Said'. Prove '..Said' where nothing that the law and all that it calls make is longer than what came in: it says more and counts as full. Else prove '..UptoSaid'. A law counts once. -/
mutual
def uptoBulk {H : Type} : DataW H → Nat
  | .lit (.string bytes) => bytes.length + 1
  | .lit _ => 1
  | .nil => 1
  | .ptr d => uptoBulk d + 1
  | .slice elems spare => uptoBulkAll elems + uptoBulkAll spare + 1
  | .agg parts => uptoBulkAll parts + 1
  | .iface _ d => uptoBulk d + 1
  | .map entries => uptoBulkEntries entries + 1
  | .held _ => 1
def uptoBulkAll {H : Type} : List (DataW H) → Nat
  | [] => 0
  | d :: r => uptoBulk d + uptoBulkAll r
def uptoBulkEntries {H : Type} : List (Lit × DataW H) → Nat
  | [] => 0
  | x :: r => uptoBulkEntry x + uptoBulkEntries r
def uptoBulkEntry {H : Type} : Lit × DataW H → Nat
  | (.string bytes, d) => bytes.length + uptoBulk d + 1
  | (_, d) => uptoBulk d + 1
 end
def uptoSmall : (H : Type) → List (DataW H) → Bool := fun _ ds => decide (uptoBulkAll ds ≤ 1048576)
def OpenSpec.upto (s : _root_.Go.ChangeSpec) : _root_.Go.OpenSpec := { _root_.Go.OpenSpec.ofChange s with cond := some uptoSmall }

/-- 'annuitantlaw18.EvalKnown', WHERE WHAT IT READS IS OF BULK AT MOST 1048576: true; the input reads as it did. -/
def evalKnownUptoRow : OpenClaim := { program := "ytigbdbdlkoeadaagreatdoor", sum := "554010157539ceb03b4131a0c080296b155700e63d96907083fc610082c56987", func := "annuitant/annuitantlaw18.EvalKnown", spec := "evalKnown", inPlace := ["internal/bytealg.IndexByteString", "internal/bytealg.IndexString"], unfollowed := true, recurses := true, named := ["math/bits.overflowError", "annuitant/operation.argumentKinds", "internal/bytealg.MaxLen", "annuitant/calendar.lengths"], loops := true, plainKeys := false, apart := false, laid := [("annuitant/calendar.lengths", laid_annuitant_calendar_lengths), ("annuitant/operation.argumentKinds", laid_annuitant_operation_argumentKinds)], narrowed := true }
def EvalKnownUptoSaid : Prop := evalKnownUptoRow.holds Tryz.pinned (OpenSpec.upto evalKnownSpec)

/-- 'annuitantlaw18.EvalReads', WHERE WHAT IT READS IS OF BULK AT MOST 1048576: true; the input reads as it did. -/
def evalReadsUptoRow : OpenClaim := { program := "ytigbdbdlkoeadaagreatdoor", sum := "554010157539ceb03b4131a0c080296b155700e63d96907083fc610082c56987", func := "annuitant/annuitantlaw18.EvalReads", spec := "evalReads", inPlace := ["internal/bytealg.IndexByteString", "internal/bytealg.IndexString"], unfollowed := true, recurses := true, named := ["math/bits.overflowError", "annuitant/operation.argumentKinds", "internal/bytealg.MaxLen", "annuitant/calendar.lengths"], loops := true, plainKeys := false, apart := false, laid := [("annuitant/calendar.lengths", laid_annuitant_calendar_lengths), ("annuitant/operation.argumentKinds", laid_annuitant_operation_argumentKinds)], narrowed := true }
def EvalReadsUptoSaid : Prop := evalReadsUptoRow.holds Tryz.pinned (OpenSpec.upto evalReadsSpec)

/-- 'annuitantlaw18.EvalLazy', WHERE WHAT IT READS IS OF BULK AT MOST 1048576: true; the input reads as it did. -/
def evalLazyUptoRow : OpenClaim := { program := "ytigbdbdlkoeadaagreatdoor", sum := "554010157539ceb03b4131a0c080296b155700e63d96907083fc610082c56987", func := "annuitant/annuitantlaw18.EvalLazy", spec := "evalLazy", inPlace := ["internal/bytealg.IndexByteString", "internal/bytealg.IndexString"], unfollowed := true, recurses := true, named := ["math/bits.overflowError", "annuitant/operation.argumentKinds", "internal/bytealg.MaxLen", "annuitant/calendar.lengths"], loops := true, plainKeys := false, apart := false, laid := [("annuitant/calendar.lengths", laid_annuitant_calendar_lengths), ("annuitant/operation.argumentKinds", laid_annuitant_operation_argumentKinds)], narrowed := true }
def EvalLazyUptoSaid : Prop := evalLazyUptoRow.holds Tryz.pinned (OpenSpec.upto evalLazySpec)

/-- 'annuitantlaw18.EvalUnique', WHERE WHAT IT READS IS OF BULK AT MOST 1048576: true; the input reads as it did. -/
def evalUniqueUptoRow : OpenClaim := { program := "ytigbdbdlkoeadaagreatdoor", sum := "554010157539ceb03b4131a0c080296b155700e63d96907083fc610082c56987", func := "annuitant/annuitantlaw18.EvalUnique", spec := "evalUnique", inPlace := ["internal/bytealg.IndexByteString", "internal/bytealg.IndexString"], unfollowed := true, recurses := true, named := ["math/bits.overflowError", "annuitant/operation.argumentKinds", "internal/bytealg.MaxLen", "annuitant/calendar.lengths"], loops := true, plainKeys := false, apart := false, laid := [("annuitant/calendar.lengths", laid_annuitant_calendar_lengths), ("annuitant/operation.argumentKinds", laid_annuitant_operation_argumentKinds)], narrowed := true }
def EvalUniqueUptoSaid : Prop := evalUniqueUptoRow.holds Tryz.pinned (OpenSpec.upto evalUniqueSpec)

end Rows
end Go.Proofs.YtigbdbdlkoeadaaGreatDoor
