/-
  NARROWER THAN 'FOR EVERY INPUT', by the rows' own cells (each row's printed sentence says how): DependTells: loops · DependUnion: loops · DependMerges: loops.
  DERIVED. THE GIVEN ROWS OF THIS SEAT. 4 by the template 'for every input the law returns true; each argument reads behind the call as it read before'; 0 by the template 'total and deterministic' (their statements: YtkogdbgccjmaoaaTotals.lean).
  GIVEN WITH THE SEED: the statements are not yours to turn. If you find one false, say at which input.
  Laid BY PROGRAM, IN A SANDBOX (cutbox-rows.mjs): the forced cells as the released guide's own fill.sh prints them over the translation 7afef049bda2a1b8… (all of the seat's roots in one cut). By AI agents, Wed Nov 11 2026. No macro, syntax, notation, axiom, sorry.
-/
import Derived.Test.YtkogdbgccjmaoaaChecked
import GoSem.Claim
import GoSem.ClaimJoined
import GoSem.ClaimMapViews
import Derived.JoinedTies
import Derived.KernelRfl
namespace Go.Proofs.Ytkogdbgccjmaoaa
/- THE CELL 'sum', in the pinned program and in every row, IS THE sha256 OF THE DUMP (.gsa) THAT YtkogdbgccjmaoaaProg.lean LOADS. Nothing in Lean hashes anything: it is a label: what it is worth is what the hold of that sum in a sandbox is worth. -/
noncomputable def Try.pinned : Pinned := { name := "ytkogdbgccjmaoaa", sum := "7afef049bda2a1b82a972b37c714d492de12012fee04fb4ac2edbd09094629f0", checked := Try.checked }
namespace Rows
def none {H : Type} : Left H := { results := [], args := [] }

/-- 'annuitantlaw25.DependTells': WHATEVER THE INPUT: true; the input reads as it did. -/
def dependTellsSpec : ChangeSpec := { name := "dependTells", fn := fun _ => fun
  | [d1, d2, d3, d4, d5, d6] => { results := [.lit (.bool true)], args := [d1, d2, d3, d4, d5, d6] }
  | _ => none }
def dependTellsRow : OpenClaim := { program := "ytkogdbgccjmaoaa", sum := "7afef049bda2a1b82a972b37c714d492de12012fee04fb4ac2edbd09094629f0", func := "annuitant/annuitantlaw25.DependTells", spec := "dependTells", unfollowed := true, recurses := true, loops := true, plainKeys := false, apart := false }
def DependTellsSaid : Prop := dependTellsRow.holds Try.pinned (OpenSpec.ofChange dependTellsSpec)

/-- ITS FALSE NEIGHBOUR: 'it returns false'. Refute it at one input. -/
def dependTellsWrong : ChangeSpec := { name := "dependTells", fn := fun _ => fun
  | [d1, d2, d3, d4, d5, d6] => { results := [.lit (.bool false)], args := [d1, d2, d3, d4, d5, d6] }
  | _ => none }
def DependTellsWrongFalsely : Prop := dependTellsRow.holds Try.pinned (OpenSpec.ofChange dependTellsWrong)

/-- 'annuitantlaw25.DependUnion': WHATEVER THE INPUT: true; the input reads as it did. -/
def dependUnionSpec : ChangeSpec := { name := "dependUnion", fn := fun _ => fun
  | [d1, d2, d3, d4, d5, d6, d7] => { results := [.lit (.bool true)], args := [d1, d2, d3, d4, d5, d6, d7] }
  | _ => none }
def dependUnionRow : OpenClaim := { program := "ytkogdbgccjmaoaa", sum := "7afef049bda2a1b82a972b37c714d492de12012fee04fb4ac2edbd09094629f0", func := "annuitant/annuitantlaw25.DependUnion", spec := "dependUnion", unfollowed := true, recurses := true, loops := true, plainKeys := false, apart := false }
def DependUnionSaid : Prop := dependUnionRow.holds Try.pinned (OpenSpec.ofChange dependUnionSpec)

/-- ITS FALSE NEIGHBOUR: 'it returns false'. Refute it at one input. -/
def dependUnionWrong : ChangeSpec := { name := "dependUnion", fn := fun _ => fun
  | [d1, d2, d3, d4, d5, d6, d7] => { results := [.lit (.bool false)], args := [d1, d2, d3, d4, d5, d6, d7] }
  | _ => none }
def DependUnionWrongFalsely : Prop := dependUnionRow.holds Try.pinned (OpenSpec.ofChange dependUnionWrong)

/-- 'annuitantlaw25.DependMerges': WHATEVER THE INPUT: true; the input reads as it did. -/
def dependMergesSpec : ChangeSpec := { name := "dependMerges", fn := fun _ => fun
  | [d1, d2, d3, d4, d5, d6] => { results := [.lit (.bool true)], args := [d1, d2, d3, d4, d5, d6] }
  | _ => none }
def dependMergesRow : OpenClaim := { program := "ytkogdbgccjmaoaa", sum := "7afef049bda2a1b82a972b37c714d492de12012fee04fb4ac2edbd09094629f0", func := "annuitant/annuitantlaw25.DependMerges", spec := "dependMerges", unfollowed := true, recurses := true, loops := true, plainKeys := false, apart := false }
def DependMergesSaid : Prop := dependMergesRow.holds Try.pinned (OpenSpec.ofChange dependMergesSpec)

/-- ITS FALSE NEIGHBOUR: 'it returns false'. Refute it at one input. -/
def dependMergesWrong : ChangeSpec := { name := "dependMerges", fn := fun _ => fun
  | [d1, d2, d3, d4, d5, d6] => { results := [.lit (.bool false)], args := [d1, d2, d3, d4, d5, d6] }
  | _ => none }
def DependMergesWrongFalsely : Prop := dependMergesRow.holds Try.pinned (OpenSpec.ofChange dependMergesWrong)

/-- 'annuitantlaw25.DependDays': WHATEVER THE INPUT: true; the input reads as it did. -/
def dependDaysSpec : ChangeSpec := { name := "dependDays", fn := fun _ => fun
  | [d1, d2, d3] => { results := [.lit (.bool true)], args := [d1, d2, d3] }
  | _ => none }
def dependDaysRow : OpenClaim := { program := "ytkogdbgccjmaoaa", sum := "7afef049bda2a1b82a972b37c714d492de12012fee04fb4ac2edbd09094629f0", func := "annuitant/annuitantlaw25.DependDays", spec := "dependDays", unfollowed := true, recurses := true, plainKeys := false, apart := false }
def DependDaysSaid : Prop := dependDaysRow.holds Try.pinned (OpenSpec.ofChange dependDaysSpec)

/-- ITS FALSE NEIGHBOUR: 'it returns false'. Refute it at one input. -/
def dependDaysWrong : ChangeSpec := { name := "dependDays", fn := fun _ => fun
  | [d1, d2, d3] => { results := [.lit (.bool false)], args := [d1, d2, d3] }
  | _ => none }
def DependDaysWrongFalsely : Prop := dependDaysRow.holds Try.pinned (OpenSpec.ofChange dependDaysWrong)

/- THE SECOND FORM. 'bulk': how many values and letters a reading holds, each counted each time it is reached (what is shared counts as often as it is met; a slice's spare places count too). A statement '..UptoSaid' is the law's where the arguments, and the package variables that the reading takes, are together of bulk at most 1048576: NARROWER than '..Said'. Prove '..Said' where nothing that the law and all that it calls make is longer than what came in: it says more and counts as full. Else prove '..UptoSaid'. A law counts once. -/
mutual
def uptoBulk {H : Type} : DataW H → Nat
  | .lit (.string bytes) => bytes.length + 1
  | .lit _ => 1
  | .nil => 1
  | .ptr d => uptoBulk d + 1
  | .slice elems spare => uptoBulkAll elems + uptoBulkAll spare + 1
  | .agg parts => uptoBulkAll parts + 1
  | .iface _ d => uptoBulk d + 1
  | .map entries => uptoBulkEntries entries + 1
  | .held _ => 1
def uptoBulkAll {H : Type} : List (DataW H) → Nat
  | [] => 0
  | d :: r => uptoBulk d + uptoBulkAll r
def uptoBulkEntries {H : Type} : List (Lit × DataW H) → Nat
  | [] => 0
  | x :: r => uptoBulkEntry x + uptoBulkEntries r
def uptoBulkEntry {H : Type} : Lit × DataW H → Nat
  | (.string bytes, d) => bytes.length + uptoBulk d + 1
  | (_, d) => uptoBulk d + 1
 end
def uptoSmall : (H : Type) → List (DataW H) → Bool := fun _ ds => decide (uptoBulkAll ds ≤ 1048576)
def OpenSpec.upto (s : _root_.Go.ChangeSpec) : _root_.Go.OpenSpec := { _root_.Go.OpenSpec.ofChange s with cond := some uptoSmall }

/-- 'annuitantlaw25.DependTells', WHERE WHAT IT READS IS OF BULK AT MOST 1048576: true; the input reads as it did. -/
def dependTellsUptoRow : OpenClaim := { program := "ytkogdbgccjmaoaa", sum := "7afef049bda2a1b82a972b37c714d492de12012fee04fb4ac2edbd09094629f0", func := "annuitant/annuitantlaw25.DependTells", spec := "dependTells", unfollowed := true, recurses := true, loops := true, plainKeys := false, apart := false, narrowed := true }
def DependTellsUptoSaid : Prop := dependTellsUptoRow.holds Try.pinned (OpenSpec.upto dependTellsSpec)

/-- 'annuitantlaw25.DependUnion', WHERE WHAT IT READS IS OF BULK AT MOST 1048576: true; the input reads as it did. -/
def dependUnionUptoRow : OpenClaim := { program := "ytkogdbgccjmaoaa", sum := "7afef049bda2a1b82a972b37c714d492de12012fee04fb4ac2edbd09094629f0", func := "annuitant/annuitantlaw25.DependUnion", spec := "dependUnion", unfollowed := true, recurses := true, loops := true, plainKeys := false, apart := false, narrowed := true }
def DependUnionUptoSaid : Prop := dependUnionUptoRow.holds Try.pinned (OpenSpec.upto dependUnionSpec)

/-- 'annuitantlaw25.DependMerges', WHERE WHAT IT READS IS OF BULK AT MOST 1048576: true; the input reads as it did. -/
def dependMergesUptoRow : OpenClaim := { program := "ytkogdbgccjmaoaa", sum := "7afef049bda2a1b82a972b37c714d492de12012fee04fb4ac2edbd09094629f0", func := "annuitant/annuitantlaw25.DependMerges", spec := "dependMerges", unfollowed := true, recurses := true, loops := true, plainKeys := false, apart := false, narrowed := true }
def DependMergesUptoSaid : Prop := dependMergesUptoRow.holds Try.pinned (OpenSpec.upto dependMergesSpec)

/-- 'annuitantlaw25.DependDays', WHERE WHAT IT READS IS OF BULK AT MOST 1048576: true; the input reads as it did. -/
def dependDaysUptoRow : OpenClaim := { program := "ytkogdbgccjmaoaa", sum := "7afef049bda2a1b82a972b37c714d492de12012fee04fb4ac2edbd09094629f0", func := "annuitant/annuitantlaw25.DependDays", spec := "dependDays", unfollowed := true, recurses := true, plainKeys := false, apart := false, narrowed := true }
def DependDaysUptoSaid : Prop := dependDaysUptoRow.holds Try.pinned (OpenSpec.upto dependDaysSpec)

end Rows
end Go.Proofs.Ytkogdbgccjmaoaa
