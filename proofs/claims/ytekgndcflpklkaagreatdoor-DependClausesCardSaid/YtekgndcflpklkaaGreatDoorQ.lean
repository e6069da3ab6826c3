/-
  Part of the proof.
-/
import Derived.Test.YtekgndcflpklkaaGreatDoorP
set_option linter.all false
namespace Go.Proofs.YtekgndcflpklkaaGreatDoor
section
open Go.Dm Go.Proofs
def an4:joinedFacts Tryz.prog 4 Tryz.f4 Rows.dependClausesSpec Rows.dependClausesRow=true:=by unfold joinedFacts;rw[an8,an9,aoa,aob];kernel_rfl
end
end Go.Proofs.YtekgndcflpklkaaGreatDoor
