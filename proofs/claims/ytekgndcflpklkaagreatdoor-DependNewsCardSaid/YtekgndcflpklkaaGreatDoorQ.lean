/-
  Part of the proof.
-/
import Derived.Test.YtekgndcflpklkaaGreatDoorP
set_option linter.all false
namespace Go.Proofs.YtekgndcflpklkaaGreatDoor
section
open Go.Dm Go.Proofs
def anL:joinedFacts Tryz.prog 5 Tryz.f5 Rows.dependNewsSpec Rows.dependNewsRow=true:=by unfold joinedFacts;rw[anP,anQ,anR,anS];kernel_rfl
end
end Go.Proofs.YtekgndcflpklkaaGreatDoor
