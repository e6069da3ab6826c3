/-
  Part of the proof.
-/
import Derived.Test.YtekgndcflpklkaaGreatDoorP
set_option linter.all false
namespace Go.Proofs.YtekgndcflpklkaaGreatDoor
section
open Go.Dm Go.Proofs
def anD:joinedFacts Tryz.prog 3 Tryz.f3 Rows.dependFactsSpec Rows.dependFactsRow=true:=by unfold joinedFacts;rw[anH,anI,anJ,anK];kernel_rfl
end
end Go.Proofs.YtekgndcflpklkaaGreatDoor
