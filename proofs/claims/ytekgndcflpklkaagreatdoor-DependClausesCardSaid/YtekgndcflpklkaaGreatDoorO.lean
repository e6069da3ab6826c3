/-
  Part of the proof.
-/
import Derived.Test.YtekgndcflpklkaaGreatDoorN
set_option linter.all false
namespace Go.Proofs.YtekgndcflpklkaaGreatDoor
section
open Go.Dm Go.Proofs
def aoa:(Rows.dependClausesRow.recurses==Tryz.prog.recurses 4)=true:=by kernel_rfl
end
end Go.Proofs.YtekgndcflpklkaaGreatDoor
