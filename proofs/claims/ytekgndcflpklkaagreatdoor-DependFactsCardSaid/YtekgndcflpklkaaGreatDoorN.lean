/-
  Part of the proof.
-/
import Derived.Test.YtekgndcflpklkaaGreatDoorM
set_option linter.all false
namespace Go.Proofs.YtekgndcflpklkaaGreatDoor
section
open Go.Dm Go.Proofs
def anI:(Rows.dependFactsRow.unfollowed==Tryz.prog.unfollowed 3)=true:=by kernel_rfl
end
end Go.Proofs.YtekgndcflpklkaaGreatDoor
