/-
  Part of the proof.
-/
import Derived.Test.YtekgndcflpklkaaGreatDoorM
set_option linter.all false
namespace Go.Proofs.YtekgndcflpklkaaGreatDoor
section
open Go.Dm Go.Proofs
def an9:(Rows.dependClausesRow.unfollowed==Tryz.prog.unfollowed 4)=true:=by kernel_rfl
end
end Go.Proofs.YtekgndcflpklkaaGreatDoor
