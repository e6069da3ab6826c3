/-
  Part of the proof.
-/
import Derived.Test.YtekgndcflpklkaaGreatDoorO
set_option linter.all false
namespace Go.Proofs.YtekgndcflpklkaaGreatDoor
section
open Go.Dm Go.Proofs
def aob:(Rows.dependClausesRow.named==Tryz.prog.varsNamed 4)=true:=by kernel_rfl
end
end Go.Proofs.YtekgndcflpklkaaGreatDoor
