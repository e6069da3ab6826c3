/-
  Part of the proof.
-/
import Derived.Test.YtekgndcflpklkaaGreatDoorL
set_option linter.all false
namespace Go.Proofs.YtekgndcflpklkaaGreatDoor
section
open Go.Dm Go.Proofs
def anP:(Rows.dependNewsRow.inPlace==Tryz.prog.inPlace 5)=true:=by kernel_rfl
end
end Go.Proofs.YtekgndcflpklkaaGreatDoor
