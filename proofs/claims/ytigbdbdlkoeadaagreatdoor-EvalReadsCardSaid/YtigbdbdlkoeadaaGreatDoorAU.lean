/-
  Part of the proof.
-/
import Derived.Test.YtigbdbdlkoeadaaGreatDoorAT
set_option linter.all false
namespace Go.Proofs.YtigbdbdlkoeadaaGreatDoor
section
open Go.Dm Go.Proofs
def ass:(Rows.evalReadsRow.inPlace==Tryz.prog.inPlace 4)=true:=by kernel_rfl
end
end Go.Proofs.YtigbdbdlkoeadaaGreatDoor
