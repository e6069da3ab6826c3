/-
  Part of the proof.
-/
import Derived.Test.YtigbdbdlkoeadaaGreatDoorAT
set_option linter.all false
namespace Go.Proofs.YtigbdbdlkoeadaaGreatDoor
section
open Go.Dm Go.Proofs
def api:(Rows.evalUniqueRow.inPlace==Tryz.prog.inPlace 6)=true:=by kernel_rfl
end
end Go.Proofs.YtigbdbdlkoeadaaGreatDoor
