/-
  Part of the proof.
-/
import Derived.Test.YtigbdbdlkoeadaaGreatDoorAU
set_option linter.all false
namespace Go.Proofs.YtigbdbdlkoeadaaGreatDoor
section
open Go.Dm Go.Proofs
def apj:(Rows.evalUniqueRow.unfollowed==Tryz.prog.unfollowed 6)=true:=by kernel_rfl
end
end Go.Proofs.YtigbdbdlkoeadaaGreatDoor
