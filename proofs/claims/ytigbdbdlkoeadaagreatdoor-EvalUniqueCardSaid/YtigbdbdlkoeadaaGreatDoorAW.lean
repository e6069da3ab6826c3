/-
  Part of the proof.
-/
import Derived.Test.YtigbdbdlkoeadaaGreatDoorAV
set_option linter.all false
namespace Go.Proofs.YtigbdbdlkoeadaaGreatDoor
section
open Go.Dm Go.Proofs
def apk:(Rows.evalUniqueRow.recurses==Tryz.prog.recurses 6)=true:=by kernel_rfl
end
end Go.Proofs.YtigbdbdlkoeadaaGreatDoor
