/-
  Part of the proof.
-/
import Derived.Test.YtigbdbdlkoeadaaGreatDoorAW
set_option linter.all false
namespace Go.Proofs.YtigbdbdlkoeadaaGreatDoor
section
open Go.Dm Go.Proofs
def asn:(Rows.evalKnownRow.named==Tryz.prog.varsNamed 3)=true:=by kernel_rfl
end
end Go.Proofs.YtigbdbdlkoeadaaGreatDoor
