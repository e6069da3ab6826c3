/-
  Part of the proof.
-/
import Derived.Test.YtigbdbdlkoeadaaGreatDoorAX
set_option linter.all false
namespace Go.Proofs.YtigbdbdlkoeadaaGreatDoor
section
open Go.Dm Go.Proofs
def aso:joinedFacts Tryz.prog 4 Tryz.f4 Rows.evalReadsSpec Rows.evalReadsRow=true:=by unfold joinedFacts;rw[ass,ast,asu,asv];kernel_rfl
end
end Go.Proofs.YtigbdbdlkoeadaaGreatDoor
