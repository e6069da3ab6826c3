/-
  Part of the proof.
-/
import Derived.Test.YtigbdbdlkoeadaaGreatDoorAX
set_option linter.all false
namespace Go.Proofs.YtigbdbdlkoeadaaGreatDoor
section
open Go.Dm Go.Proofs
def ape:joinedFacts Tryz.prog 6 Tryz.f6 Rows.evalUniqueSpec Rows.evalUniqueRow=true:=by unfold joinedFacts;rw[api,apj,apk,apl];kernel_rfl
end
end Go.Proofs.YtigbdbdlkoeadaaGreatDoor
