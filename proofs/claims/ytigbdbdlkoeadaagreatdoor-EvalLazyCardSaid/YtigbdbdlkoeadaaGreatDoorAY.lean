/-
  Part of the proof.
-/
import Derived.Test.YtigbdbdlkoeadaaGreatDoorAX
set_option linter.all false
namespace Go.Proofs.YtigbdbdlkoeadaaGreatDoor
section
open Go.Dm Go.Proofs
def aud:joinedFacts Tryz.prog 5 Tryz.f5 Rows.evalLazySpec Rows.evalLazyRow=true:=by unfold joinedFacts;rw[auh,aui,auj,auk];kernel_rfl
end
end Go.Proofs.YtigbdbdlkoeadaaGreatDoor
