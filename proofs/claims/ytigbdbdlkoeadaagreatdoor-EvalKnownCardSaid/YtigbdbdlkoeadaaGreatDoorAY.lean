/-
  Part of the proof.
-/
import Derived.Test.YtigbdbdlkoeadaaGreatDoorAX
set_option linter.all false
namespace Go.Proofs.YtigbdbdlkoeadaaGreatDoor
section
open Go.Dm Go.Proofs
def asf:joinedFacts Tryz.prog 3 Tryz.f3 Rows.evalKnownSpec Rows.evalKnownRow=true:=by unfold joinedFacts;rw[asj,asl,asm,asn];kernel_rfl
end
end Go.Proofs.YtigbdbdlkoeadaaGreatDoor
