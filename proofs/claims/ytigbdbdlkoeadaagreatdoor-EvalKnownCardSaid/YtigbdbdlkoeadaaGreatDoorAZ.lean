/-
  Part of the proof.
-/
import Derived.Test.YtigbdbdlkoeadaaGreatDoorAY
set_option linter.all false
namespace Go.Proofs.YtigbdbdlkoeadaaGreatDoor
section
open Go.Dm Go.Proofs
theorem asg:Tryz.pinned.checked.prog.funcNamed Rows.evalKnownRow.func=some 3:=by kernel_rfl
theorem ash:Tryz.f3.isInstance Tryz.pinned.checked.prog Rows.evalKnownRow.origin Rows.evalKnownRow.targs:=hO (by kernel_rfl)
theorem asi:Tryz.f3.isWrapper Tryz.pinned.checked.prog Rows.evalKnownRow.wrapper Rows.evalKnownRow.mainSum:=by unfold Func.isWrapper;first|(rw[E4 (by decide +kernel)];kernel_rfl)|(rw[E1 (by decide +kernel)];exact⟨rfl,rfl⟩)
end
end Go.Proofs.YtigbdbdlkoeadaaGreatDoor
