/-
  Part of the proof.
-/
import Derived.Test.YtigbdbdlkoeadaaGreatDoorAY
set_option linter.all false
namespace Go.Proofs.YtigbdbdlkoeadaaGreatDoor
section
open Go.Dm Go.Proofs
theorem apf:Tryz.pinned.checked.prog.funcNamed Rows.evalUniqueRow.func=some 6:=by kernel_rfl
theorem apg:Tryz.f6.isInstance Tryz.pinned.checked.prog Rows.evalUniqueRow.origin Rows.evalUniqueRow.targs:=hO (by kernel_rfl)
theorem aph:Tryz.f6.isWrapper Tryz.pinned.checked.prog Rows.evalUniqueRow.wrapper Rows.evalUniqueRow.mainSum:=by unfold Func.isWrapper;first|(rw[E4 (by decide +kernel)];kernel_rfl)|(rw[E1 (by decide +kernel)];exact⟨rfl,rfl⟩)
end
end Go.Proofs.YtigbdbdlkoeadaaGreatDoor
