/-
  Part of the proof.
-/
import Derived.Test.YtigbdbdlkoeadaaGreatDoorAY
set_option linter.all false
namespace Go.Proofs.YtigbdbdlkoeadaaGreatDoor
section
open Go.Dm Go.Proofs
theorem aue:Tryz.pinned.checked.prog.funcNamed Rows.evalLazyRow.func=some 5:=by kernel_rfl
theorem auf:Tryz.f5.isInstance Tryz.pinned.checked.prog Rows.evalLazyRow.origin Rows.evalLazyRow.targs:=hO (by kernel_rfl)
theorem aug:Tryz.f5.isWrapper Tryz.pinned.checked.prog Rows.evalLazyRow.wrapper Rows.evalLazyRow.mainSum:=by unfold Func.isWrapper;first|(rw[E4 (by decide +kernel)];kernel_rfl)|(rw[E1 (by decide +kernel)];exact⟨rfl,rfl⟩)
end
end Go.Proofs.YtigbdbdlkoeadaaGreatDoor
