/-
  Part of the proof.
-/
import Derived.Test.YtigbdbdlkoeadaaGreatDoorAY
set_option linter.all false
namespace Go.Proofs.YtigbdbdlkoeadaaGreatDoor
section
open Go.Dm Go.Proofs
theorem asp:Tryz.pinned.checked.prog.funcNamed Rows.evalReadsRow.func=some 4:=by kernel_rfl
theorem asq:Tryz.f4.isInstance Tryz.pinned.checked.prog Rows.evalReadsRow.origin Rows.evalReadsRow.targs:=hO (by kernel_rfl)
theorem asr:Tryz.f4.isWrapper Tryz.pinned.checked.prog Rows.evalReadsRow.wrapper Rows.evalReadsRow.mainSum:=by unfold Func.isWrapper;first|(rw[E4 (by decide +kernel)];kernel_rfl)|(rw[E1 (by decide +kernel)];exact⟨rfl,rfl⟩)
end
end Go.Proofs.YtigbdbdlkoeadaaGreatDoor
