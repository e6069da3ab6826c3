/-
  Part of the proof.
-/
import Derived.Test.YtekgndcflpklkaaGreatDoorQ
set_option linter.all false
namespace Go.Proofs.YtekgndcflpklkaaGreatDoor
section
open Go.Dm Go.Proofs
theorem an5:Tryz.pinned.checked.prog.funcNamed Rows.dependClausesRow.func=some 4:=by kernel_rfl
theorem an6:Tryz.f4.isInstance Tryz.pinned.checked.prog Rows.dependClausesRow.origin Rows.dependClausesRow.targs:=gA (by kernel_rfl)
theorem an7:Tryz.f4.isWrapper Tryz.pinned.checked.prog Rows.dependClausesRow.wrapper Rows.dependClausesRow.mainSum:=by unfold Func.isWrapper;first|(rw[G1 (by decide +kernel)];kernel_rfl)|(rw[E1 (by decide +kernel)];exact⟨rfl,rfl⟩)
end
end Go.Proofs.YtekgndcflpklkaaGreatDoor
