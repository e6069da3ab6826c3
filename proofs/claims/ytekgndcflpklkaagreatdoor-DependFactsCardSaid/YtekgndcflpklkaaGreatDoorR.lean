/-
  Part of the proof.
-/
import Derived.Test.YtekgndcflpklkaaGreatDoorQ
set_option linter.all false
namespace Go.Proofs.YtekgndcflpklkaaGreatDoor
section
open Go.Dm Go.Proofs
theorem anE:Tryz.pinned.checked.prog.funcNamed Rows.dependFactsRow.func=some 3:=by kernel_rfl
theorem anF:Tryz.f3.isInstance Tryz.pinned.checked.prog Rows.dependFactsRow.origin Rows.dependFactsRow.targs:=gA (by kernel_rfl)
theorem anG:Tryz.f3.isWrapper Tryz.pinned.checked.prog Rows.dependFactsRow.wrapper Rows.dependFactsRow.mainSum:=by unfold Func.isWrapper;first|(rw[G1 (by decide +kernel)];kernel_rfl)|(rw[E1 (by decide +kernel)];exact⟨rfl,rfl⟩)
end
end Go.Proofs.YtekgndcflpklkaaGreatDoor
