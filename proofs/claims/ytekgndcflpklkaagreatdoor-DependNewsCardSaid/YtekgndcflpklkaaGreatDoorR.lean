/-
  Part of the proof.
-/
import Derived.Test.YtekgndcflpklkaaGreatDoorQ
set_option linter.all false
namespace Go.Proofs.YtekgndcflpklkaaGreatDoor
section
open Go.Dm Go.Proofs
theorem anM:Tryz.pinned.checked.prog.funcNamed Rows.dependNewsRow.func=some 5:=by kernel_rfl
theorem anN:Tryz.f5.isInstance Tryz.pinned.checked.prog Rows.dependNewsRow.origin Rows.dependNewsRow.targs:=gA (by kernel_rfl)
theorem anO:Tryz.f5.isWrapper Tryz.pinned.checked.prog Rows.dependNewsRow.wrapper Rows.dependNewsRow.mainSum:=by unfold Func.isWrapper;first|(rw[G1 (by decide +kernel)];kernel_rfl)|(rw[E1 (by decide +kernel)];exact⟨rfl,rfl⟩)
end
end Go.Proofs.YtekgndcflpklkaaGreatDoor
