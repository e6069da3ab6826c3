/-
  Part of the proof.
-/
import Derived.Test.YtigbdbdlkoeadaaGreatDoorAM
set_option linter.all false
namespace Go.Proofs.YtigbdbdlkoeadaaGreatDoor.Dv
section
open Go.Dm
set_option maxRecDepth 1000000
def aky:dh VS 50 9 [nh [na,nc,qx,ne],.im 11 [qy 50,nj],nq,.i .i64 100,.i .i64 0]=.ret SD:=by kernel_rfl
end
end Go.Proofs.YtigbdbdlkoeadaaGreatDoor.Dv
