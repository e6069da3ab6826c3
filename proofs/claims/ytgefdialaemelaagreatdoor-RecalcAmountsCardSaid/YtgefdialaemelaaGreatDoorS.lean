/-
  Facts of the program that the row asks.
-/
import Derived.Test.YtgefdialaemelaaGreatDoorKa
namespace Go.Proofs.YtgefdialaemelaaGreatDoor
open Go.Dm Go.Proofs
theorem closed3:joinedFacts Tryz.prog 3 Tryz.f3 Rows.recalcAmountsSpec Rows.recalcAmountsRow=true:=by kernel_rfl
end Go.Proofs.YtgefdialaemelaaGreatDoor
