/-
  The machine's code is the program's, function by function.
-/
import Derived.Test.YtnhbopeopppojaaGreatDoorProg
import Derived.KernelRfl
import Derived.Test.YtnhbopeopppojaaGreatDoorDa
import Derived.Test.YtnhbopeopppojaaGreatDoorV
import Derived.Test.YtnhbopeopppojaaGreatDoorW
namespace Go.Proofs.YtnhbopeopppojaaGreatDoor.Dv
open Go.Dm Go.Proofs
variable (e : FuncId → List D → Heap → Option (D × Heap)) (p : FuncId → List D → Option D)
theorem ok6 : okFn Tryz.prog (Vx e p) Tryz.f6 v6 tm6 bs6 = true := by kernel_rfl
theorem nm6 : Tryz.f6.name ≠ "runtime.NumGoroutine" := by decide +kernel
theorem ok10 : okFn Tryz.prog (Vx e p) Tryz.f10 v10 tm10 bs10 = true := by kernel_rfl
theorem nm10 : Tryz.f10.name ≠ "runtime.NumGoroutine" := by decide +kernel
theorem ok14 : okFn Tryz.prog (Vx e p) Tryz.f14 v14 tm14 bs14 = true := by kernel_rfl
theorem nm14 : Tryz.f14.name ≠ "runtime.NumGoroutine" := by decide +kernel
theorem ok18 : okFn Tryz.prog (Vx e p) Tryz.f18 v18 tm18 bs18 = true := by kernel_rfl
theorem nm18 : Tryz.f18.name ≠ "runtime.NumGoroutine" := by decide +kernel
theorem ok22 : okFn Tryz.prog (Vx e p) Tryz.f22 v22 tm22 bs22 = true := by kernel_rfl
theorem nm22 : Tryz.f22.name ≠ "runtime.NumGoroutine" := by decide +kernel
theorem ok26 : okFn Tryz.prog (Vx e p) Tryz.f26 v26 tm26 bs26 = true := by kernel_rfl
theorem nm26 : Tryz.f26.name ≠ "runtime.NumGoroutine" := by decide +kernel
theorem ok30 : okFn Tryz.prog (Vx e p) Tryz.f30 v30 tm30 bs30 = true := by kernel_rfl
theorem nm30 : Tryz.f30.name ≠ "runtime.NumGoroutine" := by decide +kernel
theorem ok34 : okFn Tryz.prog (Vx e p) Tryz.f34 v34 tm34 bs34 = true := by kernel_rfl
theorem nm34 : Tryz.f34.name ≠ "runtime.NumGoroutine" := by decide +kernel
theorem ok38 : okFn Tryz.prog (Vx e p) Tryz.f38 v38 tm38 bs38 = true := by kernel_rfl
theorem nm38 : Tryz.f38.name ≠ "runtime.NumGoroutine" := by decide +kernel
theorem ok43 : okFn Tryz.prog (Vx e p) Tryz.f43 v43 tm43 bs43 = true := by kernel_rfl
theorem nm43 : Tryz.f43.name ≠ "runtime.NumGoroutine" := by decide +kernel
theorem ok47 : okFn Tryz.prog (Vx e p) Tryz.f47 v47 tm47 bs47 = true := by kernel_rfl
theorem nm47 : Tryz.f47.name ≠ "runtime.NumGoroutine" := by decide +kernel
theorem ok51 : okFn Tryz.prog (Vx e p) Tryz.f51 v51 tm51 bs51 = true := by kernel_rfl
theorem nm51 : Tryz.f51.name ≠ "runtime.NumGoroutine" := by decide +kernel
theorem ok55 : okFn Tryz.prog (Vx e p) Tryz.f55 v55 tm55 bs55 = true := by kernel_rfl
theorem nm55 : Tryz.f55.name ≠ "runtime.NumGoroutine" := by decide +kernel
theorem ok59 : okFn Tryz.prog (Vx e p) Tryz.f59 v59 tm59 bs59 = true := by kernel_rfl
theorem nm59 : Tryz.f59.name ≠ "runtime.NumGoroutine" := by decide +kernel
theorem ok63 : okFn Tryz.prog (Vx e p) Tryz.f63 v63 tm63 bs63 = true := by kernel_rfl
theorem nm63 : Tryz.f63.name ≠ "runtime.NumGoroutine" := by decide +kernel
theorem ok67 : okFn Tryz.prog (Vx e p) Tryz.f67 v67 tm67 bs67 = true := by kernel_rfl
theorem nm67 : Tryz.f67.name ≠ "runtime.NumGoroutine" := by decide +kernel
theorem ok72 : okFn Tryz.prog (Vx e p) Tryz.f72 v72 tm72 bs72 = true := by kernel_rfl
theorem nm72 : Tryz.f72.name ≠ "runtime.NumGoroutine" := by decide +kernel
theorem ok76 : okFn Tryz.prog (Vx e p) Tryz.f76 v76 tm76 bs76 = true := by kernel_rfl
theorem nm76 : Tryz.f76.name ≠ "runtime.NumGoroutine" := by decide +kernel
theorem ok80 : okFn Tryz.prog (Vx e p) Tryz.f80 v80 tm80 bs80 = true := by kernel_rfl
theorem nm80 : Tryz.f80.name ≠ "runtime.NumGoroutine" := by decide +kernel
theorem ok84 : okFn Tryz.prog (Vx e p) Tryz.f84 v84 tm84 bs84 = true := by kernel_rfl
theorem nm84 : Tryz.f84.name ≠ "runtime.NumGoroutine" := by decide +kernel
theorem ok88 : okFn Tryz.prog (Vx e p) Tryz.f88 v88 tm88 bs88 = true := by kernel_rfl
theorem nm88 : Tryz.f88.name ≠ "runtime.NumGoroutine" := by decide +kernel
theorem ok92 : okFn Tryz.prog (Vx e p) Tryz.f92 v92 tm92 bs92 = true := by kernel_rfl
theorem nm92 : Tryz.f92.name ≠ "runtime.NumGoroutine" := by decide +kernel
theorem ok96 : okFn Tryz.prog (Vx e p) Tryz.f96 v96 tm96 bs96 = true := by kernel_rfl
theorem nm96 : Tryz.f96.name ≠ "runtime.NumGoroutine" := by decide +kernel
theorem ok103 : okFn Tryz.prog (Vx e p) Tryz.f103 v103 tm103 bs103 = true := by kernel_rfl
theorem nm103 : Tryz.f103.name ≠ "runtime.NumGoroutine" := by decide +kernel
theorem ok107 : okFn Tryz.prog (Vx e p) Tryz.f107 v107 tm107 bs107 = true := by kernel_rfl
theorem nm107 : Tryz.f107.name ≠ "runtime.NumGoroutine" := by decide +kernel
theorem ok113 : okFn Tryz.prog (Vx e p) Tryz.f113 v113 tm113 bs113 = true := by kernel_rfl
theorem nm113 : Tryz.f113.name ≠ "runtime.NumGoroutine" := by decide +kernel
theorem goodD : ∀ q ∈ fnsD, GoodP Tryz.prog (Vx e p) q.1 q.2 := by
  simp only [fnsD, List.forall_mem_cons]
  exact ⟨⟨_, _, _, Tryz.func6, ok6 e p, nm6⟩, ⟨_, _, _, Tryz.func10, ok10 e p, nm10⟩, ⟨_, _, _, Tryz.func14, ok14 e p, nm14⟩, ⟨_, _, _, Tryz.func18, ok18 e p, nm18⟩, ⟨_, _, _, Tryz.func22, ok22 e p, nm22⟩, ⟨_, _, _, Tryz.func26, ok26 e p, nm26⟩, ⟨_, _, _, Tryz.func30, ok30 e p, nm30⟩, ⟨_, _, _, Tryz.func34, ok34 e p, nm34⟩, ⟨_, _, _, Tryz.func38, ok38 e p, nm38⟩, ⟨_, _, _, Tryz.func43, ok43 e p, nm43⟩, ⟨_, _, _, Tryz.func47, ok47 e p, nm47⟩, ⟨_, _, _, Tryz.func51, ok51 e p, nm51⟩, ⟨_, _, _, Tryz.func55, ok55 e p, nm55⟩, ⟨_, _, _, Tryz.func59, ok59 e p, nm59⟩, ⟨_, _, _, Tryz.func63, ok63 e p, nm63⟩, ⟨_, _, _, Tryz.func67, ok67 e p, nm67⟩, ⟨_, _, _, Tryz.func72, ok72 e p, nm72⟩, ⟨_, _, _, Tryz.func76, ok76 e p, nm76⟩, ⟨_, _, _, Tryz.func80, ok80 e p, nm80⟩, ⟨_, _, _, Tryz.func84, ok84 e p, nm84⟩, ⟨_, _, _, Tryz.func88, ok88 e p, nm88⟩, ⟨_, _, _, Tryz.func92, ok92 e p, nm92⟩, ⟨_, _, _, Tryz.func96, ok96 e p, nm96⟩, ⟨_, _, _, Tryz.func103, ok103 e p, nm103⟩, ⟨_, _, _, Tryz.func107, ok107 e p, nm107⟩, ⟨_, _, _, Tryz.func113, ok113 e p, nm113⟩, fun _ h => by cases h⟩
open Go.Dm Go.Proofs
theorem ob6 : okFn Tryz.prog (V2x e p) Tryz.f6 (own2 6 v6) tm6 bs6 = true := by kernel_rfl
theorem ob10 : okFn Tryz.prog (V2x e p) Tryz.f10 (own2 10 v10) tm10 bs10 = true := by kernel_rfl
theorem ob14 : okFn Tryz.prog (V2x e p) Tryz.f14 (own2 14 v14) tm14 bs14 = true := by kernel_rfl
theorem ob18 : okFn Tryz.prog (V2x e p) Tryz.f18 (own2 18 v18) tm18 bs18 = true := by kernel_rfl
theorem ob22 : okFn Tryz.prog (V2x e p) Tryz.f22 (own2 22 v22) tm22 bs22 = true := by kernel_rfl
theorem ob26 : okFn Tryz.prog (V2x e p) Tryz.f26 (own2 26 v26) tm26 bs26 = true := by kernel_rfl
theorem ob30 : okFn Tryz.prog (V2x e p) Tryz.f30 (own2 30 v30) tm30 bs30 = true := by kernel_rfl
theorem ob34 : okFn Tryz.prog (V2x e p) Tryz.f34 (own2 34 v34) tm34 bs34 = true := by kernel_rfl
theorem ob38 : okFn Tryz.prog (V2x e p) Tryz.f38 (own2 38 v38) tm38 bs38 = true := by kernel_rfl
theorem ob43 : okFn Tryz.prog (V2x e p) Tryz.f43 (own2 43 v43) tm43 bs43 = true := by kernel_rfl
theorem ob47 : okFn Tryz.prog (V2x e p) Tryz.f47 (own2 47 v47) tm47 bs47 = true := by kernel_rfl
theorem ob51 : okFn Tryz.prog (V2x e p) Tryz.f51 (own2 51 v51) tm51 bs51 = true := by kernel_rfl
theorem ob55 : okFn Tryz.prog (V2x e p) Tryz.f55 (own2 55 v55) tm55 bs55 = true := by kernel_rfl
theorem ob59 : okFn Tryz.prog (V2x e p) Tryz.f59 (own2 59 v59) tm59 bs59 = true := by kernel_rfl
theorem ob63 : okFn Tryz.prog (V2x e p) Tryz.f63 (own2 63 v63) tm63 bs63 = true := by kernel_rfl
theorem ob67 : okFn Tryz.prog (V2x e p) Tryz.f67 (own2 67 v67) tm67 bs67 = true := by kernel_rfl
theorem ob72 : okFn Tryz.prog (V2x e p) Tryz.f72 (own2 72 v72) tm72 bs72 = true := by kernel_rfl
theorem ob76 : okFn Tryz.prog (V2x e p) Tryz.f76 (own2 76 v76) tm76 bs76 = true := by kernel_rfl
theorem ob80 : okFn Tryz.prog (V2x e p) Tryz.f80 (own2 80 v80) tm80 bs80 = true := by kernel_rfl
theorem ob84 : okFn Tryz.prog (V2x e p) Tryz.f84 (own2 84 v84) tm84 bs84 = true := by kernel_rfl
theorem ob88 : okFn Tryz.prog (V2x e p) Tryz.f88 (own2 88 v88) tm88 bs88 = true := by kernel_rfl
theorem ob92 : okFn Tryz.prog (V2x e p) Tryz.f92 (own2 92 v92) tm92 bs92 = true := by kernel_rfl
theorem ob96 : okFn Tryz.prog (V2x e p) Tryz.f96 (own2 96 v96) tm96 bs96 = true := by kernel_rfl
theorem ob103 : okFn Tryz.prog (V2x e p) Tryz.f103 (own2 103 v103) tm103 bs103 = true := by kernel_rfl
theorem ob107 : okFn Tryz.prog (V2x e p) Tryz.f107 (own2 107 v107) tm107 bs107 = true := by kernel_rfl
theorem ob113 : okFn Tryz.prog (V2x e p) Tryz.f113 (own2 113 v113) tm113 bs113 = true := by kernel_rfl
theorem good2D : ∀ q ∈ fnsD, GoodP Tryz.prog (V2x e p) q.1 (own2 q.1 q.2) := by
  simp only [fnsD, List.forall_mem_cons]
  exact ⟨⟨_, _, _, Tryz.func6, ob6 e p, nm6⟩, ⟨_, _, _, Tryz.func10, ob10 e p, nm10⟩, ⟨_, _, _, Tryz.func14, ob14 e p, nm14⟩, ⟨_, _, _, Tryz.func18, ob18 e p, nm18⟩, ⟨_, _, _, Tryz.func22, ob22 e p, nm22⟩, ⟨_, _, _, Tryz.func26, ob26 e p, nm26⟩, ⟨_, _, _, Tryz.func30, ob30 e p, nm30⟩, ⟨_, _, _, Tryz.func34, ob34 e p, nm34⟩, ⟨_, _, _, Tryz.func38, ob38 e p, nm38⟩, ⟨_, _, _, Tryz.func43, ob43 e p, nm43⟩, ⟨_, _, _, Tryz.func47, ob47 e p, nm47⟩, ⟨_, _, _, Tryz.func51, ob51 e p, nm51⟩, ⟨_, _, _, Tryz.func55, ob55 e p, nm55⟩, ⟨_, _, _, Tryz.func59, ob59 e p, nm59⟩, ⟨_, _, _, Tryz.func63, ob63 e p, nm63⟩, ⟨_, _, _, Tryz.func67, ob67 e p, nm67⟩, ⟨_, _, _, Tryz.func72, ob72 e p, nm72⟩, ⟨_, _, _, Tryz.func76, ob76 e p, nm76⟩, ⟨_, _, _, Tryz.func80, ob80 e p, nm80⟩, ⟨_, _, _, Tryz.func84, ob84 e p, nm84⟩, ⟨_, _, _, Tryz.func88, ob88 e p, nm88⟩, ⟨_, _, _, Tryz.func92, ob92 e p, nm92⟩, ⟨_, _, _, Tryz.func96, ob96 e p, nm96⟩, ⟨_, _, _, Tryz.func103, ob103 e p, nm103⟩, ⟨_, _, _, Tryz.func107, ob107 e p, nm107⟩, ⟨_, _, _, Tryz.func113, ob113 e p, nm113⟩, fun _ h => by cases h⟩
end Go.Proofs.YtnhbopeopppojaaGreatDoor.Dv
