/-
  The machine's code is the program's, function by function.
-/
import Derived.Test.YtnhbopeopppojaaGreatDoorProg
import Derived.KernelRfl
import Derived.Test.YtnhbopeopppojaaGreatDoorDa
import Derived.Test.YtnhbopeopppojaaGreatDoorV
namespace Go.Proofs.YtnhbopeopppojaaGreatDoor.Dv
open Go.Dm Go.Proofs

theorem ok5 (e : FuncId → List D → Heap → Option (D × Heap)) (p : FuncId → List D → Option D) : okFn Tryz.prog (Vx e p) Tryz.f5 v5 tm5 bs5 = true := by kernel_rfl
theorem nm5 : Tryz.f5.name ≠ "runtime.NumGoroutine" := by decide +kernel
theorem ok10 (e : FuncId → List D → Heap → Option (D × Heap)) (p : FuncId → List D → Option D) : okFn Tryz.prog (Vx e p) Tryz.f10 v10 tm10 bs10 = true := by kernel_rfl
theorem nm10 : Tryz.f10.name ≠ "runtime.NumGoroutine" := by decide +kernel
theorem ok14 (e : FuncId → List D → Heap → Option (D × Heap)) (p : FuncId → List D → Option D) : okFn Tryz.prog (Vx e p) Tryz.f14 v14 tm14 bs14 = true := by kernel_rfl
theorem nm14 : Tryz.f14.name ≠ "runtime.NumGoroutine" := by decide +kernel
theorem ok18 (e : FuncId → List D → Heap → Option (D × Heap)) (p : FuncId → List D → Option D) : okFn Tryz.prog (Vx e p) Tryz.f18 v18 tm18 bs18 = true := by kernel_rfl
theorem nm18 : Tryz.f18.name ≠ "runtime.NumGoroutine" := by decide +kernel
theorem ok22 (e : FuncId → List D → Heap → Option (D × Heap)) (p : FuncId → List D → Option D) : okFn Tryz.prog (Vx e p) Tryz.f22 v22 tm22 bs22 = true := by kernel_rfl
theorem nm22 : Tryz.f22.name ≠ "runtime.NumGoroutine" := by decide +kernel
theorem ok26 (e : FuncId → List D → Heap → Option (D × Heap)) (p : FuncId → List D → Option D) : okFn Tryz.prog (Vx e p) Tryz.f26 v26 tm26 bs26 = true := by kernel_rfl
theorem nm26 : Tryz.f26.name ≠ "runtime.NumGoroutine" := by decide +kernel
theorem ok30 (e : FuncId → List D → Heap → Option (D × Heap)) (p : FuncId → List D → Option D) : okFn Tryz.prog (Vx e p) Tryz.f30 v30 tm30 bs30 = true := by kernel_rfl
theorem nm30 : Tryz.f30.name ≠ "runtime.NumGoroutine" := by decide +kernel
theorem ok34 (e : FuncId → List D → Heap → Option (D × Heap)) (p : FuncId → List D → Option D) : okFn Tryz.prog (Vx e p) Tryz.f34 v34 tm34 bs34 = true := by kernel_rfl
theorem nm34 : Tryz.f34.name ≠ "runtime.NumGoroutine" := by decide +kernel
theorem ok38 (e : FuncId → List D → Heap → Option (D × Heap)) (p : FuncId → List D → Option D) : okFn Tryz.prog (Vx e p) Tryz.f38 v38 tm38 bs38 = true := by kernel_rfl
theorem nm38 : Tryz.f38.name ≠ "runtime.NumGoroutine" := by decide +kernel
theorem ok43 (e : FuncId → List D → Heap → Option (D × Heap)) (p : FuncId → List D → Option D) : okFn Tryz.prog (Vx e p) Tryz.f43 v43 tm43 bs43 = true := by kernel_rfl
theorem nm43 : Tryz.f43.name ≠ "runtime.NumGoroutine" := by decide +kernel
theorem ok48 (e : FuncId → List D → Heap → Option (D × Heap)) (p : FuncId → List D → Option D) : okFn Tryz.prog (Vx e p) Tryz.f48 v48 tm48 bs48 = true := by kernel_rfl
theorem nm48 : Tryz.f48.name ≠ "runtime.NumGoroutine" := by decide +kernel
theorem ok52 (e : FuncId → List D → Heap → Option (D × Heap)) (p : FuncId → List D → Option D) : okFn Tryz.prog (Vx e p) Tryz.f52 v52 tm52 bs52 = true := by kernel_rfl
theorem nm52 : Tryz.f52.name ≠ "runtime.NumGoroutine" := by decide +kernel
theorem ok56 (e : FuncId → List D → Heap → Option (D × Heap)) (p : FuncId → List D → Option D) : okFn Tryz.prog (Vx e p) Tryz.f56 v56 tm56 bs56 = true := by kernel_rfl
theorem nm56 : Tryz.f56.name ≠ "runtime.NumGoroutine" := by decide +kernel
theorem ok60 (e : FuncId → List D → Heap → Option (D × Heap)) (p : FuncId → List D → Option D) : okFn Tryz.prog (Vx e p) Tryz.f60 v60 tm60 bs60 = true := by kernel_rfl
theorem nm60 : Tryz.f60.name ≠ "runtime.NumGoroutine" := by decide +kernel
theorem ok64 (e : FuncId → List D → Heap → Option (D × Heap)) (p : FuncId → List D → Option D) : okFn Tryz.prog (Vx e p) Tryz.f64 v64 tm64 bs64 = true := by kernel_rfl
theorem nm64 : Tryz.f64.name ≠ "runtime.NumGoroutine" := by decide +kernel
theorem ok68 (e : FuncId → List D → Heap → Option (D × Heap)) (p : FuncId → List D → Option D) : okFn Tryz.prog (Vx e p) Tryz.f68 v68 tm68 bs68 = true := by kernel_rfl
theorem nm68 : Tryz.f68.name ≠ "runtime.NumGoroutine" := by decide +kernel
theorem ok73 (e : FuncId → List D → Heap → Option (D × Heap)) (p : FuncId → List D → Option D) : okFn Tryz.prog (Vx e p) Tryz.f73 v73 tm73 bs73 = true := by kernel_rfl
theorem nm73 : Tryz.f73.name ≠ "runtime.NumGoroutine" := by decide +kernel
theorem ok77 (e : FuncId → List D → Heap → Option (D × Heap)) (p : FuncId → List D → Option D) : okFn Tryz.prog (Vx e p) Tryz.f77 v77 tm77 bs77 = true := by kernel_rfl
theorem nm77 : Tryz.f77.name ≠ "runtime.NumGoroutine" := by decide +kernel
theorem ok81 (e : FuncId → List D → Heap → Option (D × Heap)) (p : FuncId → List D → Option D) : okFn Tryz.prog (Vx e p) Tryz.f81 v81 tm81 bs81 = true := by kernel_rfl
theorem nm81 : Tryz.f81.name ≠ "runtime.NumGoroutine" := by decide +kernel
theorem ok85 (e : FuncId → List D → Heap → Option (D × Heap)) (p : FuncId → List D → Option D) : okFn Tryz.prog (Vx e p) Tryz.f85 v85 tm85 bs85 = true := by kernel_rfl
theorem nm85 : Tryz.f85.name ≠ "runtime.NumGoroutine" := by decide +kernel
theorem ok89 (e : FuncId → List D → Heap → Option (D × Heap)) (p : FuncId → List D → Option D) : okFn Tryz.prog (Vx e p) Tryz.f89 v89 tm89 bs89 = true := by kernel_rfl
theorem nm89 : Tryz.f89.name ≠ "runtime.NumGoroutine" := by decide +kernel
theorem ok93 (e : FuncId → List D → Heap → Option (D × Heap)) (p : FuncId → List D → Option D) : okFn Tryz.prog (Vx e p) Tryz.f93 v93 tm93 bs93 = true := by kernel_rfl
theorem nm93 : Tryz.f93.name ≠ "runtime.NumGoroutine" := by decide +kernel
theorem ok97 (e : FuncId → List D → Heap → Option (D × Heap)) (p : FuncId → List D → Option D) : okFn Tryz.prog (Vx e p) Tryz.f97 v97 tm97 bs97 = true := by kernel_rfl
theorem nm97 : Tryz.f97.name ≠ "runtime.NumGoroutine" := by decide +kernel
theorem ok104 (e : FuncId → List D → Heap → Option (D × Heap)) (p : FuncId → List D → Option D) : okFn Tryz.prog (Vx e p) Tryz.f104 v104 tm104 bs104 = true := by kernel_rfl
theorem nm104 : Tryz.f104.name ≠ "runtime.NumGoroutine" := by decide +kernel
theorem ok108 (e : FuncId → List D → Heap → Option (D × Heap)) (p : FuncId → List D → Option D) : okFn Tryz.prog (Vx e p) Tryz.f108 v108 tm108 bs108 = true := by kernel_rfl
theorem nm108 : Tryz.f108.name ≠ "runtime.NumGoroutine" := by decide +kernel
theorem ok114 (e : FuncId → List D → Heap → Option (D × Heap)) (p : FuncId → List D → Option D) : okFn Tryz.prog (Vx e p) Tryz.f114 v114 tm114 bs114 = true := by kernel_rfl
theorem nm114 : Tryz.f114.name ≠ "runtime.NumGoroutine" := by decide +kernel
end Go.Proofs.YtnhbopeopppojaaGreatDoor.Dv
