/-
  The machine's code is the program's, function by function.
-/
import Derived.Test.YtnhbopeopppojaaGreatDoorProg
import Derived.KernelRfl
import Derived.Test.YtnhbopeopppojaaGreatDoorDa
import Derived.Test.YtnhbopeopppojaaGreatDoorV
namespace Go.Proofs.YtnhbopeopppojaaGreatDoor.Dv
open Go.Dm Go.Proofs

theorem ok6 (e : FuncId → List D → Heap → Option (D × Heap)) (p : FuncId → List D → Option D) : okFn Tryz.prog (Vx e p) Tryz.f6 v6 tm6 bs6 = true := by kernel_rfl
theorem nm6 : Tryz.f6.name ≠ "runtime.NumGoroutine" := by decide +kernel
theorem ok11 (e : FuncId → List D → Heap → Option (D × Heap)) (p : FuncId → List D → Option D) : okFn Tryz.prog (Vx e p) Tryz.f11 v11 tm11 bs11 = true := by kernel_rfl
theorem nm11 : Tryz.f11.name ≠ "runtime.NumGoroutine" := by decide +kernel
theorem ok15 (e : FuncId → List D → Heap → Option (D × Heap)) (p : FuncId → List D → Option D) : okFn Tryz.prog (Vx e p) Tryz.f15 v15 tm15 bs15 = true := by kernel_rfl
theorem nm15 : Tryz.f15.name ≠ "runtime.NumGoroutine" := by decide +kernel
theorem ok19 (e : FuncId → List D → Heap → Option (D × Heap)) (p : FuncId → List D → Option D) : okFn Tryz.prog (Vx e p) Tryz.f19 v19 tm19 bs19 = true := by kernel_rfl
theorem nm19 : Tryz.f19.name ≠ "runtime.NumGoroutine" := by decide +kernel
theorem ok23 (e : FuncId → List D → Heap → Option (D × Heap)) (p : FuncId → List D → Option D) : okFn Tryz.prog (Vx e p) Tryz.f23 v23 tm23 bs23 = true := by kernel_rfl
theorem nm23 : Tryz.f23.name ≠ "runtime.NumGoroutine" := by decide +kernel
theorem ok27 (e : FuncId → List D → Heap → Option (D × Heap)) (p : FuncId → List D → Option D) : okFn Tryz.prog (Vx e p) Tryz.f27 v27 tm27 bs27 = true := by kernel_rfl
theorem nm27 : Tryz.f27.name ≠ "runtime.NumGoroutine" := by decide +kernel
theorem ok31 (e : FuncId → List D → Heap → Option (D × Heap)) (p : FuncId → List D → Option D) : okFn Tryz.prog (Vx e p) Tryz.f31 v31 tm31 bs31 = true := by kernel_rfl
theorem nm31 : Tryz.f31.name ≠ "runtime.NumGoroutine" := by decide +kernel
theorem ok35 (e : FuncId → List D → Heap → Option (D × Heap)) (p : FuncId → List D → Option D) : okFn Tryz.prog (Vx e p) Tryz.f35 v35 tm35 bs35 = true := by kernel_rfl
theorem nm35 : Tryz.f35.name ≠ "runtime.NumGoroutine" := by decide +kernel
theorem ok39 (e : FuncId → List D → Heap → Option (D × Heap)) (p : FuncId → List D → Option D) : okFn Tryz.prog (Vx e p) Tryz.f39 v39 tm39 bs39 = true := by kernel_rfl
theorem nm39 : Tryz.f39.name ≠ "runtime.NumGoroutine" := by decide +kernel
theorem ok44 (e : FuncId → List D → Heap → Option (D × Heap)) (p : FuncId → List D → Option D) : okFn Tryz.prog (Vx e p) Tryz.f44 v44 tm44 bs44 = true := by kernel_rfl
theorem nm44 : Tryz.f44.name ≠ "runtime.NumGoroutine" := by decide +kernel
theorem ok49 (e : FuncId → List D → Heap → Option (D × Heap)) (p : FuncId → List D → Option D) : okFn Tryz.prog (Vx e p) Tryz.f49 v49 tm49 bs49 = true := by kernel_rfl
theorem nm49 : Tryz.f49.name ≠ "runtime.NumGoroutine" := by decide +kernel
theorem ok53 (e : FuncId → List D → Heap → Option (D × Heap)) (p : FuncId → List D → Option D) : okFn Tryz.prog (Vx e p) Tryz.f53 v53 tm53 bs53 = true := by kernel_rfl
theorem nm53 : Tryz.f53.name ≠ "runtime.NumGoroutine" := by decide +kernel
theorem ok57 (e : FuncId → List D → Heap → Option (D × Heap)) (p : FuncId → List D → Option D) : okFn Tryz.prog (Vx e p) Tryz.f57 v57 tm57 bs57 = true := by kernel_rfl
theorem nm57 : Tryz.f57.name ≠ "runtime.NumGoroutine" := by decide +kernel
theorem ok61 (e : FuncId → List D → Heap → Option (D × Heap)) (p : FuncId → List D → Option D) : okFn Tryz.prog (Vx e p) Tryz.f61 v61 tm61 bs61 = true := by kernel_rfl
theorem nm61 : Tryz.f61.name ≠ "runtime.NumGoroutine" := by decide +kernel
theorem ok65 (e : FuncId → List D → Heap → Option (D × Heap)) (p : FuncId → List D → Option D) : okFn Tryz.prog (Vx e p) Tryz.f65 v65 tm65 bs65 = true := by kernel_rfl
theorem nm65 : Tryz.f65.name ≠ "runtime.NumGoroutine" := by decide +kernel
theorem ok70 (e : FuncId → List D → Heap → Option (D × Heap)) (p : FuncId → List D → Option D) : okFn Tryz.prog (Vx e p) Tryz.f70 v70 tm70 bs70 = true := by kernel_rfl
theorem nm70 : Tryz.f70.name ≠ "runtime.NumGoroutine" := by decide +kernel
theorem ok74 (e : FuncId → List D → Heap → Option (D × Heap)) (p : FuncId → List D → Option D) : okFn Tryz.prog (Vx e p) Tryz.f74 v74 tm74 bs74 = true := by kernel_rfl
theorem nm74 : Tryz.f74.name ≠ "runtime.NumGoroutine" := by decide +kernel
theorem ok78 (e : FuncId → List D → Heap → Option (D × Heap)) (p : FuncId → List D → Option D) : okFn Tryz.prog (Vx e p) Tryz.f78 v78 tm78 bs78 = true := by kernel_rfl
theorem nm78 : Tryz.f78.name ≠ "runtime.NumGoroutine" := by decide +kernel
theorem ok82 (e : FuncId → List D → Heap → Option (D × Heap)) (p : FuncId → List D → Option D) : okFn Tryz.prog (Vx e p) Tryz.f82 v82 tm82 bs82 = true := by kernel_rfl
theorem nm82 : Tryz.f82.name ≠ "runtime.NumGoroutine" := by decide +kernel
theorem ok86 (e : FuncId → List D → Heap → Option (D × Heap)) (p : FuncId → List D → Option D) : okFn Tryz.prog (Vx e p) Tryz.f86 v86 tm86 bs86 = true := by kernel_rfl
theorem nm86 : Tryz.f86.name ≠ "runtime.NumGoroutine" := by decide +kernel
theorem ok90 (e : FuncId → List D → Heap → Option (D × Heap)) (p : FuncId → List D → Option D) : okFn Tryz.prog (Vx e p) Tryz.f90 v90 tm90 bs90 = true := by kernel_rfl
theorem nm90 : Tryz.f90.name ≠ "runtime.NumGoroutine" := by decide +kernel
theorem ok94 (e : FuncId → List D → Heap → Option (D × Heap)) (p : FuncId → List D → Option D) : okFn Tryz.prog (Vx e p) Tryz.f94 v94 tm94 bs94 = true := by kernel_rfl
theorem nm94 : Tryz.f94.name ≠ "runtime.NumGoroutine" := by decide +kernel
theorem ok98 (e : FuncId → List D → Heap → Option (D × Heap)) (p : FuncId → List D → Option D) : okFn Tryz.prog (Vx e p) Tryz.f98 v98 tm98 bs98 = true := by kernel_rfl
theorem nm98 : Tryz.f98.name ≠ "runtime.NumGoroutine" := by decide +kernel
theorem ok105 (e : FuncId → List D → Heap → Option (D × Heap)) (p : FuncId → List D → Option D) : okFn Tryz.prog (Vx e p) Tryz.f105 v105 tm105 bs105 = true := by kernel_rfl
theorem nm105 : Tryz.f105.name ≠ "runtime.NumGoroutine" := by decide +kernel
theorem ok109 (e : FuncId → List D → Heap → Option (D × Heap)) (p : FuncId → List D → Option D) : okFn Tryz.prog (Vx e p) Tryz.f109 v109 tm109 bs109 = true := by kernel_rfl
theorem nm109 : Tryz.f109.name ≠ "runtime.NumGoroutine" := by decide +kernel
theorem ok120 (e : FuncId → List D → Heap → Option (D × Heap)) (p : FuncId → List D → Option D) : okFn Tryz.prog (Vx e p) Tryz.f120 v120 tm120 bs120 = true := by kernel_rfl
theorem nm120 : Tryz.f120.name ≠ "runtime.NumGoroutine" := by decide +kernel
end Go.Proofs.YtnhbopeopppojaaGreatDoor.Dv
