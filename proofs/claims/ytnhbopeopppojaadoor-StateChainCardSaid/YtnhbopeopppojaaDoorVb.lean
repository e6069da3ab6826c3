/-
  The machine's code is the program's, function by function.
-/
import Derived.Test.YtnhbopeopppojaaDoorProg
import Derived.KernelRfl
import Derived.Test.YtnhbopeopppojaaDoorDa
import Derived.Test.YtnhbopeopppojaaDoorV
namespace Go.Proofs.YtnhbopeopppojaaDoor.Dv
open Go.Dm Go.Proofs

theorem ok4 (e : FuncId → List D → Heap → Option (D × Heap)) (p : FuncId → List D → Option D) : okFn Tryd.prog (Vx e p) Tryd.f4 v4 tm4 bs4 = true := by kernel_rfl
theorem nm4 : Tryd.f4.name ≠ "runtime.NumGoroutine" := by decide +kernel
theorem ok8 (e : FuncId → List D → Heap → Option (D × Heap)) (p : FuncId → List D → Option D) : okFn Tryd.prog (Vx e p) Tryd.f8 v8 tm8 bs8 = true := by kernel_rfl
theorem nm8 : Tryd.f8.name ≠ "runtime.NumGoroutine" := by decide +kernel
theorem ok12 (e : FuncId → List D → Heap → Option (D × Heap)) (p : FuncId → List D → Option D) : okFn Tryd.prog (Vx e p) Tryd.f12 v12 tm12 bs12 = true := by kernel_rfl
theorem nm12 : Tryd.f12.name ≠ "runtime.NumGoroutine" := by decide +kernel
theorem ok16 (e : FuncId → List D → Heap → Option (D × Heap)) (p : FuncId → List D → Option D) : okFn Tryd.prog (Vx e p) Tryd.f16 v16 tm16 bs16 = true := by kernel_rfl
theorem nm16 : Tryd.f16.name ≠ "runtime.NumGoroutine" := by decide +kernel
theorem ok20 (e : FuncId → List D → Heap → Option (D × Heap)) (p : FuncId → List D → Option D) : okFn Tryd.prog (Vx e p) Tryd.f20 v20 tm20 bs20 = true := by kernel_rfl
theorem nm20 : Tryd.f20.name ≠ "runtime.NumGoroutine" := by decide +kernel
theorem ok24 (e : FuncId → List D → Heap → Option (D × Heap)) (p : FuncId → List D → Option D) : okFn Tryd.prog (Vx e p) Tryd.f24 v24 tm24 bs24 = true := by kernel_rfl
theorem nm24 : Tryd.f24.name ≠ "runtime.NumGoroutine" := by decide +kernel
theorem ok28 (e : FuncId → List D → Heap → Option (D × Heap)) (p : FuncId → List D → Option D) : okFn Tryd.prog (Vx e p) Tryd.f28 v28 tm28 bs28 = true := by kernel_rfl
theorem nm28 : Tryd.f28.name ≠ "runtime.NumGoroutine" := by decide +kernel
theorem ok32 (e : FuncId → List D → Heap → Option (D × Heap)) (p : FuncId → List D → Option D) : okFn Tryd.prog (Vx e p) Tryd.f32 v32 tm32 bs32 = true := by kernel_rfl
theorem nm32 : Tryd.f32.name ≠ "runtime.NumGoroutine" := by decide +kernel
theorem ok36 (e : FuncId → List D → Heap → Option (D × Heap)) (p : FuncId → List D → Option D) : okFn Tryd.prog (Vx e p) Tryd.f36 v36 tm36 bs36 = true := by kernel_rfl
theorem nm36 : Tryd.f36.name ≠ "runtime.NumGoroutine" := by decide +kernel
theorem ok41 (e : FuncId → List D → Heap → Option (D × Heap)) (p : FuncId → List D → Option D) : okFn Tryd.prog (Vx e p) Tryd.f41 v41 tm41 bs41 = true := by kernel_rfl
theorem nm41 : Tryd.f41.name ≠ "runtime.NumGoroutine" := by decide +kernel
theorem ok45 (e : FuncId → List D → Heap → Option (D × Heap)) (p : FuncId → List D → Option D) : okFn Tryd.prog (Vx e p) Tryd.f45 v45 tm45 bs45 = true := by kernel_rfl
theorem nm45 : Tryd.f45.name ≠ "runtime.NumGoroutine" := by decide +kernel
theorem ok49 (e : FuncId → List D → Heap → Option (D × Heap)) (p : FuncId → List D → Option D) : okFn Tryd.prog (Vx e p) Tryd.f49 v49 tm49 bs49 = true := by kernel_rfl
theorem nm49 : Tryd.f49.name ≠ "runtime.NumGoroutine" := by decide +kernel
theorem ok53 (e : FuncId → List D → Heap → Option (D × Heap)) (p : FuncId → List D → Option D) : okFn Tryd.prog (Vx e p) Tryd.f53 v53 tm53 bs53 = true := by kernel_rfl
theorem nm53 : Tryd.f53.name ≠ "runtime.NumGoroutine" := by decide +kernel
theorem ok57 (e : FuncId → List D → Heap → Option (D × Heap)) (p : FuncId → List D → Option D) : okFn Tryd.prog (Vx e p) Tryd.f57 v57 tm57 bs57 = true := by kernel_rfl
theorem nm57 : Tryd.f57.name ≠ "runtime.NumGoroutine" := by decide +kernel
theorem ok61 (e : FuncId → List D → Heap → Option (D × Heap)) (p : FuncId → List D → Option D) : okFn Tryd.prog (Vx e p) Tryd.f61 v61 tm61 bs61 = true := by kernel_rfl
theorem nm61 : Tryd.f61.name ≠ "runtime.NumGoroutine" := by decide +kernel
theorem ok65 (e : FuncId → List D → Heap → Option (D × Heap)) (p : FuncId → List D → Option D) : okFn Tryd.prog (Vx e p) Tryd.f65 v65 tm65 bs65 = true := by kernel_rfl
theorem nm65 : Tryd.f65.name ≠ "runtime.NumGoroutine" := by decide +kernel
theorem ok69 (e : FuncId → List D → Heap → Option (D × Heap)) (p : FuncId → List D → Option D) : okFn Tryd.prog (Vx e p) Tryd.f69 v69 tm69 bs69 = true := by kernel_rfl
theorem nm69 : Tryd.f69.name ≠ "runtime.NumGoroutine" := by decide +kernel
theorem ok74 (e : FuncId → List D → Heap → Option (D × Heap)) (p : FuncId → List D → Option D) : okFn Tryd.prog (Vx e p) Tryd.f74 v74 tm74 bs74 = true := by kernel_rfl
theorem nm74 : Tryd.f74.name ≠ "runtime.NumGoroutine" := by decide +kernel
theorem ok79 (e : FuncId → List D → Heap → Option (D × Heap)) (p : FuncId → List D → Option D) : okFn Tryd.prog (Vx e p) Tryd.f79 v79 tm79 bs79 = true := by kernel_rfl
theorem nm79 : Tryd.f79.name ≠ "runtime.NumGoroutine" := by decide +kernel
theorem ok83 (e : FuncId → List D → Heap → Option (D × Heap)) (p : FuncId → List D → Option D) : okFn Tryd.prog (Vx e p) Tryd.f83 v83 tm83 bs83 = true := by kernel_rfl
theorem nm83 : Tryd.f83.name ≠ "runtime.NumGoroutine" := by decide +kernel
theorem ok90 (e : FuncId → List D → Heap → Option (D × Heap)) (p : FuncId → List D → Option D) : okFn Tryd.prog (Vx e p) Tryd.f90 v90 tm90 bs90 = true := by kernel_rfl
theorem nm90 : Tryd.f90.name ≠ "runtime.NumGoroutine" := by decide +kernel
theorem ok94 (e : FuncId → List D → Heap → Option (D × Heap)) (p : FuncId → List D → Option D) : okFn Tryd.prog (Vx e p) Tryd.f94 v94 tm94 bs94 = true := by kernel_rfl
theorem nm94 : Tryd.f94.name ≠ "runtime.NumGoroutine" := by decide +kernel
theorem ok98 (e : FuncId → List D → Heap → Option (D × Heap)) (p : FuncId → List D → Option D) : okFn Tryd.prog (Vx e p) Tryd.f98 v98 tm98 bs98 = true := by kernel_rfl
theorem nm98 : Tryd.f98.name ≠ "runtime.NumGoroutine" := by decide +kernel
theorem ok104 (e : FuncId → List D → Heap → Option (D × Heap)) (p : FuncId → List D → Option D) : okFn Tryd.prog (Vx e p) Tryd.f104 v104 tm104 bs104 = true := by kernel_rfl
theorem nm104 : Tryd.f104.name ≠ "runtime.NumGoroutine" := by decide +kernel
theorem ok108 (e : FuncId → List D → Heap → Option (D × Heap)) (p : FuncId → List D → Option D) : okFn Tryd.prog (Vx e p) Tryd.f108 v108 tm108 bs108 = true := by kernel_rfl
theorem nm108 : Tryd.f108.name ≠ "runtime.NumGoroutine" := by decide +kernel
theorem ok117 (e : FuncId → List D → Heap → Option (D × Heap)) (p : FuncId → List D → Option D) : okFn Tryd.prog (Vx e p) Tryd.f117 v117 tm117 bs117 = true := by kernel_rfl
theorem nm117 : Tryd.f117.name ≠ "runtime.NumGoroutine" := by decide +kernel
end Go.Proofs.YtnhbopeopppojaaDoor.Dv
