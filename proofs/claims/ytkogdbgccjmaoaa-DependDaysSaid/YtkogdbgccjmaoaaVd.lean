/-
  The machine's code is the program's, function by function.
-/
import Derived.Test.YtkogdbgccjmaoaaProg
import Derived.KernelRfl
import Derived.Test.YtkogdbgccjmaoaaDa
import Derived.Test.YtkogdbgccjmaoaaV
namespace Go.Proofs.Ytkogdbgccjmaoaa.Dv
open Go.Dm Go.Proofs

theorem ok8 (e : FuncId → List D → Heap → Option (D × Heap)) (p : FuncId → List D → Option D) : okFn Try.prog (Vx e p) Try.f8 v8 tm8 bs8 = true := by kernel_rfl
theorem nm8 : Try.f8.name ≠ "runtime.NumGoroutine" := by decide +kernel
theorem ok12 (e : FuncId → List D → Heap → Option (D × Heap)) (p : FuncId → List D → Option D) : okFn Try.prog (Vx e p) Try.f12 v12 tm12 bs12 = true := by kernel_rfl
theorem nm12 : Try.f12.name ≠ "runtime.NumGoroutine" := by decide +kernel
theorem ok16 (e : FuncId → List D → Heap → Option (D × Heap)) (p : FuncId → List D → Option D) : okFn Try.prog (Vx e p) Try.f16 v16 tm16 bs16 = true := by kernel_rfl
theorem nm16 : Try.f16.name ≠ "runtime.NumGoroutine" := by decide +kernel
theorem ok20 (e : FuncId → List D → Heap → Option (D × Heap)) (p : FuncId → List D → Option D) : okFn Try.prog (Vx e p) Try.f20 v20 tm20 bs20 = true := by kernel_rfl
theorem nm20 : Try.f20.name ≠ "runtime.NumGoroutine" := by decide +kernel
theorem ok32 (e : FuncId → List D → Heap → Option (D × Heap)) (p : FuncId → List D → Option D) : okFn Try.prog (Vx e p) Try.f32 v32 tm32 bs32 = true := by kernel_rfl
theorem nm32 : Try.f32.name ≠ "runtime.NumGoroutine" := by decide +kernel
theorem ok36 (e : FuncId → List D → Heap → Option (D × Heap)) (p : FuncId → List D → Option D) : okFn Try.prog (Vx e p) Try.f36 v36 tm36 bs36 = true := by kernel_rfl
theorem nm36 : Try.f36.name ≠ "runtime.NumGoroutine" := by decide +kernel
theorem ok57 (e : FuncId → List D → Heap → Option (D × Heap)) (p : FuncId → List D → Option D) : okFn Try.prog (Vx e p) Try.f57 v57 tm57 bs57 = true := by kernel_rfl
theorem nm57 : Try.f57.name ≠ "runtime.NumGoroutine" := by decide +kernel
theorem ok61 (e : FuncId → List D → Heap → Option (D × Heap)) (p : FuncId → List D → Option D) : okFn Try.prog (Vx e p) Try.f61 v61 tm61 bs61 = true := by kernel_rfl
theorem nm61 : Try.f61.name ≠ "runtime.NumGoroutine" := by decide +kernel
theorem ok65 (e : FuncId → List D → Heap → Option (D × Heap)) (p : FuncId → List D → Option D) : okFn Try.prog (Vx e p) Try.f65 v65 tm65 bs65 = true := by kernel_rfl
theorem nm65 : Try.f65.name ≠ "runtime.NumGoroutine" := by decide +kernel
theorem ok77 (e : FuncId → List D → Heap → Option (D × Heap)) (p : FuncId → List D → Option D) : okFn Try.prog (Vx e p) Try.f77 v77 tm77 bs77 = true := by kernel_rfl
theorem nm77 : Try.f77.name ≠ "runtime.NumGoroutine" := by decide +kernel
theorem ok82 (e : FuncId → List D → Heap → Option (D × Heap)) (p : FuncId → List D → Option D) : okFn Try.prog (Vx e p) Try.f82 v82 tm82 bs82 = true := by kernel_rfl
theorem nm82 : Try.f82.name ≠ "runtime.NumGoroutine" := by decide +kernel
theorem ok86 (e : FuncId → List D → Heap → Option (D × Heap)) (p : FuncId → List D → Option D) : okFn Try.prog (Vx e p) Try.f86 v86 tm86 bs86 = true := by kernel_rfl
theorem nm86 : Try.f86.name ≠ "runtime.NumGoroutine" := by decide +kernel
theorem ok90 (e : FuncId → List D → Heap → Option (D × Heap)) (p : FuncId → List D → Option D) : okFn Try.prog (Vx e p) Try.f90 v90 tm90 bs90 = true := by kernel_rfl
theorem nm90 : Try.f90.name ≠ "runtime.NumGoroutine" := by decide +kernel
theorem ok94 (e : FuncId → List D → Heap → Option (D × Heap)) (p : FuncId → List D → Option D) : okFn Try.prog (Vx e p) Try.f94 v94 tm94 bs94 = true := by kernel_rfl
theorem nm94 : Try.f94.name ≠ "runtime.NumGoroutine" := by decide +kernel
end Go.Proofs.Ytkogdbgccjmaoaa.Dv
