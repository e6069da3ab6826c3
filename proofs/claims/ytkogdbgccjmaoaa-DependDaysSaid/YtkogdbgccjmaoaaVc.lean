/-
  The machine's code is the program's, function by function.
-/
import Derived.Test.YtkogdbgccjmaoaaProg
import Derived.KernelRfl
import Derived.Test.YtkogdbgccjmaoaaDa
import Derived.Test.YtkogdbgccjmaoaaV
namespace Go.Proofs.Ytkogdbgccjmaoaa.Dv
open Go.Dm Go.Proofs

theorem ok7 (e : FuncId → List D → Heap → Option (D × Heap)) (p : FuncId → List D → Option D) : okFn Try.prog (Vx e p) Try.f7 v7 tm7 bs7 = true := by kernel_rfl
theorem nm7 : Try.f7.name ≠ "runtime.NumGoroutine" := by decide +kernel
theorem ok11 (e : FuncId → List D → Heap → Option (D × Heap)) (p : FuncId → List D → Option D) : okFn Try.prog (Vx e p) Try.f11 v11 tm11 bs11 = true := by kernel_rfl
theorem nm11 : Try.f11.name ≠ "runtime.NumGoroutine" := by decide +kernel
theorem ok15 (e : FuncId → List D → Heap → Option (D × Heap)) (p : FuncId → List D → Option D) : okFn Try.prog (Vx e p) Try.f15 v15 tm15 bs15 = true := by kernel_rfl
theorem nm15 : Try.f15.name ≠ "runtime.NumGoroutine" := by decide +kernel
theorem ok19 (e : FuncId → List D → Heap → Option (D × Heap)) (p : FuncId → List D → Option D) : okFn Try.prog (Vx e p) Try.f19 v19 tm19 bs19 = true := by kernel_rfl
theorem nm19 : Try.f19.name ≠ "runtime.NumGoroutine" := by decide +kernel
theorem ok31 (e : FuncId → List D → Heap → Option (D × Heap)) (p : FuncId → List D → Option D) : okFn Try.prog (Vx e p) Try.f31 v31 tm31 bs31 = true := by kernel_rfl
theorem nm31 : Try.f31.name ≠ "runtime.NumGoroutine" := by decide +kernel
theorem ok35 (e : FuncId → List D → Heap → Option (D × Heap)) (p : FuncId → List D → Option D) : okFn Try.prog (Vx e p) Try.f35 v35 tm35 bs35 = true := by kernel_rfl
theorem nm35 : Try.f35.name ≠ "runtime.NumGoroutine" := by decide +kernel
theorem ok56 (e : FuncId → List D → Heap → Option (D × Heap)) (p : FuncId → List D → Option D) : okFn Try.prog (Vx e p) Try.f56 v56 tm56 bs56 = true := by kernel_rfl
theorem nm56 : Try.f56.name ≠ "runtime.NumGoroutine" := by decide +kernel
theorem ok60 (e : FuncId → List D → Heap → Option (D × Heap)) (p : FuncId → List D → Option D) : okFn Try.prog (Vx e p) Try.f60 v60 tm60 bs60 = true := by kernel_rfl
theorem nm60 : Try.f60.name ≠ "runtime.NumGoroutine" := by decide +kernel
theorem ok64 (e : FuncId → List D → Heap → Option (D × Heap)) (p : FuncId → List D → Option D) : okFn Try.prog (Vx e p) Try.f64 v64 tm64 bs64 = true := by kernel_rfl
theorem nm64 : Try.f64.name ≠ "runtime.NumGoroutine" := by decide +kernel
theorem ok76 (e : FuncId → List D → Heap → Option (D × Heap)) (p : FuncId → List D → Option D) : okFn Try.prog (Vx e p) Try.f76 v76 tm76 bs76 = true := by kernel_rfl
theorem nm76 : Try.f76.name ≠ "runtime.NumGoroutine" := by decide +kernel
theorem ok81 (e : FuncId → List D → Heap → Option (D × Heap)) (p : FuncId → List D → Option D) : okFn Try.prog (Vx e p) Try.f81 v81 tm81 bs81 = true := by kernel_rfl
theorem nm81 : Try.f81.name ≠ "runtime.NumGoroutine" := by decide +kernel
theorem ok85 (e : FuncId → List D → Heap → Option (D × Heap)) (p : FuncId → List D → Option D) : okFn Try.prog (Vx e p) Try.f85 v85 tm85 bs85 = true := by kernel_rfl
theorem nm85 : Try.f85.name ≠ "runtime.NumGoroutine" := by decide +kernel
theorem ok89 (e : FuncId → List D → Heap → Option (D × Heap)) (p : FuncId → List D → Option D) : okFn Try.prog (Vx e p) Try.f89 v89 tm89 bs89 = true := by kernel_rfl
theorem nm89 : Try.f89.name ≠ "runtime.NumGoroutine" := by decide +kernel
theorem ok93 (e : FuncId → List D → Heap → Option (D × Heap)) (p : FuncId → List D → Option D) : okFn Try.prog (Vx e p) Try.f93 v93 tm93 bs93 = true := by kernel_rfl
theorem nm93 : Try.f93.name ≠ "runtime.NumGoroutine" := by decide +kernel
end Go.Proofs.Ytkogdbgccjmaoaa.Dv
