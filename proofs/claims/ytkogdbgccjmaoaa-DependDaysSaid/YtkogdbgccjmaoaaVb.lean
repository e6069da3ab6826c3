/-
  The machine's code is the program's, function by function.
-/
import Derived.Test.YtkogdbgccjmaoaaProg
import Derived.KernelRfl
import Derived.Test.YtkogdbgccjmaoaaDa
import Derived.Test.YtkogdbgccjmaoaaV
namespace Go.Proofs.Ytkogdbgccjmaoaa.Dv
open Go.Dm Go.Proofs

theorem ok6 (e : FuncId → List D → Heap → Option (D × Heap)) (p : FuncId → List D → Option D) : okFn Try.prog (Vx e p) Try.f6 v6 tm6 bs6 = true := by kernel_rfl
theorem nm6 : Try.f6.name ≠ "runtime.NumGoroutine" := by decide +kernel
theorem ok10 (e : FuncId → List D → Heap → Option (D × Heap)) (p : FuncId → List D → Option D) : okFn Try.prog (Vx e p) Try.f10 v10 tm10 bs10 = true := by kernel_rfl
theorem nm10 : Try.f10.name ≠ "runtime.NumGoroutine" := by decide +kernel
theorem ok14 (e : FuncId → List D → Heap → Option (D × Heap)) (p : FuncId → List D → Option D) : okFn Try.prog (Vx e p) Try.f14 v14 tm14 bs14 = true := by kernel_rfl
theorem nm14 : Try.f14.name ≠ "runtime.NumGoroutine" := by decide +kernel
theorem ok18 (e : FuncId → List D → Heap → Option (D × Heap)) (p : FuncId → List D → Option D) : okFn Try.prog (Vx e p) Try.f18 v18 tm18 bs18 = true := by kernel_rfl
theorem nm18 : Try.f18.name ≠ "runtime.NumGoroutine" := by decide +kernel
theorem ok30 (e : FuncId → List D → Heap → Option (D × Heap)) (p : FuncId → List D → Option D) : okFn Try.prog (Vx e p) Try.f30 v30 tm30 bs30 = true := by kernel_rfl
theorem nm30 : Try.f30.name ≠ "runtime.NumGoroutine" := by decide +kernel
theorem ok34 (e : FuncId → List D → Heap → Option (D × Heap)) (p : FuncId → List D → Option D) : okFn Try.prog (Vx e p) Try.f34 v34 tm34 bs34 = true := by kernel_rfl
theorem nm34 : Try.f34.name ≠ "runtime.NumGoroutine" := by decide +kernel
theorem ok55 (e : FuncId → List D → Heap → Option (D × Heap)) (p : FuncId → List D → Option D) : okFn Try.prog (Vx e p) Try.f55 v55 tm55 bs55 = true := by kernel_rfl
theorem nm55 : Try.f55.name ≠ "runtime.NumGoroutine" := by decide +kernel
theorem ok59 (e : FuncId → List D → Heap → Option (D × Heap)) (p : FuncId → List D → Option D) : okFn Try.prog (Vx e p) Try.f59 v59 tm59 bs59 = true := by kernel_rfl
theorem nm59 : Try.f59.name ≠ "runtime.NumGoroutine" := by decide +kernel
theorem ok63 (e : FuncId → List D → Heap → Option (D × Heap)) (p : FuncId → List D → Option D) : okFn Try.prog (Vx e p) Try.f63 v63 tm63 bs63 = true := by kernel_rfl
theorem nm63 : Try.f63.name ≠ "runtime.NumGoroutine" := by decide +kernel
theorem ok75 (e : FuncId → List D → Heap → Option (D × Heap)) (p : FuncId → List D → Option D) : okFn Try.prog (Vx e p) Try.f75 v75 tm75 bs75 = true := by kernel_rfl
theorem nm75 : Try.f75.name ≠ "runtime.NumGoroutine" := by decide +kernel
theorem ok79 (e : FuncId → List D → Heap → Option (D × Heap)) (p : FuncId → List D → Option D) : okFn Try.prog (Vx e p) Try.f79 v79 tm79 bs79 = true := by kernel_rfl
theorem nm79 : Try.f79.name ≠ "runtime.NumGoroutine" := by decide +kernel
theorem ok84 (e : FuncId → List D → Heap → Option (D × Heap)) (p : FuncId → List D → Option D) : okFn Try.prog (Vx e p) Try.f84 v84 tm84 bs84 = true := by kernel_rfl
theorem nm84 : Try.f84.name ≠ "runtime.NumGoroutine" := by decide +kernel
theorem ok88 (e : FuncId → List D → Heap → Option (D × Heap)) (p : FuncId → List D → Option D) : okFn Try.prog (Vx e p) Try.f88 v88 tm88 bs88 = true := by kernel_rfl
theorem nm88 : Try.f88.name ≠ "runtime.NumGoroutine" := by decide +kernel
theorem ok92 (e : FuncId → List D → Heap → Option (D × Heap)) (p : FuncId → List D → Option D) : okFn Try.prog (Vx e p) Try.f92 v92 tm92 bs92 = true := by kernel_rfl
theorem nm92 : Try.f92.name ≠ "runtime.NumGoroutine" := by decide +kernel
theorem ok96 (e : FuncId → List D → Heap → Option (D × Heap)) (p : FuncId → List D → Option D) : okFn Try.prog (Vx e p) Try.f96 v96 tm96 bs96 = true := by kernel_rfl
theorem nm96 : Try.f96.name ≠ "runtime.NumGoroutine" := by decide +kernel
end Go.Proofs.Ytkogdbgccjmaoaa.Dv
