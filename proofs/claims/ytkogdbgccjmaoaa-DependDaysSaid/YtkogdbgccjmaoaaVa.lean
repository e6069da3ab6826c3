/-
  The machine's code is the program's, function by function.
-/
import Derived.Test.YtkogdbgccjmaoaaProg
import Derived.KernelRfl
import Derived.Test.YtkogdbgccjmaoaaDa
import Derived.Test.YtkogdbgccjmaoaaV
namespace Go.Proofs.Ytkogdbgccjmaoaa.Dv
open Go.Dm Go.Proofs

theorem ok3 (e : FuncId → List D → Heap → Option (D × Heap)) (p : FuncId → List D → Option D) : okFn Try.prog (Vx e p) Try.f3 v3 tm3 bs3 = true := by kernel_rfl
theorem nm3 : Try.f3.name ≠ "runtime.NumGoroutine" := by decide +kernel
theorem ok9 (e : FuncId → List D → Heap → Option (D × Heap)) (p : FuncId → List D → Option D) : okFn Try.prog (Vx e p) Try.f9 v9 tm9 bs9 = true := by kernel_rfl
theorem nm9 : Try.f9.name ≠ "runtime.NumGoroutine" := by decide +kernel
theorem ok13 (e : FuncId → List D → Heap → Option (D × Heap)) (p : FuncId → List D → Option D) : okFn Try.prog (Vx e p) Try.f13 v13 tm13 bs13 = true := by kernel_rfl
theorem nm13 : Try.f13.name ≠ "runtime.NumGoroutine" := by decide +kernel
theorem ok17 (e : FuncId → List D → Heap → Option (D × Heap)) (p : FuncId → List D → Option D) : okFn Try.prog (Vx e p) Try.f17 v17 tm17 bs17 = true := by kernel_rfl
theorem nm17 : Try.f17.name ≠ "runtime.NumGoroutine" := by decide +kernel
theorem ok29 (e : FuncId → List D → Heap → Option (D × Heap)) (p : FuncId → List D → Option D) : okFn Try.prog (Vx e p) Try.f29 v29 tm29 bs29 = true := by kernel_rfl
theorem nm29 : Try.f29.name ≠ "runtime.NumGoroutine" := by decide +kernel
theorem ok33 (e : FuncId → List D → Heap → Option (D × Heap)) (p : FuncId → List D → Option D) : okFn Try.prog (Vx e p) Try.f33 v33 tm33 bs33 = true := by kernel_rfl
theorem nm33 : Try.f33.name ≠ "runtime.NumGoroutine" := by decide +kernel
theorem ok37 (e : FuncId → List D → Heap → Option (D × Heap)) (p : FuncId → List D → Option D) : okFn Try.prog (Vx e p) Try.f37 v37 tm37 bs37 = true := by kernel_rfl
theorem nm37 : Try.f37.name ≠ "runtime.NumGoroutine" := by decide +kernel
theorem ok58 (e : FuncId → List D → Heap → Option (D × Heap)) (p : FuncId → List D → Option D) : okFn Try.prog (Vx e p) Try.f58 v58 tm58 bs58 = true := by kernel_rfl
theorem nm58 : Try.f58.name ≠ "runtime.NumGoroutine" := by decide +kernel
theorem ok62 (e : FuncId → List D → Heap → Option (D × Heap)) (p : FuncId → List D → Option D) : okFn Try.prog (Vx e p) Try.f62 v62 tm62 bs62 = true := by kernel_rfl
theorem nm62 : Try.f62.name ≠ "runtime.NumGoroutine" := by decide +kernel
theorem ok66 (e : FuncId → List D → Heap → Option (D × Heap)) (p : FuncId → List D → Option D) : okFn Try.prog (Vx e p) Try.f66 v66 tm66 bs66 = true := by kernel_rfl
theorem nm66 : Try.f66.name ≠ "runtime.NumGoroutine" := by decide +kernel
theorem ok78 (e : FuncId → List D → Heap → Option (D × Heap)) (p : FuncId → List D → Option D) : okFn Try.prog (Vx e p) Try.f78 v78 tm78 bs78 = true := by kernel_rfl
theorem nm78 : Try.f78.name ≠ "runtime.NumGoroutine" := by decide +kernel
theorem ok83 (e : FuncId → List D → Heap → Option (D × Heap)) (p : FuncId → List D → Option D) : okFn Try.prog (Vx e p) Try.f83 v83 tm83 bs83 = true := by kernel_rfl
theorem nm83 : Try.f83.name ≠ "runtime.NumGoroutine" := by decide +kernel
theorem ok87 (e : FuncId → List D → Heap → Option (D × Heap)) (p : FuncId → List D → Option D) : okFn Try.prog (Vx e p) Try.f87 v87 tm87 bs87 = true := by kernel_rfl
theorem nm87 : Try.f87.name ≠ "runtime.NumGoroutine" := by decide +kernel
theorem ok91 (e : FuncId → List D → Heap → Option (D × Heap)) (p : FuncId → List D → Option D) : okFn Try.prog (Vx e p) Try.f91 v91 tm91 bs91 = true := by kernel_rfl
theorem nm91 : Try.f91.name ≠ "runtime.NumGoroutine" := by decide +kernel
theorem ok95 (e : FuncId → List D → Heap → Option (D × Heap)) (p : FuncId → List D → Option D) : okFn Try.prog (Vx e p) Try.f95 v95 tm95 bs95 = true := by kernel_rfl
theorem nm95 : Try.f95.name ≠ "runtime.NumGoroutine" := by decide +kernel
end Go.Proofs.Ytkogdbgccjmaoaa.Dv
