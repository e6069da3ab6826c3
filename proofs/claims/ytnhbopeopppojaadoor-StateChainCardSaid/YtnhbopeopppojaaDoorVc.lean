/-
  The machine's code is the program's, function by function.
-/
import Derived.Test.YtnhbopeopppojaaDoorProg
import Derived.KernelRfl
import Derived.Test.YtnhbopeopppojaaDoorDa
import Derived.Test.YtnhbopeopppojaaDoorV
namespace Go.Proofs.YtnhbopeopppojaaDoor.Dv
open Go.Dm Go.Proofs

theorem ok5 (e : FuncId → List D → Heap → Option (D × Heap)) (p : FuncId → List D → Option D) : okFn Tryd.prog (Vx e p) Tryd.f5 v5 tm5 bs5 = true := by kernel_rfl
theorem nm5 : Tryd.f5.name ≠ "runtime.NumGoroutine" := by decide +kernel
theorem ok9 (e : FuncId → List D → Heap → Option (D × Heap)) (p : FuncId → List D → Option D) : okFn Tryd.prog (Vx e p) Tryd.f9 v9 tm9 bs9 = true := by kernel_rfl
theorem nm9 : Tryd.f9.name ≠ "runtime.NumGoroutine" := by decide +kernel
theorem ok13 (e : FuncId → List D → Heap → Option (D × Heap)) (p : FuncId → List D → Option D) : okFn Tryd.prog (Vx e p) Tryd.f13 v13 tm13 bs13 = true := by kernel_rfl
theorem nm13 : Tryd.f13.name ≠ "runtime.NumGoroutine" := by decide +kernel
theorem ok17 (e : FuncId → List D → Heap → Option (D × Heap)) (p : FuncId → List D → Option D) : okFn Tryd.prog (Vx e p) Tryd.f17 v17 tm17 bs17 = true := by kernel_rfl
theorem nm17 : Tryd.f17.name ≠ "runtime.NumGoroutine" := by decide +kernel
theorem ok21 (e : FuncId → List D → Heap → Option (D × Heap)) (p : FuncId → List D → Option D) : okFn Tryd.prog (Vx e p) Tryd.f21 v21 tm21 bs21 = true := by kernel_rfl
theorem nm21 : Tryd.f21.name ≠ "runtime.NumGoroutine" := by decide +kernel
theorem ok25 (e : FuncId → List D → Heap → Option (D × Heap)) (p : FuncId → List D → Option D) : okFn Tryd.prog (Vx e p) Tryd.f25 v25 tm25 bs25 = true := by kernel_rfl
theorem nm25 : Tryd.f25.name ≠ "runtime.NumGoroutine" := by decide +kernel
theorem ok29 (e : FuncId → List D → Heap → Option (D × Heap)) (p : FuncId → List D → Option D) : okFn Tryd.prog (Vx e p) Tryd.f29 v29 tm29 bs29 = true := by kernel_rfl
theorem nm29 : Tryd.f29.name ≠ "runtime.NumGoroutine" := by decide +kernel
theorem ok33 (e : FuncId → List D → Heap → Option (D × Heap)) (p : FuncId → List D → Option D) : okFn Tryd.prog (Vx e p) Tryd.f33 v33 tm33 bs33 = true := by kernel_rfl
theorem nm33 : Tryd.f33.name ≠ "runtime.NumGoroutine" := by decide +kernel
theorem ok38 (e : FuncId → List D → Heap → Option (D × Heap)) (p : FuncId → List D → Option D) : okFn Tryd.prog (Vx e p) Tryd.f38 v38 tm38 bs38 = true := by kernel_rfl
theorem nm38 : Tryd.f38.name ≠ "runtime.NumGoroutine" := by decide +kernel
theorem ok42 (e : FuncId → List D → Heap → Option (D × Heap)) (p : FuncId → List D → Option D) : okFn Tryd.prog (Vx e p) Tryd.f42 v42 tm42 bs42 = true := by kernel_rfl
theorem nm42 : Tryd.f42.name ≠ "runtime.NumGoroutine" := by decide +kernel
theorem ok46 (e : FuncId → List D → Heap → Option (D × Heap)) (p : FuncId → List D → Option D) : okFn Tryd.prog (Vx e p) Tryd.f46 v46 tm46 bs46 = true := by kernel_rfl
theorem nm46 : Tryd.f46.name ≠ "runtime.NumGoroutine" := by decide +kernel
theorem ok50 (e : FuncId → List D → Heap → Option (D × Heap)) (p : FuncId → List D → Option D) : okFn Tryd.prog (Vx e p) Tryd.f50 v50 tm50 bs50 = true := by kernel_rfl
theorem nm50 : Tryd.f50.name ≠ "runtime.NumGoroutine" := by decide +kernel
theorem ok54 (e : FuncId → List D → Heap → Option (D × Heap)) (p : FuncId → List D → Option D) : okFn Tryd.prog (Vx e p) Tryd.f54 v54 tm54 bs54 = true := by kernel_rfl
theorem nm54 : Tryd.f54.name ≠ "runtime.NumGoroutine" := by decide +kernel
theorem ok58 (e : FuncId → List D → Heap → Option (D × Heap)) (p : FuncId → List D → Option D) : okFn Tryd.prog (Vx e p) Tryd.f58 v58 tm58 bs58 = true := by kernel_rfl
theorem nm58 : Tryd.f58.name ≠ "runtime.NumGoroutine" := by decide +kernel
theorem ok62 (e : FuncId → List D → Heap → Option (D × Heap)) (p : FuncId → List D → Option D) : okFn Tryd.prog (Vx e p) Tryd.f62 v62 tm62 bs62 = true := by kernel_rfl
theorem nm62 : Tryd.f62.name ≠ "runtime.NumGoroutine" := by decide +kernel
theorem ok66 (e : FuncId → List D → Heap → Option (D × Heap)) (p : FuncId → List D → Option D) : okFn Tryd.prog (Vx e p) Tryd.f66 v66 tm66 bs66 = true := by kernel_rfl
theorem nm66 : Tryd.f66.name ≠ "runtime.NumGoroutine" := by decide +kernel
theorem ok70 (e : FuncId → List D → Heap → Option (D × Heap)) (p : FuncId → List D → Option D) : okFn Tryd.prog (Vx e p) Tryd.f70 v70 tm70 bs70 = true := by kernel_rfl
theorem nm70 : Tryd.f70.name ≠ "runtime.NumGoroutine" := by decide +kernel
theorem ok75 (e : FuncId → List D → Heap → Option (D × Heap)) (p : FuncId → List D → Option D) : okFn Tryd.prog (Vx e p) Tryd.f75 v75 tm75 bs75 = true := by kernel_rfl
theorem nm75 : Tryd.f75.name ≠ "runtime.NumGoroutine" := by decide +kernel
theorem ok80 (e : FuncId → List D → Heap → Option (D × Heap)) (p : FuncId → List D → Option D) : okFn Tryd.prog (Vx e p) Tryd.f80 v80 tm80 bs80 = true := by kernel_rfl
theorem nm80 : Tryd.f80.name ≠ "runtime.NumGoroutine" := by decide +kernel
theorem ok84 (e : FuncId → List D → Heap → Option (D × Heap)) (p : FuncId → List D → Option D) : okFn Tryd.prog (Vx e p) Tryd.f84 v84 tm84 bs84 = true := by kernel_rfl
theorem nm84 : Tryd.f84.name ≠ "runtime.NumGoroutine" := by decide +kernel
theorem ok91 (e : FuncId → List D → Heap → Option (D × Heap)) (p : FuncId → List D → Option D) : okFn Tryd.prog (Vx e p) Tryd.f91 v91 tm91 bs91 = true := by kernel_rfl
theorem nm91 : Tryd.f91.name ≠ "runtime.NumGoroutine" := by decide +kernel
theorem ok95 (e : FuncId → List D → Heap → Option (D × Heap)) (p : FuncId → List D → Option D) : okFn Tryd.prog (Vx e p) Tryd.f95 v95 tm95 bs95 = true := by kernel_rfl
theorem nm95 : Tryd.f95.name ≠ "runtime.NumGoroutine" := by decide +kernel
theorem ok101 (e : FuncId → List D → Heap → Option (D × Heap)) (p : FuncId → List D → Option D) : okFn Tryd.prog (Vx e p) Tryd.f101 v101 tm101 bs101 = true := by kernel_rfl
theorem nm101 : Tryd.f101.name ≠ "runtime.NumGoroutine" := by decide +kernel
theorem ok105 (e : FuncId → List D → Heap → Option (D × Heap)) (p : FuncId → List D → Option D) : okFn Tryd.prog (Vx e p) Tryd.f105 v105 tm105 bs105 = true := by kernel_rfl
theorem nm105 : Tryd.f105.name ≠ "runtime.NumGoroutine" := by decide +kernel
theorem ok114 (e : FuncId → List D → Heap → Option (D × Heap)) (p : FuncId → List D → Option D) : okFn Tryd.prog (Vx e p) Tryd.f114 v114 tm114 bs114 = true := by kernel_rfl
theorem nm114 : Tryd.f114.name ≠ "runtime.NumGoroutine" := by decide +kernel
theorem ok118 (e : FuncId → List D → Heap → Option (D × Heap)) (p : FuncId → List D → Option D) : okFn Tryd.prog (Vx e p) Tryd.f118 v118 tm118 bs118 = true := by kernel_rfl
theorem nm118 : Tryd.f118.name ≠ "runtime.NumGoroutine" := by decide +kernel
end Go.Proofs.YtnhbopeopppojaaDoor.Dv
