/-
  The machine's code is the program's, function by function.
-/
import Derived.Test.YtnhbopeopppojaaDoorProg
import Derived.KernelRfl
import Derived.Test.YtnhbopeopppojaaDoorDa
import Derived.Test.YtnhbopeopppojaaDoorV
namespace Go.Proofs.YtnhbopeopppojaaDoor.Dv
open Go.Dm Go.Proofs

theorem ok3 (e : FuncId → List D → Heap → Option (D × Heap)) (p : FuncId → List D → Option D) : okFn Tryd.prog (Vx e p) Tryd.f3 v3 tm3 bs3 = true := by kernel_rfl
theorem nm3 : Tryd.f3.name ≠ "runtime.NumGoroutine" := by decide +kernel
theorem ok7 (e : FuncId → List D → Heap → Option (D × Heap)) (p : FuncId → List D → Option D) : okFn Tryd.prog (Vx e p) Tryd.f7 v7 tm7 bs7 = true := by kernel_rfl
theorem nm7 : Tryd.f7.name ≠ "runtime.NumGoroutine" := by decide +kernel
theorem ok11 (e : FuncId → List D → Heap → Option (D × Heap)) (p : FuncId → List D → Option D) : okFn Tryd.prog (Vx e p) Tryd.f11 v11 tm11 bs11 = true := by kernel_rfl
theorem nm11 : Tryd.f11.name ≠ "runtime.NumGoroutine" := by decide +kernel
theorem ok15 (e : FuncId → List D → Heap → Option (D × Heap)) (p : FuncId → List D → Option D) : okFn Tryd.prog (Vx e p) Tryd.f15 v15 tm15 bs15 = true := by kernel_rfl
theorem nm15 : Tryd.f15.name ≠ "runtime.NumGoroutine" := by decide +kernel
theorem ok19 (e : FuncId → List D → Heap → Option (D × Heap)) (p : FuncId → List D → Option D) : okFn Tryd.prog (Vx e p) Tryd.f19 v19 tm19 bs19 = true := by kernel_rfl
theorem nm19 : Tryd.f19.name ≠ "runtime.NumGoroutine" := by decide +kernel
theorem ok23 (e : FuncId → List D → Heap → Option (D × Heap)) (p : FuncId → List D → Option D) : okFn Tryd.prog (Vx e p) Tryd.f23 v23 tm23 bs23 = true := by kernel_rfl
theorem nm23 : Tryd.f23.name ≠ "runtime.NumGoroutine" := by decide +kernel
theorem ok27 (e : FuncId → List D → Heap → Option (D × Heap)) (p : FuncId → List D → Option D) : okFn Tryd.prog (Vx e p) Tryd.f27 v27 tm27 bs27 = true := by kernel_rfl
theorem nm27 : Tryd.f27.name ≠ "runtime.NumGoroutine" := by decide +kernel
theorem ok31 (e : FuncId → List D → Heap → Option (D × Heap)) (p : FuncId → List D → Option D) : okFn Tryd.prog (Vx e p) Tryd.f31 v31 tm31 bs31 = true := by kernel_rfl
theorem nm31 : Tryd.f31.name ≠ "runtime.NumGoroutine" := by decide +kernel
theorem ok35 (e : FuncId → List D → Heap → Option (D × Heap)) (p : FuncId → List D → Option D) : okFn Tryd.prog (Vx e p) Tryd.f35 v35 tm35 bs35 = true := by kernel_rfl
theorem nm35 : Tryd.f35.name ≠ "runtime.NumGoroutine" := by decide +kernel
theorem ok40 (e : FuncId → List D → Heap → Option (D × Heap)) (p : FuncId → List D → Option D) : okFn Tryd.prog (Vx e p) Tryd.f40 v40 tm40 bs40 = true := by kernel_rfl
theorem nm40 : Tryd.f40.name ≠ "runtime.NumGoroutine" := by decide +kernel
theorem ok44 (e : FuncId → List D → Heap → Option (D × Heap)) (p : FuncId → List D → Option D) : okFn Tryd.prog (Vx e p) Tryd.f44 v44 tm44 bs44 = true := by kernel_rfl
theorem nm44 : Tryd.f44.name ≠ "runtime.NumGoroutine" := by decide +kernel
theorem ok48 (e : FuncId → List D → Heap → Option (D × Heap)) (p : FuncId → List D → Option D) : okFn Tryd.prog (Vx e p) Tryd.f48 v48 tm48 bs48 = true := by kernel_rfl
theorem nm48 : Tryd.f48.name ≠ "runtime.NumGoroutine" := by decide +kernel
theorem ok52 (e : FuncId → List D → Heap → Option (D × Heap)) (p : FuncId → List D → Option D) : okFn Tryd.prog (Vx e p) Tryd.f52 v52 tm52 bs52 = true := by kernel_rfl
theorem nm52 : Tryd.f52.name ≠ "runtime.NumGoroutine" := by decide +kernel
theorem ok56 (e : FuncId → List D → Heap → Option (D × Heap)) (p : FuncId → List D → Option D) : okFn Tryd.prog (Vx e p) Tryd.f56 v56 tm56 bs56 = true := by kernel_rfl
theorem nm56 : Tryd.f56.name ≠ "runtime.NumGoroutine" := by decide +kernel
theorem ok60 (e : FuncId → List D → Heap → Option (D × Heap)) (p : FuncId → List D → Option D) : okFn Tryd.prog (Vx e p) Tryd.f60 v60 tm60 bs60 = true := by kernel_rfl
theorem nm60 : Tryd.f60.name ≠ "runtime.NumGoroutine" := by decide +kernel
theorem ok64 (e : FuncId → List D → Heap → Option (D × Heap)) (p : FuncId → List D → Option D) : okFn Tryd.prog (Vx e p) Tryd.f64 v64 tm64 bs64 = true := by kernel_rfl
theorem nm64 : Tryd.f64.name ≠ "runtime.NumGoroutine" := by decide +kernel
theorem ok68 (e : FuncId → List D → Heap → Option (D × Heap)) (p : FuncId → List D → Option D) : okFn Tryd.prog (Vx e p) Tryd.f68 v68 tm68 bs68 = true := by kernel_rfl
theorem nm68 : Tryd.f68.name ≠ "runtime.NumGoroutine" := by decide +kernel
theorem ok72 (e : FuncId → List D → Heap → Option (D × Heap)) (p : FuncId → List D → Option D) : okFn Tryd.prog (Vx e p) Tryd.f72 v72 tm72 bs72 = true := by kernel_rfl
theorem nm72 : Tryd.f72.name ≠ "runtime.NumGoroutine" := by decide +kernel
theorem ok78 (e : FuncId → List D → Heap → Option (D × Heap)) (p : FuncId → List D → Option D) : okFn Tryd.prog (Vx e p) Tryd.f78 v78 tm78 bs78 = true := by kernel_rfl
theorem nm78 : Tryd.f78.name ≠ "runtime.NumGoroutine" := by decide +kernel
theorem ok82 (e : FuncId → List D → Heap → Option (D × Heap)) (p : FuncId → List D → Option D) : okFn Tryd.prog (Vx e p) Tryd.f82 v82 tm82 bs82 = true := by kernel_rfl
theorem nm82 : Tryd.f82.name ≠ "runtime.NumGoroutine" := by decide +kernel
theorem ok89 (e : FuncId → List D → Heap → Option (D × Heap)) (p : FuncId → List D → Option D) : okFn Tryd.prog (Vx e p) Tryd.f89 v89 tm89 bs89 = true := by kernel_rfl
theorem nm89 : Tryd.f89.name ≠ "runtime.NumGoroutine" := by decide +kernel
theorem ok93 (e : FuncId → List D → Heap → Option (D × Heap)) (p : FuncId → List D → Option D) : okFn Tryd.prog (Vx e p) Tryd.f93 v93 tm93 bs93 = true := by kernel_rfl
theorem nm93 : Tryd.f93.name ≠ "runtime.NumGoroutine" := by decide +kernel
theorem ok97 (e : FuncId → List D → Heap → Option (D × Heap)) (p : FuncId → List D → Option D) : okFn Tryd.prog (Vx e p) Tryd.f97 v97 tm97 bs97 = true := by kernel_rfl
theorem nm97 : Tryd.f97.name ≠ "runtime.NumGoroutine" := by decide +kernel
theorem ok103 (e : FuncId → List D → Heap → Option (D × Heap)) (p : FuncId → List D → Option D) : okFn Tryd.prog (Vx e p) Tryd.f103 v103 tm103 bs103 = true := by kernel_rfl
theorem nm103 : Tryd.f103.name ≠ "runtime.NumGoroutine" := by decide +kernel
theorem ok107 (e : FuncId → List D → Heap → Option (D × Heap)) (p : FuncId → List D → Option D) : okFn Tryd.prog (Vx e p) Tryd.f107 v107 tm107 bs107 = true := by kernel_rfl
theorem nm107 : Tryd.f107.name ≠ "runtime.NumGoroutine" := by decide +kernel
theorem ok116 (e : FuncId → List D → Heap → Option (D × Heap)) (p : FuncId → List D → Option D) : okFn Tryd.prog (Vx e p) Tryd.f116 v116 tm116 bs116 = true := by kernel_rfl
theorem nm116 : Tryd.f116.name ≠ "runtime.NumGoroutine" := by decide +kernel
theorem ok125 (e : FuncId → List D → Heap → Option (D × Heap)) (p : FuncId → List D → Option D) : okFn Tryd.prog (Vx e p) Tryd.f125 v125 tm125 bs125 = true := by kernel_rfl
theorem nm125 : Tryd.f125.name ≠ "runtime.NumGoroutine" := by decide +kernel
end Go.Proofs.YtnhbopeopppojaaDoor.Dv
