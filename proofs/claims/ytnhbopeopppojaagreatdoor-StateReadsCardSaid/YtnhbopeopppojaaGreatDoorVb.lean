/-
  The machine's code is the program's, function by function.
-/
import Derived.Test.YtnhbopeopppojaaGreatDoorProg
import Derived.KernelRfl
import Derived.Test.YtnhbopeopppojaaGreatDoorDa
import Derived.Test.YtnhbopeopppojaaGreatDoorV
namespace Go.Proofs.YtnhbopeopppojaaGreatDoor.Dv
open Go.Dm Go.Proofs

theorem ok4 (e : FuncId → List D → Heap → Option (D × Heap)) (p : FuncId → List D → Option D) : okFn Tryz.prog (Vx e p) Tryz.f4 v4 tm4 bs4 = true := by kernel_rfl
theorem nm4 : Tryz.f4.name ≠ "runtime.NumGoroutine" := by decide +kernel
theorem ok8 (e : FuncId → List D → Heap → Option (D × Heap)) (p : FuncId → List D → Option D) : okFn Tryz.prog (Vx e p) Tryz.f8 v8 tm8 bs8 = true := by kernel_rfl
theorem nm8 : Tryz.f8.name ≠ "runtime.NumGoroutine" := by decide +kernel
theorem ok13 (e : FuncId → List D → Heap → Option (D × Heap)) (p : FuncId → List D → Option D) : okFn Tryz.prog (Vx e p) Tryz.f13 v13 tm13 bs13 = true := by kernel_rfl
theorem nm13 : Tryz.f13.name ≠ "runtime.NumGoroutine" := by decide +kernel
theorem ok17 (e : FuncId → List D → Heap → Option (D × Heap)) (p : FuncId → List D → Option D) : okFn Tryz.prog (Vx e p) Tryz.f17 v17 tm17 bs17 = true := by kernel_rfl
theorem nm17 : Tryz.f17.name ≠ "runtime.NumGoroutine" := by decide +kernel
theorem ok21 (e : FuncId → List D → Heap → Option (D × Heap)) (p : FuncId → List D → Option D) : okFn Tryz.prog (Vx e p) Tryz.f21 v21 tm21 bs21 = true := by kernel_rfl
theorem nm21 : Tryz.f21.name ≠ "runtime.NumGoroutine" := by decide +kernel
theorem ok25 (e : FuncId → List D → Heap → Option (D × Heap)) (p : FuncId → List D → Option D) : okFn Tryz.prog (Vx e p) Tryz.f25 v25 tm25 bs25 = true := by kernel_rfl
theorem nm25 : Tryz.f25.name ≠ "runtime.NumGoroutine" := by decide +kernel
theorem ok29 (e : FuncId → List D → Heap → Option (D × Heap)) (p : FuncId → List D → Option D) : okFn Tryz.prog (Vx e p) Tryz.f29 v29 tm29 bs29 = true := by kernel_rfl
theorem nm29 : Tryz.f29.name ≠ "runtime.NumGoroutine" := by decide +kernel
theorem ok33 (e : FuncId → List D → Heap → Option (D × Heap)) (p : FuncId → List D → Option D) : okFn Tryz.prog (Vx e p) Tryz.f33 v33 tm33 bs33 = true := by kernel_rfl
theorem nm33 : Tryz.f33.name ≠ "runtime.NumGoroutine" := by decide +kernel
theorem ok37 (e : FuncId → List D → Heap → Option (D × Heap)) (p : FuncId → List D → Option D) : okFn Tryz.prog (Vx e p) Tryz.f37 v37 tm37 bs37 = true := by kernel_rfl
theorem nm37 : Tryz.f37.name ≠ "runtime.NumGoroutine" := by decide +kernel
theorem ok42 (e : FuncId → List D → Heap → Option (D × Heap)) (p : FuncId → List D → Option D) : okFn Tryz.prog (Vx e p) Tryz.f42 v42 tm42 bs42 = true := by kernel_rfl
theorem nm42 : Tryz.f42.name ≠ "runtime.NumGoroutine" := by decide +kernel
theorem ok46 (e : FuncId → List D → Heap → Option (D × Heap)) (p : FuncId → List D → Option D) : okFn Tryz.prog (Vx e p) Tryz.f46 v46 tm46 bs46 = true := by kernel_rfl
theorem nm46 : Tryz.f46.name ≠ "runtime.NumGoroutine" := by decide +kernel
theorem ok51 (e : FuncId → List D → Heap → Option (D × Heap)) (p : FuncId → List D → Option D) : okFn Tryz.prog (Vx e p) Tryz.f51 v51 tm51 bs51 = true := by kernel_rfl
theorem nm51 : Tryz.f51.name ≠ "runtime.NumGoroutine" := by decide +kernel
theorem ok55 (e : FuncId → List D → Heap → Option (D × Heap)) (p : FuncId → List D → Option D) : okFn Tryz.prog (Vx e p) Tryz.f55 v55 tm55 bs55 = true := by kernel_rfl
theorem nm55 : Tryz.f55.name ≠ "runtime.NumGoroutine" := by decide +kernel
theorem ok59 (e : FuncId → List D → Heap → Option (D × Heap)) (p : FuncId → List D → Option D) : okFn Tryz.prog (Vx e p) Tryz.f59 v59 tm59 bs59 = true := by kernel_rfl
theorem nm59 : Tryz.f59.name ≠ "runtime.NumGoroutine" := by decide +kernel
theorem ok63 (e : FuncId → List D → Heap → Option (D × Heap)) (p : FuncId → List D → Option D) : okFn Tryz.prog (Vx e p) Tryz.f63 v63 tm63 bs63 = true := by kernel_rfl
theorem nm63 : Tryz.f63.name ≠ "runtime.NumGoroutine" := by decide +kernel
theorem ok67 (e : FuncId → List D → Heap → Option (D × Heap)) (p : FuncId → List D → Option D) : okFn Tryz.prog (Vx e p) Tryz.f67 v67 tm67 bs67 = true := by kernel_rfl
theorem nm67 : Tryz.f67.name ≠ "runtime.NumGoroutine" := by decide +kernel
theorem ok72 (e : FuncId → List D → Heap → Option (D × Heap)) (p : FuncId → List D → Option D) : okFn Tryz.prog (Vx e p) Tryz.f72 v72 tm72 bs72 = true := by kernel_rfl
theorem nm72 : Tryz.f72.name ≠ "runtime.NumGoroutine" := by decide +kernel
theorem ok76 (e : FuncId → List D → Heap → Option (D × Heap)) (p : FuncId → List D → Option D) : okFn Tryz.prog (Vx e p) Tryz.f76 v76 tm76 bs76 = true := by kernel_rfl
theorem nm76 : Tryz.f76.name ≠ "runtime.NumGoroutine" := by decide +kernel
theorem ok80 (e : FuncId → List D → Heap → Option (D × Heap)) (p : FuncId → List D → Option D) : okFn Tryz.prog (Vx e p) Tryz.f80 v80 tm80 bs80 = true := by kernel_rfl
theorem nm80 : Tryz.f80.name ≠ "runtime.NumGoroutine" := by decide +kernel
theorem ok84 (e : FuncId → List D → Heap → Option (D × Heap)) (p : FuncId → List D → Option D) : okFn Tryz.prog (Vx e p) Tryz.f84 v84 tm84 bs84 = true := by kernel_rfl
theorem nm84 : Tryz.f84.name ≠ "runtime.NumGoroutine" := by decide +kernel
theorem ok88 (e : FuncId → List D → Heap → Option (D × Heap)) (p : FuncId → List D → Option D) : okFn Tryz.prog (Vx e p) Tryz.f88 v88 tm88 bs88 = true := by kernel_rfl
theorem nm88 : Tryz.f88.name ≠ "runtime.NumGoroutine" := by decide +kernel
theorem ok92 (e : FuncId → List D → Heap → Option (D × Heap)) (p : FuncId → List D → Option D) : okFn Tryz.prog (Vx e p) Tryz.f92 v92 tm92 bs92 = true := by kernel_rfl
theorem nm92 : Tryz.f92.name ≠ "runtime.NumGoroutine" := by decide +kernel
theorem ok96 (e : FuncId → List D → Heap → Option (D × Heap)) (p : FuncId → List D → Option D) : okFn Tryz.prog (Vx e p) Tryz.f96 v96 tm96 bs96 = true := by kernel_rfl
theorem nm96 : Tryz.f96.name ≠ "runtime.NumGoroutine" := by decide +kernel
theorem ok103 (e : FuncId → List D → Heap → Option (D × Heap)) (p : FuncId → List D → Option D) : okFn Tryz.prog (Vx e p) Tryz.f103 v103 tm103 bs103 = true := by kernel_rfl
theorem nm103 : Tryz.f103.name ≠ "runtime.NumGoroutine" := by decide +kernel
theorem ok107 (e : FuncId → List D → Heap → Option (D × Heap)) (p : FuncId → List D → Option D) : okFn Tryz.prog (Vx e p) Tryz.f107 v107 tm107 bs107 = true := by kernel_rfl
theorem nm107 : Tryz.f107.name ≠ "runtime.NumGoroutine" := by decide +kernel
theorem ok113 (e : FuncId → List D → Heap → Option (D × Heap)) (p : FuncId → List D → Option D) : okFn Tryz.prog (Vx e p) Tryz.f113 v113 tm113 bs113 = true := by kernel_rfl
theorem nm113 : Tryz.f113.name ≠ "runtime.NumGoroutine" := by decide +kernel
end Go.Proofs.YtnhbopeopppojaaGreatDoor.Dv
