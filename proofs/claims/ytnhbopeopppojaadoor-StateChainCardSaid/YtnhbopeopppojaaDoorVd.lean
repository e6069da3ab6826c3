/-
  The machine's code is the program's, function by function.
-/
import Derived.Test.YtnhbopeopppojaaDoorProg
import Derived.KernelRfl
import Derived.Test.YtnhbopeopppojaaDoorDa
import Derived.Test.YtnhbopeopppojaaDoorV
namespace Go.Proofs.YtnhbopeopppojaaDoor.Dv
open Go.Dm Go.Proofs

theorem ok6 (e : FuncId → List D → Heap → Option (D × Heap)) (p : FuncId → List D → Option D) : okFn Tryd.prog (Vx e p) Tryd.f6 v6 tm6 bs6 = true := by kernel_rfl
theorem nm6 : Tryd.f6.name ≠ "runtime.NumGoroutine" := by decide +kernel
theorem ok10 (e : FuncId → List D → Heap → Option (D × Heap)) (p : FuncId → List D → Option D) : okFn Tryd.prog (Vx e p) Tryd.f10 v10 tm10 bs10 = true := by kernel_rfl
theorem nm10 : Tryd.f10.name ≠ "runtime.NumGoroutine" := by decide +kernel
theorem ok14 (e : FuncId → List D → Heap → Option (D × Heap)) (p : FuncId → List D → Option D) : okFn Tryd.prog (Vx e p) Tryd.f14 v14 tm14 bs14 = true := by kernel_rfl
theorem nm14 : Tryd.f14.name ≠ "runtime.NumGoroutine" := by decide +kernel
theorem ok18 (e : FuncId → List D → Heap → Option (D × Heap)) (p : FuncId → List D → Option D) : okFn Tryd.prog (Vx e p) Tryd.f18 v18 tm18 bs18 = true := by kernel_rfl
theorem nm18 : Tryd.f18.name ≠ "runtime.NumGoroutine" := by decide +kernel
theorem ok22 (e : FuncId → List D → Heap → Option (D × Heap)) (p : FuncId → List D → Option D) : okFn Tryd.prog (Vx e p) Tryd.f22 v22 tm22 bs22 = true := by kernel_rfl
theorem nm22 : Tryd.f22.name ≠ "runtime.NumGoroutine" := by decide +kernel
theorem ok26 (e : FuncId → List D → Heap → Option (D × Heap)) (p : FuncId → List D → Option D) : okFn Tryd.prog (Vx e p) Tryd.f26 v26 tm26 bs26 = true := by kernel_rfl
theorem nm26 : Tryd.f26.name ≠ "runtime.NumGoroutine" := by decide +kernel
theorem ok30 (e : FuncId → List D → Heap → Option (D × Heap)) (p : FuncId → List D → Option D) : okFn Tryd.prog (Vx e p) Tryd.f30 v30 tm30 bs30 = true := by kernel_rfl
theorem nm30 : Tryd.f30.name ≠ "runtime.NumGoroutine" := by decide +kernel
theorem ok34 (e : FuncId → List D → Heap → Option (D × Heap)) (p : FuncId → List D → Option D) : okFn Tryd.prog (Vx e p) Tryd.f34 v34 tm34 bs34 = true := by kernel_rfl
theorem nm34 : Tryd.f34.name ≠ "runtime.NumGoroutine" := by decide +kernel
theorem ok39 (e : FuncId → List D → Heap → Option (D × Heap)) (p : FuncId → List D → Option D) : okFn Tryd.prog (Vx e p) Tryd.f39 v39 tm39 bs39 = true := by kernel_rfl
theorem nm39 : Tryd.f39.name ≠ "runtime.NumGoroutine" := by decide +kernel
theorem ok43 (e : FuncId → List D → Heap → Option (D × Heap)) (p : FuncId → List D → Option D) : okFn Tryd.prog (Vx e p) Tryd.f43 v43 tm43 bs43 = true := by kernel_rfl
theorem nm43 : Tryd.f43.name ≠ "runtime.NumGoroutine" := by decide +kernel
theorem ok47 (e : FuncId → List D → Heap → Option (D × Heap)) (p : FuncId → List D → Option D) : okFn Tryd.prog (Vx e p) Tryd.f47 v47 tm47 bs47 = true := by kernel_rfl
theorem nm47 : Tryd.f47.name ≠ "runtime.NumGoroutine" := by decide +kernel
theorem ok51 (e : FuncId → List D → Heap → Option (D × Heap)) (p : FuncId → List D → Option D) : okFn Tryd.prog (Vx e p) Tryd.f51 v51 tm51 bs51 = true := by kernel_rfl
theorem nm51 : Tryd.f51.name ≠ "runtime.NumGoroutine" := by decide +kernel
theorem ok55 (e : FuncId → List D → Heap → Option (D × Heap)) (p : FuncId → List D → Option D) : okFn Tryd.prog (Vx e p) Tryd.f55 v55 tm55 bs55 = true := by kernel_rfl
theorem nm55 : Tryd.f55.name ≠ "runtime.NumGoroutine" := by decide +kernel
theorem ok59 (e : FuncId → List D → Heap → Option (D × Heap)) (p : FuncId → List D → Option D) : okFn Tryd.prog (Vx e p) Tryd.f59 v59 tm59 bs59 = true := by kernel_rfl
theorem nm59 : Tryd.f59.name ≠ "runtime.NumGoroutine" := by decide +kernel
theorem ok63 (e : FuncId → List D → Heap → Option (D × Heap)) (p : FuncId → List D → Option D) : okFn Tryd.prog (Vx e p) Tryd.f63 v63 tm63 bs63 = true := by kernel_rfl
theorem nm63 : Tryd.f63.name ≠ "runtime.NumGoroutine" := by decide +kernel
theorem ok67 (e : FuncId → List D → Heap → Option (D × Heap)) (p : FuncId → List D → Option D) : okFn Tryd.prog (Vx e p) Tryd.f67 v67 tm67 bs67 = true := by kernel_rfl
theorem nm67 : Tryd.f67.name ≠ "runtime.NumGoroutine" := by decide +kernel
theorem ok71 (e : FuncId → List D → Heap → Option (D × Heap)) (p : FuncId → List D → Option D) : okFn Tryd.prog (Vx e p) Tryd.f71 v71 tm71 bs71 = true := by kernel_rfl
theorem nm71 : Tryd.f71.name ≠ "runtime.NumGoroutine" := by decide +kernel
theorem ok77 (e : FuncId → List D → Heap → Option (D × Heap)) (p : FuncId → List D → Option D) : okFn Tryd.prog (Vx e p) Tryd.f77 v77 tm77 bs77 = true := by kernel_rfl
theorem nm77 : Tryd.f77.name ≠ "runtime.NumGoroutine" := by decide +kernel
theorem ok81 (e : FuncId → List D → Heap → Option (D × Heap)) (p : FuncId → List D → Option D) : okFn Tryd.prog (Vx e p) Tryd.f81 v81 tm81 bs81 = true := by kernel_rfl
theorem nm81 : Tryd.f81.name ≠ "runtime.NumGoroutine" := by decide +kernel
theorem ok88 (e : FuncId → List D → Heap → Option (D × Heap)) (p : FuncId → List D → Option D) : okFn Tryd.prog (Vx e p) Tryd.f88 v88 tm88 bs88 = true := by kernel_rfl
theorem nm88 : Tryd.f88.name ≠ "runtime.NumGoroutine" := by decide +kernel
theorem ok92 (e : FuncId → List D → Heap → Option (D × Heap)) (p : FuncId → List D → Option D) : okFn Tryd.prog (Vx e p) Tryd.f92 v92 tm92 bs92 = true := by kernel_rfl
theorem nm92 : Tryd.f92.name ≠ "runtime.NumGoroutine" := by decide +kernel
theorem ok96 (e : FuncId → List D → Heap → Option (D × Heap)) (p : FuncId → List D → Option D) : okFn Tryd.prog (Vx e p) Tryd.f96 v96 tm96 bs96 = true := by kernel_rfl
theorem nm96 : Tryd.f96.name ≠ "runtime.NumGoroutine" := by decide +kernel
theorem ok102 (e : FuncId → List D → Heap → Option (D × Heap)) (p : FuncId → List D → Option D) : okFn Tryd.prog (Vx e p) Tryd.f102 v102 tm102 bs102 = true := by kernel_rfl
theorem nm102 : Tryd.f102.name ≠ "runtime.NumGoroutine" := by decide +kernel
theorem ok106 (e : FuncId → List D → Heap → Option (D × Heap)) (p : FuncId → List D → Option D) : okFn Tryd.prog (Vx e p) Tryd.f106 v106 tm106 bs106 = true := by kernel_rfl
theorem nm106 : Tryd.f106.name ≠ "runtime.NumGoroutine" := by decide +kernel
theorem ok115 (e : FuncId → List D → Heap → Option (D × Heap)) (p : FuncId → List D → Option D) : okFn Tryd.prog (Vx e p) Tryd.f115 v115 tm115 bs115 = true := by kernel_rfl
theorem nm115 : Tryd.f115.name ≠ "runtime.NumGoroutine" := by decide +kernel
theorem ok124 (e : FuncId → List D → Heap → Option (D × Heap)) (p : FuncId → List D → Option D) : okFn Tryd.prog (Vx e p) Tryd.f124 v124 tm124 bs124 = true := by kernel_rfl
theorem nm124 : Tryd.f124.name ≠ "runtime.NumGoroutine" := by decide +kernel
end Go.Proofs.YtnhbopeopppojaaDoor.Dv
