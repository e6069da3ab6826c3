/-
  The machine's code is the program's, function by function.
-/
import Derived.Test.YtkogdbgccjmaoaaProg
import Derived.KernelRfl
import Derived.Test.YtkogdbgccjmaoaaDa
import Derived.Test.YtkogdbgccjmaoaaV
namespace Go.Proofs.Ytkogdbgccjmaoaa.Dv
open Go.Dm Go.Proofs

theorem ok5 : okFn Try.prog V Try.f5 v5 tm5 bs5 = true := by kernel_rfl
theorem nm5 : Try.f5.name ≠ "runtime.NumGoroutine" := by decide +kernel
theorem ok9 : okFn Try.prog V Try.f9 v9 tm9 bs9 = true := by kernel_rfl
theorem nm9 : Try.f9.name ≠ "runtime.NumGoroutine" := by decide +kernel
theorem ok13 : okFn Try.prog V Try.f13 v13 tm13 bs13 = true := by kernel_rfl
theorem nm13 : Try.f13.name ≠ "runtime.NumGoroutine" := by decide +kernel
theorem ok17 : okFn Try.prog V Try.f17 v17 tm17 bs17 = true := by kernel_rfl
theorem nm17 : Try.f17.name ≠ "runtime.NumGoroutine" := by decide +kernel
theorem ok21 : okFn Try.prog V Try.f21 v21 tm21 bs21 = true := by kernel_rfl
theorem nm21 : Try.f21.name ≠ "runtime.NumGoroutine" := by decide +kernel
theorem ok25 : okFn Try.prog V Try.f25 v25 tm25 bs25 = true := by kernel_rfl
theorem nm25 : Try.f25.name ≠ "runtime.NumGoroutine" := by decide +kernel
theorem ok29 : okFn Try.prog V Try.f29 v29 tm29 bs29 = true := by kernel_rfl
theorem nm29 : Try.f29.name ≠ "runtime.NumGoroutine" := by decide +kernel
theorem ok33 : okFn Try.prog V Try.f33 v33 tm33 bs33 = true := by kernel_rfl
theorem nm33 : Try.f33.name ≠ "runtime.NumGoroutine" := by decide +kernel
theorem ok37 : okFn Try.prog V Try.f37 v37 tm37 bs37 = true := by kernel_rfl
theorem nm37 : Try.f37.name ≠ "runtime.NumGoroutine" := by decide +kernel
theorem ok41 : okFn Try.prog V Try.f41 v41 tm41 bs41 = true := by kernel_rfl
theorem nm41 : Try.f41.name ≠ "runtime.NumGoroutine" := by decide +kernel
theorem ok45 : okFn Try.prog V Try.f45 v45 tm45 bs45 = true := by kernel_rfl
theorem nm45 : Try.f45.name ≠ "runtime.NumGoroutine" := by decide +kernel
theorem ok49 : okFn Try.prog V Try.f49 v49 tm49 bs49 = true := by kernel_rfl
theorem nm49 : Try.f49.name ≠ "runtime.NumGoroutine" := by decide +kernel
theorem ok53 : okFn Try.prog V Try.f53 v53 tm53 bs53 = true := by kernel_rfl
theorem nm53 : Try.f53.name ≠ "runtime.NumGoroutine" := by decide +kernel
theorem ok57 : okFn Try.prog V Try.f57 v57 tm57 bs57 = true := by kernel_rfl
theorem nm57 : Try.f57.name ≠ "runtime.NumGoroutine" := by decide +kernel
theorem ok61 : okFn Try.prog V Try.f61 v61 tm61 bs61 = true := by kernel_rfl
theorem nm61 : Try.f61.name ≠ "runtime.NumGoroutine" := by decide +kernel
theorem ok65 : okFn Try.prog V Try.f65 v65 tm65 bs65 = true := by kernel_rfl
theorem nm65 : Try.f65.name ≠ "runtime.NumGoroutine" := by decide +kernel
theorem ok69 : okFn Try.prog V Try.f69 v69 tm69 bs69 = true := by kernel_rfl
theorem nm69 : Try.f69.name ≠ "runtime.NumGoroutine" := by decide +kernel
theorem ok73 : okFn Try.prog V Try.f73 v73 tm73 bs73 = true := by kernel_rfl
theorem nm73 : Try.f73.name ≠ "runtime.NumGoroutine" := by decide +kernel
theorem ok77 : okFn Try.prog V Try.f77 v77 tm77 bs77 = true := by kernel_rfl
theorem nm77 : Try.f77.name ≠ "runtime.NumGoroutine" := by decide +kernel
theorem ok81 : okFn Try.prog V Try.f81 v81 tm81 bs81 = true := by kernel_rfl
theorem nm81 : Try.f81.name ≠ "runtime.NumGoroutine" := by decide +kernel
theorem ok85 : okFn Try.prog V Try.f85 v85 tm85 bs85 = true := by kernel_rfl
theorem nm85 : Try.f85.name ≠ "runtime.NumGoroutine" := by decide +kernel
theorem ok89 : okFn Try.prog V Try.f89 v89 tm89 bs89 = true := by kernel_rfl
theorem nm89 : Try.f89.name ≠ "runtime.NumGoroutine" := by decide +kernel
theorem ok93 : okFn Try.prog V Try.f93 v93 tm93 bs93 = true := by kernel_rfl
theorem nm93 : Try.f93.name ≠ "runtime.NumGoroutine" := by decide +kernel
end Go.Proofs.Ytkogdbgccjmaoaa.Dv
