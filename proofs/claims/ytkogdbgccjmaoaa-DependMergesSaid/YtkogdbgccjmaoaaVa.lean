/-
  The machine's code is the program's, function by function.
-/
import Derived.Test.YtkogdbgccjmaoaaProg
import Derived.KernelRfl
import Derived.Test.YtkogdbgccjmaoaaDa
import Derived.Test.YtkogdbgccjmaoaaV
namespace Go.Proofs.Ytkogdbgccjmaoaa.Dv
open Go.Dm Go.Proofs

theorem ok5 : okFn Try.prog V Try.f5 v5 tm5 bs5 = true := by kernel_rfl
theorem nm5 : Try.f5.name ≠ "runtime.NumGoroutine" := by decide +kernel
theorem ok10 : okFn Try.prog V Try.f10 v10 tm10 bs10 = true := by kernel_rfl
theorem nm10 : Try.f10.name ≠ "runtime.NumGoroutine" := by decide +kernel
theorem ok14 : okFn Try.prog V Try.f14 v14 tm14 bs14 = true := by kernel_rfl
theorem nm14 : Try.f14.name ≠ "runtime.NumGoroutine" := by decide +kernel
theorem ok21 : okFn Try.prog V Try.f21 v21 tm21 bs21 = true := by kernel_rfl
theorem nm21 : Try.f21.name ≠ "runtime.NumGoroutine" := by decide +kernel
theorem ok25 : okFn Try.prog V Try.f25 v25 tm25 bs25 = true := by kernel_rfl
theorem nm25 : Try.f25.name ≠ "runtime.NumGoroutine" := by decide +kernel
theorem ok30 : okFn Try.prog V Try.f30 v30 tm30 bs30 = true := by kernel_rfl
theorem nm30 : Try.f30.name ≠ "runtime.NumGoroutine" := by decide +kernel
theorem ok34 : okFn Try.prog V Try.f34 v34 tm34 bs34 = true := by kernel_rfl
theorem nm34 : Try.f34.name ≠ "runtime.NumGoroutine" := by decide +kernel
theorem ok39 : okFn Try.prog V Try.f39 v39 tm39 bs39 = true := by kernel_rfl
theorem nm39 : Try.f39.name ≠ "runtime.NumGoroutine" := by decide +kernel
theorem ok43 : okFn Try.prog V Try.f43 v43 tm43 bs43 = true := by kernel_rfl
theorem nm43 : Try.f43.name ≠ "runtime.NumGoroutine" := by decide +kernel
theorem ok47 : okFn Try.prog V Try.f47 v47 tm47 bs47 = true := by kernel_rfl
theorem nm47 : Try.f47.name ≠ "runtime.NumGoroutine" := by decide +kernel
theorem ok51 : okFn Try.prog V Try.f51 v51 tm51 bs51 = true := by kernel_rfl
theorem nm51 : Try.f51.name ≠ "runtime.NumGoroutine" := by decide +kernel
theorem ok57 : okFn Try.prog V Try.f57 v57 tm57 bs57 = true := by kernel_rfl
theorem nm57 : Try.f57.name ≠ "runtime.NumGoroutine" := by decide +kernel
theorem ok61 : okFn Try.prog V Try.f61 v61 tm61 bs61 = true := by kernel_rfl
theorem nm61 : Try.f61.name ≠ "runtime.NumGoroutine" := by decide +kernel
theorem ok68 : okFn Try.prog V Try.f68 v68 tm68 bs68 = true := by kernel_rfl
theorem nm68 : Try.f68.name ≠ "runtime.NumGoroutine" := by decide +kernel
theorem ok72 : okFn Try.prog V Try.f72 v72 tm72 bs72 = true := by kernel_rfl
theorem nm72 : Try.f72.name ≠ "runtime.NumGoroutine" := by decide +kernel
theorem ok78 : okFn Try.prog V Try.f78 v78 tm78 bs78 = true := by kernel_rfl
theorem nm78 : Try.f78.name ≠ "runtime.NumGoroutine" := by decide +kernel
theorem ok82 : okFn Try.prog V Try.f82 v82 tm82 bs82 = true := by kernel_rfl
theorem nm82 : Try.f82.name ≠ "runtime.NumGoroutine" := by decide +kernel
theorem ok86 : okFn Try.prog V Try.f86 v86 tm86 bs86 = true := by kernel_rfl
theorem nm86 : Try.f86.name ≠ "runtime.NumGoroutine" := by decide +kernel
theorem ok90 : okFn Try.prog V Try.f90 v90 tm90 bs90 = true := by kernel_rfl
theorem nm90 : Try.f90.name ≠ "runtime.NumGoroutine" := by decide +kernel
theorem ok94 : okFn Try.prog V Try.f94 v94 tm94 bs94 = true := by kernel_rfl
theorem nm94 : Try.f94.name ≠ "runtime.NumGoroutine" := by decide +kernel
end Go.Proofs.Ytkogdbgccjmaoaa.Dv
