/-
  The machine's code is the program's, function by function.
-/
import Derived.Test.YtkogdbgccjmaoaaProg
import Derived.KernelRfl
import Derived.Test.YtkogdbgccjmaoaaDa
import Derived.Test.YtkogdbgccjmaoaaV
namespace Go.Proofs.Ytkogdbgccjmaoaa.Dv
open Go.Dm Go.Proofs

theorem ok8 : okFn Try.prog V Try.f8 v8 tm8 bs8 = true := by kernel_rfl
theorem nm8 : Try.f8.name ≠ "runtime.NumGoroutine" := by decide +kernel
theorem ok12 : okFn Try.prog V Try.f12 v12 tm12 bs12 = true := by kernel_rfl
theorem nm12 : Try.f12.name ≠ "runtime.NumGoroutine" := by decide +kernel
theorem ok16 : okFn Try.prog V Try.f16 v16 tm16 bs16 = true := by kernel_rfl
theorem nm16 : Try.f16.name ≠ "runtime.NumGoroutine" := by decide +kernel
theorem ok23 : okFn Try.prog V Try.f23 v23 tm23 bs23 = true := by kernel_rfl
theorem nm23 : Try.f23.name ≠ "runtime.NumGoroutine" := by decide +kernel
theorem ok27 : okFn Try.prog V Try.f27 v27 tm27 bs27 = true := by kernel_rfl
theorem nm27 : Try.f27.name ≠ "runtime.NumGoroutine" := by decide +kernel
theorem ok32 : okFn Try.prog V Try.f32 v32 tm32 bs32 = true := by kernel_rfl
theorem nm32 : Try.f32.name ≠ "runtime.NumGoroutine" := by decide +kernel
theorem ok37 : okFn Try.prog V Try.f37 v37 tm37 bs37 = true := by kernel_rfl
theorem nm37 : Try.f37.name ≠ "runtime.NumGoroutine" := by decide +kernel
theorem ok41 : okFn Try.prog V Try.f41 v41 tm41 bs41 = true := by kernel_rfl
theorem nm41 : Try.f41.name ≠ "runtime.NumGoroutine" := by decide +kernel
theorem ok45 : okFn Try.prog V Try.f45 v45 tm45 bs45 = true := by kernel_rfl
theorem nm45 : Try.f45.name ≠ "runtime.NumGoroutine" := by decide +kernel
theorem ok49 : okFn Try.prog V Try.f49 v49 tm49 bs49 = true := by kernel_rfl
theorem nm49 : Try.f49.name ≠ "runtime.NumGoroutine" := by decide +kernel
theorem ok53 : okFn Try.prog V Try.f53 v53 tm53 bs53 = true := by kernel_rfl
theorem nm53 : Try.f53.name ≠ "runtime.NumGoroutine" := by decide +kernel
theorem ok59 : okFn Try.prog V Try.f59 v59 tm59 bs59 = true := by kernel_rfl
theorem nm59 : Try.f59.name ≠ "runtime.NumGoroutine" := by decide +kernel
theorem ok63 : okFn Try.prog V Try.f63 v63 tm63 bs63 = true := by kernel_rfl
theorem nm63 : Try.f63.name ≠ "runtime.NumGoroutine" := by decide +kernel
theorem ok70 : okFn Try.prog V Try.f70 v70 tm70 bs70 = true := by kernel_rfl
theorem nm70 : Try.f70.name ≠ "runtime.NumGoroutine" := by decide +kernel
theorem ok74 : okFn Try.prog V Try.f74 v74 tm74 bs74 = true := by kernel_rfl
theorem nm74 : Try.f74.name ≠ "runtime.NumGoroutine" := by decide +kernel
theorem ok80 : okFn Try.prog V Try.f80 v80 tm80 bs80 = true := by kernel_rfl
theorem nm80 : Try.f80.name ≠ "runtime.NumGoroutine" := by decide +kernel
theorem ok84 : okFn Try.prog V Try.f84 v84 tm84 bs84 = true := by kernel_rfl
theorem nm84 : Try.f84.name ≠ "runtime.NumGoroutine" := by decide +kernel
theorem ok88 : okFn Try.prog V Try.f88 v88 tm88 bs88 = true := by kernel_rfl
theorem nm88 : Try.f88.name ≠ "runtime.NumGoroutine" := by decide +kernel
theorem ok92 : okFn Try.prog V Try.f92 v92 tm92 bs92 = true := by kernel_rfl
theorem nm92 : Try.f92.name ≠ "runtime.NumGoroutine" := by decide +kernel
theorem ok96 : okFn Try.prog V Try.f96 v96 tm96 bs96 = true := by kernel_rfl
theorem nm96 : Try.f96.name ≠ "runtime.NumGoroutine" := by decide +kernel
end Go.Proofs.Ytkogdbgccjmaoaa.Dv
