/-
  The machine's code is the program's, function by function.
-/
import Derived.Test.YtkogdbgccjmaoaaProg
import Derived.KernelRfl
import Derived.Test.YtkogdbgccjmaoaaDa
import Derived.Test.YtkogdbgccjmaoaaV
namespace Go.Proofs.Ytkogdbgccjmaoaa.Dv
open Go.Dm Go.Proofs

theorem ok6 : okFn Try.prog V Try.f6 v6 tm6 bs6 = true := by kernel_rfl
theorem nm6 : Try.f6.name ≠ "runtime.NumGoroutine" := by decide +kernel
theorem ok10 : okFn Try.prog V Try.f10 v10 tm10 bs10 = true := by kernel_rfl
theorem nm10 : Try.f10.name ≠ "runtime.NumGoroutine" := by decide +kernel
theorem ok14 : okFn Try.prog V Try.f14 v14 tm14 bs14 = true := by kernel_rfl
theorem nm14 : Try.f14.name ≠ "runtime.NumGoroutine" := by decide +kernel
theorem ok18 : okFn Try.prog V Try.f18 v18 tm18 bs18 = true := by kernel_rfl
theorem nm18 : Try.f18.name ≠ "runtime.NumGoroutine" := by decide +kernel
theorem ok22 : okFn Try.prog V Try.f22 v22 tm22 bs22 = true := by kernel_rfl
theorem nm22 : Try.f22.name ≠ "runtime.NumGoroutine" := by decide +kernel
theorem ok26 : okFn Try.prog V Try.f26 v26 tm26 bs26 = true := by kernel_rfl
theorem nm26 : Try.f26.name ≠ "runtime.NumGoroutine" := by decide +kernel
theorem ok30 : okFn Try.prog V Try.f30 v30 tm30 bs30 = true := by kernel_rfl
theorem nm30 : Try.f30.name ≠ "runtime.NumGoroutine" := by decide +kernel
theorem ok34 : okFn Try.prog V Try.f34 v34 tm34 bs34 = true := by kernel_rfl
theorem nm34 : Try.f34.name ≠ "runtime.NumGoroutine" := by decide +kernel
theorem ok38 : okFn Try.prog V Try.f38 v38 tm38 bs38 = true := by kernel_rfl
theorem nm38 : Try.f38.name ≠ "runtime.NumGoroutine" := by decide +kernel
theorem ok42 : okFn Try.prog V Try.f42 v42 tm42 bs42 = true := by kernel_rfl
theorem nm42 : Try.f42.name ≠ "runtime.NumGoroutine" := by decide +kernel
theorem ok46 : okFn Try.prog V Try.f46 v46 tm46 bs46 = true := by kernel_rfl
theorem nm46 : Try.f46.name ≠ "runtime.NumGoroutine" := by decide +kernel
theorem ok50 : okFn Try.prog V Try.f50 v50 tm50 bs50 = true := by kernel_rfl
theorem nm50 : Try.f50.name ≠ "runtime.NumGoroutine" := by decide +kernel
theorem ok54 : okFn Try.prog V Try.f54 v54 tm54 bs54 = true := by kernel_rfl
theorem nm54 : Try.f54.name ≠ "runtime.NumGoroutine" := by decide +kernel
theorem ok58 : okFn Try.prog V Try.f58 v58 tm58 bs58 = true := by kernel_rfl
theorem nm58 : Try.f58.name ≠ "runtime.NumGoroutine" := by decide +kernel
theorem ok62 : okFn Try.prog V Try.f62 v62 tm62 bs62 = true := by kernel_rfl
theorem nm62 : Try.f62.name ≠ "runtime.NumGoroutine" := by decide +kernel
theorem ok66 : okFn Try.prog V Try.f66 v66 tm66 bs66 = true := by kernel_rfl
theorem nm66 : Try.f66.name ≠ "runtime.NumGoroutine" := by decide +kernel
theorem ok70 : okFn Try.prog V Try.f70 v70 tm70 bs70 = true := by kernel_rfl
theorem nm70 : Try.f70.name ≠ "runtime.NumGoroutine" := by decide +kernel
theorem ok74 : okFn Try.prog V Try.f74 v74 tm74 bs74 = true := by kernel_rfl
theorem nm74 : Try.f74.name ≠ "runtime.NumGoroutine" := by decide +kernel
theorem ok78 : okFn Try.prog V Try.f78 v78 tm78 bs78 = true := by kernel_rfl
theorem nm78 : Try.f78.name ≠ "runtime.NumGoroutine" := by decide +kernel
theorem ok82 : okFn Try.prog V Try.f82 v82 tm82 bs82 = true := by kernel_rfl
theorem nm82 : Try.f82.name ≠ "runtime.NumGoroutine" := by decide +kernel
theorem ok86 : okFn Try.prog V Try.f86 v86 tm86 bs86 = true := by kernel_rfl
theorem nm86 : Try.f86.name ≠ "runtime.NumGoroutine" := by decide +kernel
theorem ok90 : okFn Try.prog V Try.f90 v90 tm90 bs90 = true := by kernel_rfl
theorem nm90 : Try.f90.name ≠ "runtime.NumGoroutine" := by decide +kernel
theorem ok94 : okFn Try.prog V Try.f94 v94 tm94 bs94 = true := by kernel_rfl
theorem nm94 : Try.f94.name ≠ "runtime.NumGoroutine" := by decide +kernel
end Go.Proofs.Ytkogdbgccjmaoaa.Dv
