/-
  The machine's code is the program's, function by function.
-/
import Derived.Test.YtkogdbgccjmaoaaProg
import Derived.KernelRfl
import Derived.Test.YtkogdbgccjmaoaaDa
import Derived.Test.YtkogdbgccjmaoaaV
namespace Go.Proofs.Ytkogdbgccjmaoaa.Dv
open Go.Dm Go.Proofs

theorem ok9 : okFn Try.prog V Try.f9 v9 tm9 bs9 = true := by kernel_rfl
theorem nm9 : Try.f9.name ≠ "runtime.NumGoroutine" := by decide +kernel
theorem ok13 : okFn Try.prog V Try.f13 v13 tm13 bs13 = true := by kernel_rfl
theorem nm13 : Try.f13.name ≠ "runtime.NumGoroutine" := by decide +kernel
theorem ok20 : okFn Try.prog V Try.f20 v20 tm20 bs20 = true := by kernel_rfl
theorem nm20 : Try.f20.name ≠ "runtime.NumGoroutine" := by decide +kernel
theorem ok24 : okFn Try.prog V Try.f24 v24 tm24 bs24 = true := by kernel_rfl
theorem nm24 : Try.f24.name ≠ "runtime.NumGoroutine" := by decide +kernel
theorem ok28 : okFn Try.prog V Try.f28 v28 tm28 bs28 = true := by kernel_rfl
theorem nm28 : Try.f28.name ≠ "runtime.NumGoroutine" := by decide +kernel
theorem ok33 : okFn Try.prog V Try.f33 v33 tm33 bs33 = true := by kernel_rfl
theorem nm33 : Try.f33.name ≠ "runtime.NumGoroutine" := by decide +kernel
theorem ok38 : okFn Try.prog V Try.f38 v38 tm38 bs38 = true := by kernel_rfl
theorem nm38 : Try.f38.name ≠ "runtime.NumGoroutine" := by decide +kernel
theorem ok42 : okFn Try.prog V Try.f42 v42 tm42 bs42 = true := by kernel_rfl
theorem nm42 : Try.f42.name ≠ "runtime.NumGoroutine" := by decide +kernel
theorem ok46 : okFn Try.prog V Try.f46 v46 tm46 bs46 = true := by kernel_rfl
theorem nm46 : Try.f46.name ≠ "runtime.NumGoroutine" := by decide +kernel
theorem ok50 : okFn Try.prog V Try.f50 v50 tm50 bs50 = true := by kernel_rfl
theorem nm50 : Try.f50.name ≠ "runtime.NumGoroutine" := by decide +kernel
theorem ok54 : okFn Try.prog V Try.f54 v54 tm54 bs54 = true := by kernel_rfl
theorem nm54 : Try.f54.name ≠ "runtime.NumGoroutine" := by decide +kernel
theorem ok60 : okFn Try.prog V Try.f60 v60 tm60 bs60 = true := by kernel_rfl
theorem nm60 : Try.f60.name ≠ "runtime.NumGoroutine" := by decide +kernel
theorem ok67 : okFn Try.prog V Try.f67 v67 tm67 bs67 = true := by kernel_rfl
theorem nm67 : Try.f67.name ≠ "runtime.NumGoroutine" := by decide +kernel
theorem ok71 : okFn Try.prog V Try.f71 v71 tm71 bs71 = true := by kernel_rfl
theorem nm71 : Try.f71.name ≠ "runtime.NumGoroutine" := by decide +kernel
theorem ok77 : okFn Try.prog V Try.f77 v77 tm77 bs77 = true := by kernel_rfl
theorem nm77 : Try.f77.name ≠ "runtime.NumGoroutine" := by decide +kernel
theorem ok81 : okFn Try.prog V Try.f81 v81 tm81 bs81 = true := by kernel_rfl
theorem nm81 : Try.f81.name ≠ "runtime.NumGoroutine" := by decide +kernel
theorem ok85 : okFn Try.prog V Try.f85 v85 tm85 bs85 = true := by kernel_rfl
theorem nm85 : Try.f85.name ≠ "runtime.NumGoroutine" := by decide +kernel
theorem ok89 : okFn Try.prog V Try.f89 v89 tm89 bs89 = true := by kernel_rfl
theorem nm89 : Try.f89.name ≠ "runtime.NumGoroutine" := by decide +kernel
theorem ok93 : okFn Try.prog V Try.f93 v93 tm93 bs93 = true := by kernel_rfl
theorem nm93 : Try.f93.name ≠ "runtime.NumGoroutine" := by decide +kernel
end Go.Proofs.Ytkogdbgccjmaoaa.Dv
