/-
  The machine's code is the program's, function by function.
-/
import Derived.Test.YtkogdbgccjmaoaaProg
import Derived.KernelRfl
import Derived.Test.YtkogdbgccjmaoaaDa
import Derived.Test.YtkogdbgccjmaoaaV
namespace Go.Proofs.Ytkogdbgccjmaoaa.Dv
open Go.Dm Go.Proofs

theorem ok3 : okFn Try.prog V Try.f3 v3 tm3 bs3 = true := by kernel_rfl
theorem nm3 : Try.f3.name ≠ "runtime.NumGoroutine" := by decide +kernel
theorem ok7 : okFn Try.prog V Try.f7 v7 tm7 bs7 = true := by kernel_rfl
theorem nm7 : Try.f7.name ≠ "runtime.NumGoroutine" := by decide +kernel
theorem ok11 : okFn Try.prog V Try.f11 v11 tm11 bs11 = true := by kernel_rfl
theorem nm11 : Try.f11.name ≠ "runtime.NumGoroutine" := by decide +kernel
theorem ok15 : okFn Try.prog V Try.f15 v15 tm15 bs15 = true := by kernel_rfl
theorem nm15 : Try.f15.name ≠ "runtime.NumGoroutine" := by decide +kernel
theorem ok19 : okFn Try.prog V Try.f19 v19 tm19 bs19 = true := by kernel_rfl
theorem nm19 : Try.f19.name ≠ "runtime.NumGoroutine" := by decide +kernel
theorem ok23 : okFn Try.prog V Try.f23 v23 tm23 bs23 = true := by kernel_rfl
theorem nm23 : Try.f23.name ≠ "runtime.NumGoroutine" := by decide +kernel
theorem ok27 : okFn Try.prog V Try.f27 v27 tm27 bs27 = true := by kernel_rfl
theorem nm27 : Try.f27.name ≠ "runtime.NumGoroutine" := by decide +kernel
theorem ok31 : okFn Try.prog V Try.f31 v31 tm31 bs31 = true := by kernel_rfl
theorem nm31 : Try.f31.name ≠ "runtime.NumGoroutine" := by decide +kernel
theorem ok35 : okFn Try.prog V Try.f35 v35 tm35 bs35 = true := by kernel_rfl
theorem nm35 : Try.f35.name ≠ "runtime.NumGoroutine" := by decide +kernel
theorem ok39 : okFn Try.prog V Try.f39 v39 tm39 bs39 = true := by kernel_rfl
theorem nm39 : Try.f39.name ≠ "runtime.NumGoroutine" := by decide +kernel
theorem ok43 : okFn Try.prog V Try.f43 v43 tm43 bs43 = true := by kernel_rfl
theorem nm43 : Try.f43.name ≠ "runtime.NumGoroutine" := by decide +kernel
theorem ok47 : okFn Try.prog V Try.f47 v47 tm47 bs47 = true := by kernel_rfl
theorem nm47 : Try.f47.name ≠ "runtime.NumGoroutine" := by decide +kernel
theorem ok51 : okFn Try.prog V Try.f51 v51 tm51 bs51 = true := by kernel_rfl
theorem nm51 : Try.f51.name ≠ "runtime.NumGoroutine" := by decide +kernel
theorem ok55 : okFn Try.prog V Try.f55 v55 tm55 bs55 = true := by kernel_rfl
theorem nm55 : Try.f55.name ≠ "runtime.NumGoroutine" := by decide +kernel
theorem ok59 : okFn Try.prog V Try.f59 v59 tm59 bs59 = true := by kernel_rfl
theorem nm59 : Try.f59.name ≠ "runtime.NumGoroutine" := by decide +kernel
theorem ok63 : okFn Try.prog V Try.f63 v63 tm63 bs63 = true := by kernel_rfl
theorem nm63 : Try.f63.name ≠ "runtime.NumGoroutine" := by decide +kernel
theorem ok67 : okFn Try.prog V Try.f67 v67 tm67 bs67 = true := by kernel_rfl
theorem nm67 : Try.f67.name ≠ "runtime.NumGoroutine" := by decide +kernel
theorem ok71 : okFn Try.prog V Try.f71 v71 tm71 bs71 = true := by kernel_rfl
theorem nm71 : Try.f71.name ≠ "runtime.NumGoroutine" := by decide +kernel
theorem ok75 : okFn Try.prog V Try.f75 v75 tm75 bs75 = true := by kernel_rfl
theorem nm75 : Try.f75.name ≠ "runtime.NumGoroutine" := by decide +kernel
theorem ok79 : okFn Try.prog V Try.f79 v79 tm79 bs79 = true := by kernel_rfl
theorem nm79 : Try.f79.name ≠ "runtime.NumGoroutine" := by decide +kernel
theorem ok83 : okFn Try.prog V Try.f83 v83 tm83 bs83 = true := by kernel_rfl
theorem nm83 : Try.f83.name ≠ "runtime.NumGoroutine" := by decide +kernel
theorem ok87 : okFn Try.prog V Try.f87 v87 tm87 bs87 = true := by kernel_rfl
theorem nm87 : Try.f87.name ≠ "runtime.NumGoroutine" := by decide +kernel
theorem ok91 : okFn Try.prog V Try.f91 v91 tm91 bs91 = true := by kernel_rfl
theorem nm91 : Try.f91.name ≠ "runtime.NumGoroutine" := by decide +kernel
theorem ok95 : okFn Try.prog V Try.f95 v95 tm95 bs95 = true := by kernel_rfl
theorem nm95 : Try.f95.name ≠ "runtime.NumGoroutine" := by decide +kernel
end Go.Proofs.Ytkogdbgccjmaoaa.Dv
