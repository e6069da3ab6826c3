/-
  The machine's code is the program's, function by function.
-/
import Derived.Test.YtkogdbgccjmaoaaProg
import Derived.KernelRfl
import Derived.Test.YtkogdbgccjmaoaaDa
import Derived.Test.YtkogdbgccjmaoaaV
namespace Go.Proofs.Ytkogdbgccjmaoaa.Dv
open Go.Dm Go.Proofs

theorem ok7 : okFn Try.prog V Try.f7 v7 tm7 bs7 = true := by kernel_rfl
theorem nm7 : Try.f7.name ≠ "runtime.NumGoroutine" := by decide +kernel
theorem ok11 : okFn Try.prog V Try.f11 v11 tm11 bs11 = true := by kernel_rfl
theorem nm11 : Try.f11.name ≠ "runtime.NumGoroutine" := by decide +kernel
theorem ok15 : okFn Try.prog V Try.f15 v15 tm15 bs15 = true := by kernel_rfl
theorem nm15 : Try.f15.name ≠ "runtime.NumGoroutine" := by decide +kernel
theorem ok22 : okFn Try.prog V Try.f22 v22 tm22 bs22 = true := by kernel_rfl
theorem nm22 : Try.f22.name ≠ "runtime.NumGoroutine" := by decide +kernel
theorem ok26 : okFn Try.prog V Try.f26 v26 tm26 bs26 = true := by kernel_rfl
theorem nm26 : Try.f26.name ≠ "runtime.NumGoroutine" := by decide +kernel
theorem ok31 : okFn Try.prog V Try.f31 v31 tm31 bs31 = true := by kernel_rfl
theorem nm31 : Try.f31.name ≠ "runtime.NumGoroutine" := by decide +kernel
theorem ok35 : okFn Try.prog V Try.f35 v35 tm35 bs35 = true := by kernel_rfl
theorem nm35 : Try.f35.name ≠ "runtime.NumGoroutine" := by decide +kernel
theorem ok40 : okFn Try.prog V Try.f40 v40 tm40 bs40 = true := by kernel_rfl
theorem nm40 : Try.f40.name ≠ "runtime.NumGoroutine" := by decide +kernel
theorem ok44 : okFn Try.prog V Try.f44 v44 tm44 bs44 = true := by kernel_rfl
theorem nm44 : Try.f44.name ≠ "runtime.NumGoroutine" := by decide +kernel
theorem ok48 : okFn Try.prog V Try.f48 v48 tm48 bs48 = true := by kernel_rfl
theorem nm48 : Try.f48.name ≠ "runtime.NumGoroutine" := by decide +kernel
theorem ok52 : okFn Try.prog V Try.f52 v52 tm52 bs52 = true := by kernel_rfl
theorem nm52 : Try.f52.name ≠ "runtime.NumGoroutine" := by decide +kernel
theorem ok58 : okFn Try.prog V Try.f58 v58 tm58 bs58 = true := by kernel_rfl
theorem nm58 : Try.f58.name ≠ "runtime.NumGoroutine" := by decide +kernel
theorem ok62 : okFn Try.prog V Try.f62 v62 tm62 bs62 = true := by kernel_rfl
theorem nm62 : Try.f62.name ≠ "runtime.NumGoroutine" := by decide +kernel
theorem ok69 : okFn Try.prog V Try.f69 v69 tm69 bs69 = true := by kernel_rfl
theorem nm69 : Try.f69.name ≠ "runtime.NumGoroutine" := by decide +kernel
theorem ok73 : okFn Try.prog V Try.f73 v73 tm73 bs73 = true := by kernel_rfl
theorem nm73 : Try.f73.name ≠ "runtime.NumGoroutine" := by decide +kernel
theorem ok79 : okFn Try.prog V Try.f79 v79 tm79 bs79 = true := by kernel_rfl
theorem nm79 : Try.f79.name ≠ "runtime.NumGoroutine" := by decide +kernel
theorem ok83 : okFn Try.prog V Try.f83 v83 tm83 bs83 = true := by kernel_rfl
theorem nm83 : Try.f83.name ≠ "runtime.NumGoroutine" := by decide +kernel
theorem ok87 : okFn Try.prog V Try.f87 v87 tm87 bs87 = true := by kernel_rfl
theorem nm87 : Try.f87.name ≠ "runtime.NumGoroutine" := by decide +kernel
theorem ok91 : okFn Try.prog V Try.f91 v91 tm91 bs91 = true := by kernel_rfl
theorem nm91 : Try.f91.name ≠ "runtime.NumGoroutine" := by decide +kernel
theorem ok95 : okFn Try.prog V Try.f95 v95 tm95 bs95 = true := by kernel_rfl
theorem nm95 : Try.f95.name ≠ "runtime.NumGoroutine" := by decide +kernel
end Go.Proofs.Ytkogdbgccjmaoaa.Dv
