/-
  The machine's code is the program's, function by function.
-/
import Derived.Test.YtkogdbgccjmaoaaProg
import Derived.KernelRfl
import Derived.Test.YtkogdbgccjmaoaaDa
import Derived.Test.YtkogdbgccjmaoaaV
namespace Go.Proofs.Ytkogdbgccjmaoaa.Dv
open Go.Dm Go.Proofs

theorem ok4 : okFn Try.prog V Try.f4 v4 tm4 bs4 = true := by kernel_rfl
theorem nm4 : Try.f4.name ≠ "runtime.NumGoroutine" := by decide +kernel
theorem ok8 : okFn Try.prog V Try.f8 v8 tm8 bs8 = true := by kernel_rfl
theorem nm8 : Try.f8.name ≠ "runtime.NumGoroutine" := by decide +kernel
theorem ok12 : okFn Try.prog V Try.f12 v12 tm12 bs12 = true := by kernel_rfl
theorem nm12 : Try.f12.name ≠ "runtime.NumGoroutine" := by decide +kernel
theorem ok16 : okFn Try.prog V Try.f16 v16 tm16 bs16 = true := by kernel_rfl
theorem nm16 : Try.f16.name ≠ "runtime.NumGoroutine" := by decide +kernel
theorem ok20 : okFn Try.prog V Try.f20 v20 tm20 bs20 = true := by kernel_rfl
theorem nm20 : Try.f20.name ≠ "runtime.NumGoroutine" := by decide +kernel
theorem ok24 : okFn Try.prog V Try.f24 v24 tm24 bs24 = true := by kernel_rfl
theorem nm24 : Try.f24.name ≠ "runtime.NumGoroutine" := by decide +kernel
theorem ok28 : okFn Try.prog V Try.f28 v28 tm28 bs28 = true := by kernel_rfl
theorem nm28 : Try.f28.name ≠ "runtime.NumGoroutine" := by decide +kernel
theorem ok32 : okFn Try.prog V Try.f32 v32 tm32 bs32 = true := by kernel_rfl
theorem nm32 : Try.f32.name ≠ "runtime.NumGoroutine" := by decide +kernel
theorem ok36 : okFn Try.prog V Try.f36 v36 tm36 bs36 = true := by kernel_rfl
theorem nm36 : Try.f36.name ≠ "runtime.NumGoroutine" := by decide +kernel
theorem ok40 : okFn Try.prog V Try.f40 v40 tm40 bs40 = true := by kernel_rfl
theorem nm40 : Try.f40.name ≠ "runtime.NumGoroutine" := by decide +kernel
theorem ok44 : okFn Try.prog V Try.f44 v44 tm44 bs44 = true := by kernel_rfl
theorem nm44 : Try.f44.name ≠ "runtime.NumGoroutine" := by decide +kernel
theorem ok48 : okFn Try.prog V Try.f48 v48 tm48 bs48 = true := by kernel_rfl
theorem nm48 : Try.f48.name ≠ "runtime.NumGoroutine" := by decide +kernel
theorem ok52 : okFn Try.prog V Try.f52 v52 tm52 bs52 = true := by kernel_rfl
theorem nm52 : Try.f52.name ≠ "runtime.NumGoroutine" := by decide +kernel
theorem ok56 : okFn Try.prog V Try.f56 v56 tm56 bs56 = true := by kernel_rfl
theorem nm56 : Try.f56.name ≠ "runtime.NumGoroutine" := by decide +kernel
theorem ok60 : okFn Try.prog V Try.f60 v60 tm60 bs60 = true := by kernel_rfl
theorem nm60 : Try.f60.name ≠ "runtime.NumGoroutine" := by decide +kernel
theorem ok64 : okFn Try.prog V Try.f64 v64 tm64 bs64 = true := by kernel_rfl
theorem nm64 : Try.f64.name ≠ "runtime.NumGoroutine" := by decide +kernel
theorem ok68 : okFn Try.prog V Try.f68 v68 tm68 bs68 = true := by kernel_rfl
theorem nm68 : Try.f68.name ≠ "runtime.NumGoroutine" := by decide +kernel
theorem ok72 : okFn Try.prog V Try.f72 v72 tm72 bs72 = true := by kernel_rfl
theorem nm72 : Try.f72.name ≠ "runtime.NumGoroutine" := by decide +kernel
theorem ok76 : okFn Try.prog V Try.f76 v76 tm76 bs76 = true := by kernel_rfl
theorem nm76 : Try.f76.name ≠ "runtime.NumGoroutine" := by decide +kernel
theorem ok80 : okFn Try.prog V Try.f80 v80 tm80 bs80 = true := by kernel_rfl
theorem nm80 : Try.f80.name ≠ "runtime.NumGoroutine" := by decide +kernel
theorem ok84 : okFn Try.prog V Try.f84 v84 tm84 bs84 = true := by kernel_rfl
theorem nm84 : Try.f84.name ≠ "runtime.NumGoroutine" := by decide +kernel
theorem ok88 : okFn Try.prog V Try.f88 v88 tm88 bs88 = true := by kernel_rfl
theorem nm88 : Try.f88.name ≠ "runtime.NumGoroutine" := by decide +kernel
theorem ok92 : okFn Try.prog V Try.f92 v92 tm92 bs92 = true := by kernel_rfl
theorem nm92 : Try.f92.name ≠ "runtime.NumGoroutine" := by decide +kernel
theorem ok96 : okFn Try.prog V Try.f96 v96 tm96 bs96 = true := by kernel_rfl
theorem nm96 : Try.f96.name ≠ "runtime.NumGoroutine" := by decide +kernel
end Go.Proofs.Ytkogdbgccjmaoaa.Dv
