/-
  The machine's code is the program's, function by function.
-/
import Derived.Test.YtnhbopeopppojaaGreatDoorProg
import Derived.KernelRfl
import Derived.Test.YtnhbopeopppojaaGreatDoorDa
import Derived.Test.YtnhbopeopppojaaGreatDoorV
namespace Go.Proofs.YtnhbopeopppojaaGreatDoor.Dv
open Go.Dm Go.Proofs

theorem ok3 (e : FuncId → List D → Heap → Option (D × Heap)) (p : FuncId → List D → Option D) : okFn Tryz.prog (Vx e p) Tryz.f3 v3 tm3 bs3 = true := by kernel_rfl
theorem nm3 : Tryz.f3.name ≠ "runtime.NumGoroutine" := by decide +kernel
theorem ok7 (e : FuncId → List D → Heap → Option (D × Heap)) (p : FuncId → List D → Option D) : okFn Tryz.prog (Vx e p) Tryz.f7 v7 tm7 bs7 = true := by kernel_rfl
theorem nm7 : Tryz.f7.name ≠ "runtime.NumGoroutine" := by decide +kernel
theorem ok12 (e : FuncId → List D → Heap → Option (D × Heap)) (p : FuncId → List D → Option D) : okFn Tryz.prog (Vx e p) Tryz.f12 v12 tm12 bs12 = true := by kernel_rfl
theorem nm12 : Tryz.f12.name ≠ "runtime.NumGoroutine" := by decide +kernel
theorem ok16 (e : FuncId → List D → Heap → Option (D × Heap)) (p : FuncId → List D → Option D) : okFn Tryz.prog (Vx e p) Tryz.f16 v16 tm16 bs16 = true := by kernel_rfl
theorem nm16 : Tryz.f16.name ≠ "runtime.NumGoroutine" := by decide +kernel
theorem ok20 (e : FuncId → List D → Heap → Option (D × Heap)) (p : FuncId → List D → Option D) : okFn Tryz.prog (Vx e p) Tryz.f20 v20 tm20 bs20 = true := by kernel_rfl
theorem nm20 : Tryz.f20.name ≠ "runtime.NumGoroutine" := by decide +kernel
theorem ok24 (e : FuncId → List D → Heap → Option (D × Heap)) (p : FuncId → List D → Option D) : okFn Tryz.prog (Vx e p) Tryz.f24 v24 tm24 bs24 = true := by kernel_rfl
theorem nm24 : Tryz.f24.name ≠ "runtime.NumGoroutine" := by decide +kernel
theorem ok28 (e : FuncId → List D → Heap → Option (D × Heap)) (p : FuncId → List D → Option D) : okFn Tryz.prog (Vx e p) Tryz.f28 v28 tm28 bs28 = true := by kernel_rfl
theorem nm28 : Tryz.f28.name ≠ "runtime.NumGoroutine" := by decide +kernel
theorem ok32 (e : FuncId → List D → Heap → Option (D × Heap)) (p : FuncId → List D → Option D) : okFn Tryz.prog (Vx e p) Tryz.f32 v32 tm32 bs32 = true := by kernel_rfl
theorem nm32 : Tryz.f32.name ≠ "runtime.NumGoroutine" := by decide +kernel
theorem ok36 (e : FuncId → List D → Heap → Option (D × Heap)) (p : FuncId → List D → Option D) : okFn Tryz.prog (Vx e p) Tryz.f36 v36 tm36 bs36 = true := by kernel_rfl
theorem nm36 : Tryz.f36.name ≠ "runtime.NumGoroutine" := by decide +kernel
theorem ok41 (e : FuncId → List D → Heap → Option (D × Heap)) (p : FuncId → List D → Option D) : okFn Tryz.prog (Vx e p) Tryz.f41 v41 tm41 bs41 = true := by kernel_rfl
theorem nm41 : Tryz.f41.name ≠ "runtime.NumGoroutine" := by decide +kernel
theorem ok45 (e : FuncId → List D → Heap → Option (D × Heap)) (p : FuncId → List D → Option D) : okFn Tryz.prog (Vx e p) Tryz.f45 v45 tm45 bs45 = true := by kernel_rfl
theorem nm45 : Tryz.f45.name ≠ "runtime.NumGoroutine" := by decide +kernel
theorem ok50 (e : FuncId → List D → Heap → Option (D × Heap)) (p : FuncId → List D → Option D) : okFn Tryz.prog (Vx e p) Tryz.f50 v50 tm50 bs50 = true := by kernel_rfl
theorem nm50 : Tryz.f50.name ≠ "runtime.NumGoroutine" := by decide +kernel
theorem ok54 (e : FuncId → List D → Heap → Option (D × Heap)) (p : FuncId → List D → Option D) : okFn Tryz.prog (Vx e p) Tryz.f54 v54 tm54 bs54 = true := by kernel_rfl
theorem nm54 : Tryz.f54.name ≠ "runtime.NumGoroutine" := by decide +kernel
theorem ok58 (e : FuncId → List D → Heap → Option (D × Heap)) (p : FuncId → List D → Option D) : okFn Tryz.prog (Vx e p) Tryz.f58 v58 tm58 bs58 = true := by kernel_rfl
theorem nm58 : Tryz.f58.name ≠ "runtime.NumGoroutine" := by decide +kernel
theorem ok62 (e : FuncId → List D → Heap → Option (D × Heap)) (p : FuncId → List D → Option D) : okFn Tryz.prog (Vx e p) Tryz.f62 v62 tm62 bs62 = true := by kernel_rfl
theorem nm62 : Tryz.f62.name ≠ "runtime.NumGoroutine" := by decide +kernel
theorem ok66 (e : FuncId → List D → Heap → Option (D × Heap)) (p : FuncId → List D → Option D) : okFn Tryz.prog (Vx e p) Tryz.f66 v66 tm66 bs66 = true := by kernel_rfl
theorem nm66 : Tryz.f66.name ≠ "runtime.NumGoroutine" := by decide +kernel
theorem ok71 (e : FuncId → List D → Heap → Option (D × Heap)) (p : FuncId → List D → Option D) : okFn Tryz.prog (Vx e p) Tryz.f71 v71 tm71 bs71 = true := by kernel_rfl
theorem nm71 : Tryz.f71.name ≠ "runtime.NumGoroutine" := by decide +kernel
theorem ok75 (e : FuncId → List D → Heap → Option (D × Heap)) (p : FuncId → List D → Option D) : okFn Tryz.prog (Vx e p) Tryz.f75 v75 tm75 bs75 = true := by kernel_rfl
theorem nm75 : Tryz.f75.name ≠ "runtime.NumGoroutine" := by decide +kernel
theorem ok79 (e : FuncId → List D → Heap → Option (D × Heap)) (p : FuncId → List D → Option D) : okFn Tryz.prog (Vx e p) Tryz.f79 v79 tm79 bs79 = true := by kernel_rfl
theorem nm79 : Tryz.f79.name ≠ "runtime.NumGoroutine" := by decide +kernel
theorem ok83 (e : FuncId → List D → Heap → Option (D × Heap)) (p : FuncId → List D → Option D) : okFn Tryz.prog (Vx e p) Tryz.f83 v83 tm83 bs83 = true := by kernel_rfl
theorem nm83 : Tryz.f83.name ≠ "runtime.NumGoroutine" := by decide +kernel
theorem ok87 (e : FuncId → List D → Heap → Option (D × Heap)) (p : FuncId → List D → Option D) : okFn Tryz.prog (Vx e p) Tryz.f87 v87 tm87 bs87 = true := by kernel_rfl
theorem nm87 : Tryz.f87.name ≠ "runtime.NumGoroutine" := by decide +kernel
theorem ok91 (e : FuncId → List D → Heap → Option (D × Heap)) (p : FuncId → List D → Option D) : okFn Tryz.prog (Vx e p) Tryz.f91 v91 tm91 bs91 = true := by kernel_rfl
theorem nm91 : Tryz.f91.name ≠ "runtime.NumGoroutine" := by decide +kernel
theorem ok95 (e : FuncId → List D → Heap → Option (D × Heap)) (p : FuncId → List D → Option D) : okFn Tryz.prog (Vx e p) Tryz.f95 v95 tm95 bs95 = true := by kernel_rfl
theorem nm95 : Tryz.f95.name ≠ "runtime.NumGoroutine" := by decide +kernel
theorem ok102 (e : FuncId → List D → Heap → Option (D × Heap)) (p : FuncId → List D → Option D) : okFn Tryz.prog (Vx e p) Tryz.f102 v102 tm102 bs102 = true := by kernel_rfl
theorem nm102 : Tryz.f102.name ≠ "runtime.NumGoroutine" := by decide +kernel
theorem ok106 (e : FuncId → List D → Heap → Option (D × Heap)) (p : FuncId → List D → Option D) : okFn Tryz.prog (Vx e p) Tryz.f106 v106 tm106 bs106 = true := by kernel_rfl
theorem nm106 : Tryz.f106.name ≠ "runtime.NumGoroutine" := by decide +kernel
theorem ok112 (e : FuncId → List D → Heap → Option (D × Heap)) (p : FuncId → List D → Option D) : okFn Tryz.prog (Vx e p) Tryz.f112 v112 tm112 bs112 = true := by kernel_rfl
theorem nm112 : Tryz.f112.name ≠ "runtime.NumGoroutine" := by decide +kernel
theorem ok121 (e : FuncId → List D → Heap → Option (D × Heap)) (p : FuncId → List D → Option D) : okFn Tryz.prog (Vx e p) Tryz.f121 v121 tm121 bs121 = true := by kernel_rfl
theorem nm121 : Tryz.f121.name ≠ "runtime.NumGoroutine" := by decide +kernel
end Go.Proofs.YtnhbopeopppojaaGreatDoor.Dv
