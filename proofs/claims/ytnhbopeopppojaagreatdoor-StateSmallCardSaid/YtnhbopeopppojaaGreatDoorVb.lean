/-
  The machine's code is the program's, function by function.
-/
import Derived.Test.YtnhbopeopppojaaGreatDoorProg
import Derived.KernelRfl
import Derived.Test.YtnhbopeopppojaaGreatDoorDa
import Derived.Test.YtnhbopeopppojaaGreatDoorV
import Derived.Test.YtnhbopeopppojaaGreatDoorW
namespace Go.Proofs.YtnhbopeopppojaaGreatDoor.Dv
open Go.Dm Go.Proofs
variable (e : FuncId → List D → Heap → Option (D × Heap)) (p : FuncId → List D → Option D)
theorem ok4 : okFn Tryz.prog (Vx e p) Tryz.f4 v4 tm4 bs4 = true := by kernel_rfl
theorem nm4 : Tryz.f4.name ≠ "runtime.NumGoroutine" := by decide +kernel
theorem ok8 : okFn Tryz.prog (Vx e p) Tryz.f8 v8 tm8 bs8 = true := by kernel_rfl
theorem nm8 : Tryz.f8.name ≠ "runtime.NumGoroutine" := by decide +kernel
theorem ok12 : okFn Tryz.prog (Vx e p) Tryz.f12 v12 tm12 bs12 = true := by kernel_rfl
theorem nm12 : Tryz.f12.name ≠ "runtime.NumGoroutine" := by decide +kernel
theorem ok16 : okFn Tryz.prog (Vx e p) Tryz.f16 v16 tm16 bs16 = true := by kernel_rfl
theorem nm16 : Tryz.f16.name ≠ "runtime.NumGoroutine" := by decide +kernel
theorem ok20 : okFn Tryz.prog (Vx e p) Tryz.f20 v20 tm20 bs20 = true := by kernel_rfl
theorem nm20 : Tryz.f20.name ≠ "runtime.NumGoroutine" := by decide +kernel
theorem ok24 : okFn Tryz.prog (Vx e p) Tryz.f24 v24 tm24 bs24 = true := by kernel_rfl
theorem nm24 : Tryz.f24.name ≠ "runtime.NumGoroutine" := by decide +kernel
theorem ok28 : okFn Tryz.prog (Vx e p) Tryz.f28 v28 tm28 bs28 = true := by kernel_rfl
theorem nm28 : Tryz.f28.name ≠ "runtime.NumGoroutine" := by decide +kernel
theorem ok32 : okFn Tryz.prog (Vx e p) Tryz.f32 v32 tm32 bs32 = true := by kernel_rfl
theorem nm32 : Tryz.f32.name ≠ "runtime.NumGoroutine" := by decide +kernel
theorem ok36 : okFn Tryz.prog (Vx e p) Tryz.f36 v36 tm36 bs36 = true := by kernel_rfl
theorem nm36 : Tryz.f36.name ≠ "runtime.NumGoroutine" := by decide +kernel
theorem ok41 : okFn Tryz.prog (Vx e p) Tryz.f41 v41 tm41 bs41 = true := by kernel_rfl
theorem nm41 : Tryz.f41.name ≠ "runtime.NumGoroutine" := by decide +kernel
theorem ok45 : okFn Tryz.prog (Vx e p) Tryz.f45 v45 tm45 bs45 = true := by kernel_rfl
theorem nm45 : Tryz.f45.name ≠ "runtime.NumGoroutine" := by decide +kernel
theorem ok49 : okFn Tryz.prog (Vx e p) Tryz.f49 v49 tm49 bs49 = true := by kernel_rfl
theorem nm49 : Tryz.f49.name ≠ "runtime.NumGoroutine" := by decide +kernel
theorem ok53 : okFn Tryz.prog (Vx e p) Tryz.f53 v53 tm53 bs53 = true := by kernel_rfl
theorem nm53 : Tryz.f53.name ≠ "runtime.NumGoroutine" := by decide +kernel
theorem ok57 : okFn Tryz.prog (Vx e p) Tryz.f57 v57 tm57 bs57 = true := by kernel_rfl
theorem nm57 : Tryz.f57.name ≠ "runtime.NumGoroutine" := by decide +kernel
theorem ok61 : okFn Tryz.prog (Vx e p) Tryz.f61 v61 tm61 bs61 = true := by kernel_rfl
theorem nm61 : Tryz.f61.name ≠ "runtime.NumGoroutine" := by decide +kernel
theorem ok65 : okFn Tryz.prog (Vx e p) Tryz.f65 v65 tm65 bs65 = true := by kernel_rfl
theorem nm65 : Tryz.f65.name ≠ "runtime.NumGoroutine" := by decide +kernel
theorem ok70 : okFn Tryz.prog (Vx e p) Tryz.f70 v70 tm70 bs70 = true := by kernel_rfl
theorem nm70 : Tryz.f70.name ≠ "runtime.NumGoroutine" := by decide +kernel
theorem ok74 : okFn Tryz.prog (Vx e p) Tryz.f74 v74 tm74 bs74 = true := by kernel_rfl
theorem nm74 : Tryz.f74.name ≠ "runtime.NumGoroutine" := by decide +kernel
theorem ok78 : okFn Tryz.prog (Vx e p) Tryz.f78 v78 tm78 bs78 = true := by kernel_rfl
theorem nm78 : Tryz.f78.name ≠ "runtime.NumGoroutine" := by decide +kernel
theorem ok82 : okFn Tryz.prog (Vx e p) Tryz.f82 v82 tm82 bs82 = true := by kernel_rfl
theorem nm82 : Tryz.f82.name ≠ "runtime.NumGoroutine" := by decide +kernel
theorem ok86 : okFn Tryz.prog (Vx e p) Tryz.f86 v86 tm86 bs86 = true := by kernel_rfl
theorem nm86 : Tryz.f86.name ≠ "runtime.NumGoroutine" := by decide +kernel
theorem ok90 : okFn Tryz.prog (Vx e p) Tryz.f90 v90 tm90 bs90 = true := by kernel_rfl
theorem nm90 : Tryz.f90.name ≠ "runtime.NumGoroutine" := by decide +kernel
theorem ok94 : okFn Tryz.prog (Vx e p) Tryz.f94 v94 tm94 bs94 = true := by kernel_rfl
theorem nm94 : Tryz.f94.name ≠ "runtime.NumGoroutine" := by decide +kernel
theorem ok98 : okFn Tryz.prog (Vx e p) Tryz.f98 v98 tm98 bs98 = true := by kernel_rfl
theorem nm98 : Tryz.f98.name ≠ "runtime.NumGoroutine" := by decide +kernel
theorem ok105 : okFn Tryz.prog (Vx e p) Tryz.f105 v105 tm105 bs105 = true := by kernel_rfl
theorem nm105 : Tryz.f105.name ≠ "runtime.NumGoroutine" := by decide +kernel
theorem ok109 : okFn Tryz.prog (Vx e p) Tryz.f109 v109 tm109 bs109 = true := by kernel_rfl
theorem nm109 : Tryz.f109.name ≠ "runtime.NumGoroutine" := by decide +kernel
theorem ok120 : okFn Tryz.prog (Vx e p) Tryz.f120 v120 tm120 bs120 = true := by kernel_rfl
theorem nm120 : Tryz.f120.name ≠ "runtime.NumGoroutine" := by decide +kernel
theorem goodB : ∀ q ∈ fnsB, GoodP Tryz.prog (Vx e p) q.1 q.2 := by
  simp only [fnsB, List.forall_mem_cons]
  exact ⟨⟨_, _, _, Tryz.func4, ok4 e p, nm4⟩, ⟨_, _, _, Tryz.func8, ok8 e p, nm8⟩, ⟨_, _, _, Tryz.func12, ok12 e p, nm12⟩, ⟨_, _, _, Tryz.func16, ok16 e p, nm16⟩, ⟨_, _, _, Tryz.func20, ok20 e p, nm20⟩, ⟨_, _, _, Tryz.func24, ok24 e p, nm24⟩, ⟨_, _, _, Tryz.func28, ok28 e p, nm28⟩, ⟨_, _, _, Tryz.func32, ok32 e p, nm32⟩, ⟨_, _, _, Tryz.func36, ok36 e p, nm36⟩, ⟨_, _, _, Tryz.func41, ok41 e p, nm41⟩, ⟨_, _, _, Tryz.func45, ok45 e p, nm45⟩, ⟨_, _, _, Tryz.func49, ok49 e p, nm49⟩, ⟨_, _, _, Tryz.func53, ok53 e p, nm53⟩, ⟨_, _, _, Tryz.func57, ok57 e p, nm57⟩, ⟨_, _, _, Tryz.func61, ok61 e p, nm61⟩, ⟨_, _, _, Tryz.func65, ok65 e p, nm65⟩, ⟨_, _, _, Tryz.func70, ok70 e p, nm70⟩, ⟨_, _, _, Tryz.func74, ok74 e p, nm74⟩, ⟨_, _, _, Tryz.func78, ok78 e p, nm78⟩, ⟨_, _, _, Tryz.func82, ok82 e p, nm82⟩, ⟨_, _, _, Tryz.func86, ok86 e p, nm86⟩, ⟨_, _, _, Tryz.func90, ok90 e p, nm90⟩, ⟨_, _, _, Tryz.func94, ok94 e p, nm94⟩, ⟨_, _, _, Tryz.func98, ok98 e p, nm98⟩, ⟨_, _, _, Tryz.func105, ok105 e p, nm105⟩, ⟨_, _, _, Tryz.func109, ok109 e p, nm109⟩, ⟨_, _, _, Tryz.func120, ok120 e p, nm120⟩, fun _ h => by cases h⟩
open Go.Dm Go.Proofs
theorem ob4 : okFn Tryz.prog (V2x e p) Tryz.f4 (own2 4 v4) tm4 bs4 = true := by kernel_rfl
theorem ob8 : okFn Tryz.prog (V2x e p) Tryz.f8 (own2 8 v8) tm8 bs8 = true := by kernel_rfl
theorem ob12 : okFn Tryz.prog (V2x e p) Tryz.f12 (own2 12 v12) tm12 bs12 = true := by kernel_rfl
theorem ob16 : okFn Tryz.prog (V2x e p) Tryz.f16 (own2 16 v16) tm16 bs16 = true := by kernel_rfl
theorem ob20 : okFn Tryz.prog (V2x e p) Tryz.f20 (own2 20 v20) tm20 bs20 = true := by kernel_rfl
theorem ob24 : okFn Tryz.prog (V2x e p) Tryz.f24 (own2 24 v24) tm24 bs24 = true := by kernel_rfl
theorem ob28 : okFn Tryz.prog (V2x e p) Tryz.f28 (own2 28 v28) tm28 bs28 = true := by kernel_rfl
theorem ob32 : okFn Tryz.prog (V2x e p) Tryz.f32 (own2 32 v32) tm32 bs32 = true := by kernel_rfl
theorem ob36 : okFn Tryz.prog (V2x e p) Tryz.f36 (own2 36 v36) tm36 bs36 = true := by kernel_rfl
theorem ob41 : okFn Tryz.prog (V2x e p) Tryz.f41 (own2 41 v41) tm41 bs41 = true := by kernel_rfl
theorem ob45 : okFn Tryz.prog (V2x e p) Tryz.f45 (own2 45 v45) tm45 bs45 = true := by kernel_rfl
theorem ob49 : okFn Tryz.prog (V2x e p) Tryz.f49 (own2 49 v49) tm49 bs49 = true := by kernel_rfl
theorem ob53 : okFn Tryz.prog (V2x e p) Tryz.f53 (own2 53 v53) tm53 bs53 = true := by kernel_rfl
theorem ob57 : okFn Tryz.prog (V2x e p) Tryz.f57 (own2 57 v57) tm57 bs57 = true := by kernel_rfl
theorem ob61 : okFn Tryz.prog (V2x e p) Tryz.f61 (own2 61 v61) tm61 bs61 = true := by kernel_rfl
theorem ob65 : okFn Tryz.prog (V2x e p) Tryz.f65 (own2 65 v65) tm65 bs65 = true := by kernel_rfl
theorem ob70 : okFn Tryz.prog (V2x e p) Tryz.f70 (own2 70 v70) tm70 bs70 = true := by kernel_rfl
theorem ob74 : okFn Tryz.prog (V2x e p) Tryz.f74 (own2 74 v74) tm74 bs74 = true := by kernel_rfl
theorem ob78 : okFn Tryz.prog (V2x e p) Tryz.f78 (own2 78 v78) tm78 bs78 = true := by kernel_rfl
theorem ob82 : okFn Tryz.prog (V2x e p) Tryz.f82 (own2 82 v82) tm82 bs82 = true := by kernel_rfl
theorem ob86 : okFn Tryz.prog (V2x e p) Tryz.f86 (own2 86 v86) tm86 bs86 = true := by kernel_rfl
theorem ob90 : okFn Tryz.prog (V2x e p) Tryz.f90 (own2 90 v90) tm90 bs90 = true := by kernel_rfl
theorem ob94 : okFn Tryz.prog (V2x e p) Tryz.f94 (own2 94 v94) tm94 bs94 = true := by kernel_rfl
theorem ob98 : okFn Tryz.prog (V2x e p) Tryz.f98 (own2 98 v98) tm98 bs98 = true := by kernel_rfl
theorem ob105 : okFn Tryz.prog (V2x e p) Tryz.f105 (own2 105 v105) tm105 bs105 = true := by kernel_rfl
theorem ob109 : okFn Tryz.prog (V2x e p) Tryz.f109 (own2 109 v109) tm109 bs109 = true := by kernel_rfl
theorem ob120 : okFn Tryz.prog (V2x e p) Tryz.f120 (own2 120 v120) tm120 bs120 = true := by kernel_rfl
theorem good2B : ∀ q ∈ fnsB, GoodP Tryz.prog (V2x e p) q.1 (own2 q.1 q.2) := by
  simp only [fnsB, List.forall_mem_cons]
  exact ⟨⟨_, _, _, Tryz.func4, ob4 e p, nm4⟩, ⟨_, _, _, Tryz.func8, ob8 e p, nm8⟩, ⟨_, _, _, Tryz.func12, ob12 e p, nm12⟩, ⟨_, _, _, Tryz.func16, ob16 e p, nm16⟩, ⟨_, _, _, Tryz.func20, ob20 e p, nm20⟩, ⟨_, _, _, Tryz.func24, ob24 e p, nm24⟩, ⟨_, _, _, Tryz.func28, ob28 e p, nm28⟩, ⟨_, _, _, Tryz.func32, ob32 e p, nm32⟩, ⟨_, _, _, Tryz.func36, ob36 e p, nm36⟩, ⟨_, _, _, Tryz.func41, ob41 e p, nm41⟩, ⟨_, _, _, Tryz.func45, ob45 e p, nm45⟩, ⟨_, _, _, Tryz.func49, ob49 e p, nm49⟩, ⟨_, _, _, Tryz.func53, ob53 e p, nm53⟩, ⟨_, _, _, Tryz.func57, ob57 e p, nm57⟩, ⟨_, _, _, Tryz.func61, ob61 e p, nm61⟩, ⟨_, _, _, Tryz.func65, ob65 e p, nm65⟩, ⟨_, _, _, Tryz.func70, ob70 e p, nm70⟩, ⟨_, _, _, Tryz.func74, ob74 e p, nm74⟩, ⟨_, _, _, Tryz.func78, ob78 e p, nm78⟩, ⟨_, _, _, Tryz.func82, ob82 e p, nm82⟩, ⟨_, _, _, Tryz.func86, ob86 e p, nm86⟩, ⟨_, _, _, Tryz.func90, ob90 e p, nm90⟩, ⟨_, _, _, Tryz.func94, ob94 e p, nm94⟩, ⟨_, _, _, Tryz.func98, ob98 e p, nm98⟩, ⟨_, _, _, Tryz.func105, ob105 e p, nm105⟩, ⟨_, _, _, Tryz.func109, ob109 e p, nm109⟩, ⟨_, _, _, Tryz.func120, ob120 e p, nm120⟩, fun _ h => by cases h⟩
end Go.Proofs.YtnhbopeopppojaaGreatDoor.Dv
