/-
  The machine's code is the program's, function by function.
-/
import Derived.Test.YtnhbopeopppojaaGreatDoorProg
import Derived.KernelRfl
import Derived.Test.YtnhbopeopppojaaGreatDoorDa
import Derived.Test.YtnhbopeopppojaaGreatDoorV
import Derived.Test.YtnhbopeopppojaaGreatDoorW
namespace Go.Proofs.YtnhbopeopppojaaGreatDoor.Dv
open Go.Dm Go.Proofs
variable (e : FuncId → List D → Heap → Option (D × Heap)) (p : FuncId → List D → Option D)
theorem ok3 : okFn Tryz.prog (Vx e p) Tryz.f3 v3 tm3 bs3 = true := by kernel_rfl
theorem nm3 : Tryz.f3.name ≠ "runtime.NumGoroutine" := by decide +kernel
theorem ok7 : okFn Tryz.prog (Vx e p) Tryz.f7 v7 tm7 bs7 = true := by kernel_rfl
theorem nm7 : Tryz.f7.name ≠ "runtime.NumGoroutine" := by decide +kernel
theorem ok11 : okFn Tryz.prog (Vx e p) Tryz.f11 v11 tm11 bs11 = true := by kernel_rfl
theorem nm11 : Tryz.f11.name ≠ "runtime.NumGoroutine" := by decide +kernel
theorem ok15 : okFn Tryz.prog (Vx e p) Tryz.f15 v15 tm15 bs15 = true := by kernel_rfl
theorem nm15 : Tryz.f15.name ≠ "runtime.NumGoroutine" := by decide +kernel
theorem ok19 : okFn Tryz.prog (Vx e p) Tryz.f19 v19 tm19 bs19 = true := by kernel_rfl
theorem nm19 : Tryz.f19.name ≠ "runtime.NumGoroutine" := by decide +kernel
theorem ok23 : okFn Tryz.prog (Vx e p) Tryz.f23 v23 tm23 bs23 = true := by kernel_rfl
theorem nm23 : Tryz.f23.name ≠ "runtime.NumGoroutine" := by decide +kernel
theorem ok27 : okFn Tryz.prog (Vx e p) Tryz.f27 v27 tm27 bs27 = true := by kernel_rfl
theorem nm27 : Tryz.f27.name ≠ "runtime.NumGoroutine" := by decide +kernel
theorem ok31 : okFn Tryz.prog (Vx e p) Tryz.f31 v31 tm31 bs31 = true := by kernel_rfl
theorem nm31 : Tryz.f31.name ≠ "runtime.NumGoroutine" := by decide +kernel
theorem ok35 : okFn Tryz.prog (Vx e p) Tryz.f35 v35 tm35 bs35 = true := by kernel_rfl
theorem nm35 : Tryz.f35.name ≠ "runtime.NumGoroutine" := by decide +kernel
theorem ok39 : okFn Tryz.prog (Vx e p) Tryz.f39 v39 tm39 bs39 = true := by kernel_rfl
theorem nm39 : Tryz.f39.name ≠ "runtime.NumGoroutine" := by decide +kernel
theorem ok44 : okFn Tryz.prog (Vx e p) Tryz.f44 v44 tm44 bs44 = true := by kernel_rfl
theorem nm44 : Tryz.f44.name ≠ "runtime.NumGoroutine" := by decide +kernel
theorem ok48 : okFn Tryz.prog (Vx e p) Tryz.f48 v48 tm48 bs48 = true := by kernel_rfl
theorem nm48 : Tryz.f48.name ≠ "runtime.NumGoroutine" := by decide +kernel
theorem ok52 : okFn Tryz.prog (Vx e p) Tryz.f52 v52 tm52 bs52 = true := by kernel_rfl
theorem nm52 : Tryz.f52.name ≠ "runtime.NumGoroutine" := by decide +kernel
theorem ok56 : okFn Tryz.prog (Vx e p) Tryz.f56 v56 tm56 bs56 = true := by kernel_rfl
theorem nm56 : Tryz.f56.name ≠ "runtime.NumGoroutine" := by decide +kernel
theorem ok60 : okFn Tryz.prog (Vx e p) Tryz.f60 v60 tm60 bs60 = true := by kernel_rfl
theorem nm60 : Tryz.f60.name ≠ "runtime.NumGoroutine" := by decide +kernel
theorem ok64 : okFn Tryz.prog (Vx e p) Tryz.f64 v64 tm64 bs64 = true := by kernel_rfl
theorem nm64 : Tryz.f64.name ≠ "runtime.NumGoroutine" := by decide +kernel
theorem ok68 : okFn Tryz.prog (Vx e p) Tryz.f68 v68 tm68 bs68 = true := by kernel_rfl
theorem nm68 : Tryz.f68.name ≠ "runtime.NumGoroutine" := by decide +kernel
theorem ok73 : okFn Tryz.prog (Vx e p) Tryz.f73 v73 tm73 bs73 = true := by kernel_rfl
theorem nm73 : Tryz.f73.name ≠ "runtime.NumGoroutine" := by decide +kernel
theorem ok77 : okFn Tryz.prog (Vx e p) Tryz.f77 v77 tm77 bs77 = true := by kernel_rfl
theorem nm77 : Tryz.f77.name ≠ "runtime.NumGoroutine" := by decide +kernel
theorem ok81 : okFn Tryz.prog (Vx e p) Tryz.f81 v81 tm81 bs81 = true := by kernel_rfl
theorem nm81 : Tryz.f81.name ≠ "runtime.NumGoroutine" := by decide +kernel
theorem ok85 : okFn Tryz.prog (Vx e p) Tryz.f85 v85 tm85 bs85 = true := by kernel_rfl
theorem nm85 : Tryz.f85.name ≠ "runtime.NumGoroutine" := by decide +kernel
theorem ok89 : okFn Tryz.prog (Vx e p) Tryz.f89 v89 tm89 bs89 = true := by kernel_rfl
theorem nm89 : Tryz.f89.name ≠ "runtime.NumGoroutine" := by decide +kernel
theorem ok93 : okFn Tryz.prog (Vx e p) Tryz.f93 v93 tm93 bs93 = true := by kernel_rfl
theorem nm93 : Tryz.f93.name ≠ "runtime.NumGoroutine" := by decide +kernel
theorem ok97 : okFn Tryz.prog (Vx e p) Tryz.f97 v97 tm97 bs97 = true := by kernel_rfl
theorem nm97 : Tryz.f97.name ≠ "runtime.NumGoroutine" := by decide +kernel
theorem ok104 : okFn Tryz.prog (Vx e p) Tryz.f104 v104 tm104 bs104 = true := by kernel_rfl
theorem nm104 : Tryz.f104.name ≠ "runtime.NumGoroutine" := by decide +kernel
theorem ok108 : okFn Tryz.prog (Vx e p) Tryz.f108 v108 tm108 bs108 = true := by kernel_rfl
theorem nm108 : Tryz.f108.name ≠ "runtime.NumGoroutine" := by decide +kernel
theorem ok114 : okFn Tryz.prog (Vx e p) Tryz.f114 v114 tm114 bs114 = true := by kernel_rfl
theorem nm114 : Tryz.f114.name ≠ "runtime.NumGoroutine" := by decide +kernel
theorem goodA : ∀ q ∈ fnsA, GoodP Tryz.prog (Vx e p) q.1 q.2 := by
  simp only [fnsA, List.forall_mem_cons]
  exact ⟨⟨_, _, _, Tryz.func3, ok3 e p, nm3⟩, ⟨_, _, _, Tryz.func7, ok7 e p, nm7⟩, ⟨_, _, _, Tryz.func11, ok11 e p, nm11⟩, ⟨_, _, _, Tryz.func15, ok15 e p, nm15⟩, ⟨_, _, _, Tryz.func19, ok19 e p, nm19⟩, ⟨_, _, _, Tryz.func23, ok23 e p, nm23⟩, ⟨_, _, _, Tryz.func27, ok27 e p, nm27⟩, ⟨_, _, _, Tryz.func31, ok31 e p, nm31⟩, ⟨_, _, _, Tryz.func35, ok35 e p, nm35⟩, ⟨_, _, _, Tryz.func39, ok39 e p, nm39⟩, ⟨_, _, _, Tryz.func44, ok44 e p, nm44⟩, ⟨_, _, _, Tryz.func48, ok48 e p, nm48⟩, ⟨_, _, _, Tryz.func52, ok52 e p, nm52⟩, ⟨_, _, _, Tryz.func56, ok56 e p, nm56⟩, ⟨_, _, _, Tryz.func60, ok60 e p, nm60⟩, ⟨_, _, _, Tryz.func64, ok64 e p, nm64⟩, ⟨_, _, _, Tryz.func68, ok68 e p, nm68⟩, ⟨_, _, _, Tryz.func73, ok73 e p, nm73⟩, ⟨_, _, _, Tryz.func77, ok77 e p, nm77⟩, ⟨_, _, _, Tryz.func81, ok81 e p, nm81⟩, ⟨_, _, _, Tryz.func85, ok85 e p, nm85⟩, ⟨_, _, _, Tryz.func89, ok89 e p, nm89⟩, ⟨_, _, _, Tryz.func93, ok93 e p, nm93⟩, ⟨_, _, _, Tryz.func97, ok97 e p, nm97⟩, ⟨_, _, _, Tryz.func104, ok104 e p, nm104⟩, ⟨_, _, _, Tryz.func108, ok108 e p, nm108⟩, ⟨_, _, _, Tryz.func114, ok114 e p, nm114⟩, fun _ h => by cases h⟩
open Go.Dm Go.Proofs
theorem ob3 : okFn Tryz.prog (V2x e p) Tryz.f3 (own2 3 v3) tm3 bs3 = true := by kernel_rfl
theorem ob7 : okFn Tryz.prog (V2x e p) Tryz.f7 (own2 7 v7) tm7 bs7 = true := by kernel_rfl
theorem ob11 : okFn Tryz.prog (V2x e p) Tryz.f11 (own2 11 v11) tm11 bs11 = true := by kernel_rfl
theorem ob15 : okFn Tryz.prog (V2x e p) Tryz.f15 (own2 15 v15) tm15 bs15 = true := by kernel_rfl
theorem ob19 : okFn Tryz.prog (V2x e p) Tryz.f19 (own2 19 v19) tm19 bs19 = true := by kernel_rfl
theorem ob23 : okFn Tryz.prog (V2x e p) Tryz.f23 (own2 23 v23) tm23 bs23 = true := by kernel_rfl
theorem ob27 : okFn Tryz.prog (V2x e p) Tryz.f27 (own2 27 v27) tm27 bs27 = true := by kernel_rfl
theorem ob31 : okFn Tryz.prog (V2x e p) Tryz.f31 (own2 31 v31) tm31 bs31 = true := by kernel_rfl
theorem ob35 : okFn Tryz.prog (V2x e p) Tryz.f35 (own2 35 v35) tm35 bs35 = true := by kernel_rfl
theorem ob39 : okFn Tryz.prog (V2x e p) Tryz.f39 (own2 39 v39) tm39 bs39 = true := by kernel_rfl
theorem ob44 : okFn Tryz.prog (V2x e p) Tryz.f44 (own2 44 v44) tm44 bs44 = true := by kernel_rfl
theorem ob48 : okFn Tryz.prog (V2x e p) Tryz.f48 (own2 48 v48) tm48 bs48 = true := by kernel_rfl
theorem ob52 : okFn Tryz.prog (V2x e p) Tryz.f52 (own2 52 v52) tm52 bs52 = true := by kernel_rfl
theorem ob56 : okFn Tryz.prog (V2x e p) Tryz.f56 (own2 56 v56) tm56 bs56 = true := by kernel_rfl
theorem ob60 : okFn Tryz.prog (V2x e p) Tryz.f60 (own2 60 v60) tm60 bs60 = true := by kernel_rfl
theorem ob64 : okFn Tryz.prog (V2x e p) Tryz.f64 (own2 64 v64) tm64 bs64 = true := by kernel_rfl
theorem ob68 : okFn Tryz.prog (V2x e p) Tryz.f68 (own2 68 v68) tm68 bs68 = true := by kernel_rfl
theorem ob73 : okFn Tryz.prog (V2x e p) Tryz.f73 (own2 73 v73) tm73 bs73 = true := by kernel_rfl
theorem ob77 : okFn Tryz.prog (V2x e p) Tryz.f77 (own2 77 v77) tm77 bs77 = true := by kernel_rfl
theorem ob81 : okFn Tryz.prog (V2x e p) Tryz.f81 (own2 81 v81) tm81 bs81 = true := by kernel_rfl
theorem ob85 : okFn Tryz.prog (V2x e p) Tryz.f85 (own2 85 v85) tm85 bs85 = true := by kernel_rfl
theorem ob89 : okFn Tryz.prog (V2x e p) Tryz.f89 (own2 89 v89) tm89 bs89 = true := by kernel_rfl
theorem ob93 : okFn Tryz.prog (V2x e p) Tryz.f93 (own2 93 v93) tm93 bs93 = true := by kernel_rfl
theorem ob97 : okFn Tryz.prog (V2x e p) Tryz.f97 (own2 97 v97) tm97 bs97 = true := by kernel_rfl
theorem ob104 : okFn Tryz.prog (V2x e p) Tryz.f104 (own2 104 v104) tm104 bs104 = true := by kernel_rfl
theorem ob108 : okFn Tryz.prog (V2x e p) Tryz.f108 (own2 108 v108) tm108 bs108 = true := by kernel_rfl
theorem ob114 : okFn Tryz.prog (V2x e p) Tryz.f114 (own2 114 v114) tm114 bs114 = true := by kernel_rfl
theorem good2A : ∀ q ∈ fnsA, GoodP Tryz.prog (V2x e p) q.1 (own2 q.1 q.2) := by
  simp only [fnsA, List.forall_mem_cons]
  exact ⟨⟨_, _, _, Tryz.func3, ob3 e p, nm3⟩, ⟨_, _, _, Tryz.func7, ob7 e p, nm7⟩, ⟨_, _, _, Tryz.func11, ob11 e p, nm11⟩, ⟨_, _, _, Tryz.func15, ob15 e p, nm15⟩, ⟨_, _, _, Tryz.func19, ob19 e p, nm19⟩, ⟨_, _, _, Tryz.func23, ob23 e p, nm23⟩, ⟨_, _, _, Tryz.func27, ob27 e p, nm27⟩, ⟨_, _, _, Tryz.func31, ob31 e p, nm31⟩, ⟨_, _, _, Tryz.func35, ob35 e p, nm35⟩, ⟨_, _, _, Tryz.func39, ob39 e p, nm39⟩, ⟨_, _, _, Tryz.func44, ob44 e p, nm44⟩, ⟨_, _, _, Tryz.func48, ob48 e p, nm48⟩, ⟨_, _, _, Tryz.func52, ob52 e p, nm52⟩, ⟨_, _, _, Tryz.func56, ob56 e p, nm56⟩, ⟨_, _, _, Tryz.func60, ob60 e p, nm60⟩, ⟨_, _, _, Tryz.func64, ob64 e p, nm64⟩, ⟨_, _, _, Tryz.func68, ob68 e p, nm68⟩, ⟨_, _, _, Tryz.func73, ob73 e p, nm73⟩, ⟨_, _, _, Tryz.func77, ob77 e p, nm77⟩, ⟨_, _, _, Tryz.func81, ob81 e p, nm81⟩, ⟨_, _, _, Tryz.func85, ob85 e p, nm85⟩, ⟨_, _, _, Tryz.func89, ob89 e p, nm89⟩, ⟨_, _, _, Tryz.func93, ob93 e p, nm93⟩, ⟨_, _, _, Tryz.func97, ob97 e p, nm97⟩, ⟨_, _, _, Tryz.func104, ob104 e p, nm104⟩, ⟨_, _, _, Tryz.func108, ob108 e p, nm108⟩, ⟨_, _, _, Tryz.func114, ob114 e p, nm114⟩, fun _ h => by cases h⟩
end Go.Proofs.YtnhbopeopppojaaGreatDoor.Dv
