/-
  The machine's code is the program's, function by function.
-/
import Derived.Test.YtnhbopeopppojaaGreatDoorProg
import Derived.KernelRfl
import Derived.Test.YtnhbopeopppojaaGreatDoorDa
import Derived.Test.YtnhbopeopppojaaGreatDoorV
import Derived.Test.YtnhbopeopppojaaGreatDoorW
namespace Go.Proofs.YtnhbopeopppojaaGreatDoor.Dv
open Go.Dm Go.Proofs
variable (e : FuncId → List D → Heap → Option (D × Heap)) (p : FuncId → List D → Option D)
theorem ok5 : okFn Tryz.prog (Vx e p) Tryz.f5 v5 tm5 bs5 = true := by kernel_rfl
theorem nm5 : Tryz.f5.name ≠ "runtime.NumGoroutine" := by decide +kernel
theorem ok9 : okFn Tryz.prog (Vx e p) Tryz.f9 v9 tm9 bs9 = true := by kernel_rfl
theorem nm9 : Tryz.f9.name ≠ "runtime.NumGoroutine" := by decide +kernel
theorem ok13 : okFn Tryz.prog (Vx e p) Tryz.f13 v13 tm13 bs13 = true := by kernel_rfl
theorem nm13 : Tryz.f13.name ≠ "runtime.NumGoroutine" := by decide +kernel
theorem ok17 : okFn Tryz.prog (Vx e p) Tryz.f17 v17 tm17 bs17 = true := by kernel_rfl
theorem nm17 : Tryz.f17.name ≠ "runtime.NumGoroutine" := by decide +kernel
theorem ok21 : okFn Tryz.prog (Vx e p) Tryz.f21 v21 tm21 bs21 = true := by kernel_rfl
theorem nm21 : Tryz.f21.name ≠ "runtime.NumGoroutine" := by decide +kernel
theorem ok25 : okFn Tryz.prog (Vx e p) Tryz.f25 v25 tm25 bs25 = true := by kernel_rfl
theorem nm25 : Tryz.f25.name ≠ "runtime.NumGoroutine" := by decide +kernel
theorem ok29 : okFn Tryz.prog (Vx e p) Tryz.f29 v29 tm29 bs29 = true := by kernel_rfl
theorem nm29 : Tryz.f29.name ≠ "runtime.NumGoroutine" := by decide +kernel
theorem ok33 : okFn Tryz.prog (Vx e p) Tryz.f33 v33 tm33 bs33 = true := by kernel_rfl
theorem nm33 : Tryz.f33.name ≠ "runtime.NumGoroutine" := by decide +kernel
theorem ok37 : okFn Tryz.prog (Vx e p) Tryz.f37 v37 tm37 bs37 = true := by kernel_rfl
theorem nm37 : Tryz.f37.name ≠ "runtime.NumGoroutine" := by decide +kernel
theorem ok42 : okFn Tryz.prog (Vx e p) Tryz.f42 v42 tm42 bs42 = true := by kernel_rfl
theorem nm42 : Tryz.f42.name ≠ "runtime.NumGoroutine" := by decide +kernel
theorem ok46 : okFn Tryz.prog (Vx e p) Tryz.f46 v46 tm46 bs46 = true := by kernel_rfl
theorem nm46 : Tryz.f46.name ≠ "runtime.NumGoroutine" := by decide +kernel
theorem ok50 : okFn Tryz.prog (Vx e p) Tryz.f50 v50 tm50 bs50 = true := by kernel_rfl
theorem nm50 : Tryz.f50.name ≠ "runtime.NumGoroutine" := by decide +kernel
theorem ok54 : okFn Tryz.prog (Vx e p) Tryz.f54 v54 tm54 bs54 = true := by kernel_rfl
theorem nm54 : Tryz.f54.name ≠ "runtime.NumGoroutine" := by decide +kernel
theorem ok58 : okFn Tryz.prog (Vx e p) Tryz.f58 v58 tm58 bs58 = true := by kernel_rfl
theorem nm58 : Tryz.f58.name ≠ "runtime.NumGoroutine" := by decide +kernel
theorem ok62 : okFn Tryz.prog (Vx e p) Tryz.f62 v62 tm62 bs62 = true := by kernel_rfl
theorem nm62 : Tryz.f62.name ≠ "runtime.NumGoroutine" := by decide +kernel
theorem ok66 : okFn Tryz.prog (Vx e p) Tryz.f66 v66 tm66 bs66 = true := by kernel_rfl
theorem nm66 : Tryz.f66.name ≠ "runtime.NumGoroutine" := by decide +kernel
theorem ok71 : okFn Tryz.prog (Vx e p) Tryz.f71 v71 tm71 bs71 = true := by kernel_rfl
theorem nm71 : Tryz.f71.name ≠ "runtime.NumGoroutine" := by decide +kernel
theorem ok75 : okFn Tryz.prog (Vx e p) Tryz.f75 v75 tm75 bs75 = true := by kernel_rfl
theorem nm75 : Tryz.f75.name ≠ "runtime.NumGoroutine" := by decide +kernel
theorem ok79 : okFn Tryz.prog (Vx e p) Tryz.f79 v79 tm79 bs79 = true := by kernel_rfl
theorem nm79 : Tryz.f79.name ≠ "runtime.NumGoroutine" := by decide +kernel
theorem ok83 : okFn Tryz.prog (Vx e p) Tryz.f83 v83 tm83 bs83 = true := by kernel_rfl
theorem nm83 : Tryz.f83.name ≠ "runtime.NumGoroutine" := by decide +kernel
theorem ok87 : okFn Tryz.prog (Vx e p) Tryz.f87 v87 tm87 bs87 = true := by kernel_rfl
theorem nm87 : Tryz.f87.name ≠ "runtime.NumGoroutine" := by decide +kernel
theorem ok91 : okFn Tryz.prog (Vx e p) Tryz.f91 v91 tm91 bs91 = true := by kernel_rfl
theorem nm91 : Tryz.f91.name ≠ "runtime.NumGoroutine" := by decide +kernel
theorem ok95 : okFn Tryz.prog (Vx e p) Tryz.f95 v95 tm95 bs95 = true := by kernel_rfl
theorem nm95 : Tryz.f95.name ≠ "runtime.NumGoroutine" := by decide +kernel
theorem ok102 : okFn Tryz.prog (Vx e p) Tryz.f102 v102 tm102 bs102 = true := by kernel_rfl
theorem nm102 : Tryz.f102.name ≠ "runtime.NumGoroutine" := by decide +kernel
theorem ok106 : okFn Tryz.prog (Vx e p) Tryz.f106 v106 tm106 bs106 = true := by kernel_rfl
theorem nm106 : Tryz.f106.name ≠ "runtime.NumGoroutine" := by decide +kernel
theorem ok112 : okFn Tryz.prog (Vx e p) Tryz.f112 v112 tm112 bs112 = true := by kernel_rfl
theorem nm112 : Tryz.f112.name ≠ "runtime.NumGoroutine" := by decide +kernel
theorem ok121 : okFn Tryz.prog (Vx e p) Tryz.f121 v121 tm121 bs121 = true := by kernel_rfl
theorem nm121 : Tryz.f121.name ≠ "runtime.NumGoroutine" := by decide +kernel
theorem goodC : ∀ q ∈ fnsC, GoodP Tryz.prog (Vx e p) q.1 q.2 := by
  simp only [fnsC, List.forall_mem_cons]
  exact ⟨⟨_, _, _, Tryz.func5, ok5 e p, nm5⟩, ⟨_, _, _, Tryz.func9, ok9 e p, nm9⟩, ⟨_, _, _, Tryz.func13, ok13 e p, nm13⟩, ⟨_, _, _, Tryz.func17, ok17 e p, nm17⟩, ⟨_, _, _, Tryz.func21, ok21 e p, nm21⟩, ⟨_, _, _, Tryz.func25, ok25 e p, nm25⟩, ⟨_, _, _, Tryz.func29, ok29 e p, nm29⟩, ⟨_, _, _, Tryz.func33, ok33 e p, nm33⟩, ⟨_, _, _, Tryz.func37, ok37 e p, nm37⟩, ⟨_, _, _, Tryz.func42, ok42 e p, nm42⟩, ⟨_, _, _, Tryz.func46, ok46 e p, nm46⟩, ⟨_, _, _, Tryz.func50, ok50 e p, nm50⟩, ⟨_, _, _, Tryz.func54, ok54 e p, nm54⟩, ⟨_, _, _, Tryz.func58, ok58 e p, nm58⟩, ⟨_, _, _, Tryz.func62, ok62 e p, nm62⟩, ⟨_, _, _, Tryz.func66, ok66 e p, nm66⟩, ⟨_, _, _, Tryz.func71, ok71 e p, nm71⟩, ⟨_, _, _, Tryz.func75, ok75 e p, nm75⟩, ⟨_, _, _, Tryz.func79, ok79 e p, nm79⟩, ⟨_, _, _, Tryz.func83, ok83 e p, nm83⟩, ⟨_, _, _, Tryz.func87, ok87 e p, nm87⟩, ⟨_, _, _, Tryz.func91, ok91 e p, nm91⟩, ⟨_, _, _, Tryz.func95, ok95 e p, nm95⟩, ⟨_, _, _, Tryz.func102, ok102 e p, nm102⟩, ⟨_, _, _, Tryz.func106, ok106 e p, nm106⟩, ⟨_, _, _, Tryz.func112, ok112 e p, nm112⟩, ⟨_, _, _, Tryz.func121, ok121 e p, nm121⟩, fun _ h => by cases h⟩
open Go.Dm Go.Proofs
theorem ob5 : okFn Tryz.prog (V2x e p) Tryz.f5 (own2 5 v5) tm5 bs5 = true := by kernel_rfl
theorem ob9 : okFn Tryz.prog (V2x e p) Tryz.f9 (own2 9 v9) tm9 bs9 = true := by kernel_rfl
theorem ob13 : okFn Tryz.prog (V2x e p) Tryz.f13 (own2 13 v13) tm13 bs13 = true := by kernel_rfl
theorem ob17 : okFn Tryz.prog (V2x e p) Tryz.f17 (own2 17 v17) tm17 bs17 = true := by kernel_rfl
theorem ob21 : okFn Tryz.prog (V2x e p) Tryz.f21 (own2 21 v21) tm21 bs21 = true := by kernel_rfl
theorem ob25 : okFn Tryz.prog (V2x e p) Tryz.f25 (own2 25 v25) tm25 bs25 = true := by kernel_rfl
theorem ob29 : okFn Tryz.prog (V2x e p) Tryz.f29 (own2 29 v29) tm29 bs29 = true := by kernel_rfl
theorem ob33 : okFn Tryz.prog (V2x e p) Tryz.f33 (own2 33 v33) tm33 bs33 = true := by kernel_rfl
theorem ob37 : okFn Tryz.prog (V2x e p) Tryz.f37 (own2 37 v37) tm37 bs37 = true := by kernel_rfl
theorem ob42 : okFn Tryz.prog (V2x e p) Tryz.f42 (own2 42 v42) tm42 bs42 = true := by kernel_rfl
theorem ob46 : okFn Tryz.prog (V2x e p) Tryz.f46 (own2 46 v46) tm46 bs46 = true := by kernel_rfl
theorem ob50 : okFn Tryz.prog (V2x e p) Tryz.f50 (own2 50 v50) tm50 bs50 = true := by kernel_rfl
theorem ob54 : okFn Tryz.prog (V2x e p) Tryz.f54 (own2 54 v54) tm54 bs54 = true := by kernel_rfl
theorem ob58 : okFn Tryz.prog (V2x e p) Tryz.f58 (own2 58 v58) tm58 bs58 = true := by kernel_rfl
theorem ob62 : okFn Tryz.prog (V2x e p) Tryz.f62 (own2 62 v62) tm62 bs62 = true := by kernel_rfl
theorem ob66 : okFn Tryz.prog (V2x e p) Tryz.f66 (own2 66 v66) tm66 bs66 = true := by kernel_rfl
theorem ob71 : okFn Tryz.prog (V2x e p) Tryz.f71 (own2 71 v71) tm71 bs71 = true := by kernel_rfl
theorem ob75 : okFn Tryz.prog (V2x e p) Tryz.f75 (own2 75 v75) tm75 bs75 = true := by kernel_rfl
theorem ob79 : okFn Tryz.prog (V2x e p) Tryz.f79 (own2 79 v79) tm79 bs79 = true := by kernel_rfl
theorem ob83 : okFn Tryz.prog (V2x e p) Tryz.f83 (own2 83 v83) tm83 bs83 = true := by kernel_rfl
theorem ob87 : okFn Tryz.prog (V2x e p) Tryz.f87 (own2 87 v87) tm87 bs87 = true := by kernel_rfl
theorem ob91 : okFn Tryz.prog (V2x e p) Tryz.f91 (own2 91 v91) tm91 bs91 = true := by kernel_rfl
theorem ob95 : okFn Tryz.prog (V2x e p) Tryz.f95 (own2 95 v95) tm95 bs95 = true := by kernel_rfl
theorem ob102 : okFn Tryz.prog (V2x e p) Tryz.f102 (own2 102 v102) tm102 bs102 = true := by kernel_rfl
theorem ob106 : okFn Tryz.prog (V2x e p) Tryz.f106 (own2 106 v106) tm106 bs106 = true := by kernel_rfl
theorem ob112 : okFn Tryz.prog (V2x e p) Tryz.f112 (own2 112 v112) tm112 bs112 = true := by kernel_rfl
theorem ob121 : okFn Tryz.prog (V2x e p) Tryz.f121 (own2 121 v121) tm121 bs121 = true := by kernel_rfl
theorem good2C : ∀ q ∈ fnsC, GoodP Tryz.prog (V2x e p) q.1 (own2 q.1 q.2) := by
  simp only [fnsC, List.forall_mem_cons]
  exact ⟨⟨_, _, _, Tryz.func5, ob5 e p, nm5⟩, ⟨_, _, _, Tryz.func9, ob9 e p, nm9⟩, ⟨_, _, _, Tryz.func13, ob13 e p, nm13⟩, ⟨_, _, _, Tryz.func17, ob17 e p, nm17⟩, ⟨_, _, _, Tryz.func21, ob21 e p, nm21⟩, ⟨_, _, _, Tryz.func25, ob25 e p, nm25⟩, ⟨_, _, _, Tryz.func29, ob29 e p, nm29⟩, ⟨_, _, _, Tryz.func33, ob33 e p, nm33⟩, ⟨_, _, _, Tryz.func37, ob37 e p, nm37⟩, ⟨_, _, _, Tryz.func42, ob42 e p, nm42⟩, ⟨_, _, _, Tryz.func46, ob46 e p, nm46⟩, ⟨_, _, _, Tryz.func50, ob50 e p, nm50⟩, ⟨_, _, _, Tryz.func54, ob54 e p, nm54⟩, ⟨_, _, _, Tryz.func58, ob58 e p, nm58⟩, ⟨_, _, _, Tryz.func62, ob62 e p, nm62⟩, ⟨_, _, _, Tryz.func66, ob66 e p, nm66⟩, ⟨_, _, _, Tryz.func71, ob71 e p, nm71⟩, ⟨_, _, _, Tryz.func75, ob75 e p, nm75⟩, ⟨_, _, _, Tryz.func79, ob79 e p, nm79⟩, ⟨_, _, _, Tryz.func83, ob83 e p, nm83⟩, ⟨_, _, _, Tryz.func87, ob87 e p, nm87⟩, ⟨_, _, _, Tryz.func91, ob91 e p, nm91⟩, ⟨_, _, _, Tryz.func95, ob95 e p, nm95⟩, ⟨_, _, _, Tryz.func102, ob102 e p, nm102⟩, ⟨_, _, _, Tryz.func106, ob106 e p, nm106⟩, ⟨_, _, _, Tryz.func112, ob112 e p, nm112⟩, ⟨_, _, _, Tryz.func121, ob121 e p, nm121⟩, fun _ h => by cases h⟩
end Go.Proofs.YtnhbopeopppojaaGreatDoor.Dv
