/-
  The machine's code is the program's.
-/
import Derived.Test.YtkogdbgccjmaoaaDe
import Derived.Test.YtkogdbgccjmaoaaVa
import Derived.Test.YtkogdbgccjmaoaaVb
import Derived.Test.YtkogdbgccjmaoaaVc
import Derived.Test.YtkogdbgccjmaoaaVd
namespace Go.Proofs.Ytkogdbgccjmaoaa.Dv
open Go.Dm

def Good (e : FuncId → List D → Heap → Option (D × Heap)) (p : FuncId → List D → Option D) (g : FuncId) (v : VFunc) : Prop := ∃ (fn : Func) (tm bs : List Nat), Try.prog.funcs[g]? = some fn ∧ okFn Try.prog (Vx e p) fn v tm bs = true ∧ fn.name ≠ "runtime.NumGoroutine"
theorem allGood (e : FuncId → List D → Heap → Option (D × Heap)) (p : FuncId → List D → Option D) : ∀ q ∈ fns, Good e p q.1 q.2 := by
  simp only [fns, List.forall_mem_cons]
  exact ⟨⟨_, _, _, Try.func3, ok3 e p, nm3⟩, ⟨_, _, _, Try.func6, ok6 e p, nm6⟩, ⟨_, _, _, Try.func7, ok7 e p, nm7⟩, ⟨_, _, _, Try.func8, ok8 e p, nm8⟩, ⟨_, _, _, Try.func9, ok9 e p, nm9⟩, ⟨_, _, _, Try.func10, ok10 e p, nm10⟩, ⟨_, _, _, Try.func11, ok11 e p, nm11⟩, ⟨_, _, _, Try.func12, ok12 e p, nm12⟩, ⟨_, _, _, Try.func13, ok13 e p, nm13⟩, ⟨_, _, _, Try.func14, ok14 e p, nm14⟩, ⟨_, _, _, Try.func15, ok15 e p, nm15⟩, ⟨_, _, _, Try.func16, ok16 e p, nm16⟩, ⟨_, _, _, Try.func17, ok17 e p, nm17⟩, ⟨_, _, _, Try.func18, ok18 e p, nm18⟩, ⟨_, _, _, Try.func19, ok19 e p, nm19⟩, ⟨_, _, _, Try.func20, ok20 e p, nm20⟩, ⟨_, _, _, Try.func29, ok29 e p, nm29⟩, ⟨_, _, _, Try.func30, ok30 e p, nm30⟩, ⟨_, _, _, Try.func31, ok31 e p, nm31⟩, ⟨_, _, _, Try.func32, ok32 e p, nm32⟩, ⟨_, _, _, Try.func33, ok33 e p, nm33⟩, ⟨_, _, _, Try.func34, ok34 e p, nm34⟩, ⟨_, _, _, Try.func35, ok35 e p, nm35⟩, ⟨_, _, _, Try.func36, ok36 e p, nm36⟩, ⟨_, _, _, Try.func37, ok37 e p, nm37⟩, ⟨_, _, _, Try.func55, ok55 e p, nm55⟩, ⟨_, _, _, Try.func56, ok56 e p, nm56⟩, ⟨_, _, _, Try.func57, ok57 e p, nm57⟩, ⟨_, _, _, Try.func58, ok58 e p, nm58⟩, ⟨_, _, _, Try.func59, ok59 e p, nm59⟩, ⟨_, _, _, Try.func60, ok60 e p, nm60⟩, ⟨_, _, _, Try.func61, ok61 e p, nm61⟩, ⟨_, _, _, Try.func62, ok62 e p, nm62⟩, ⟨_, _, _, Try.func63, ok63 e p, nm63⟩, ⟨_, _, _, Try.func64, ok64 e p, nm64⟩, ⟨_, _, _, Try.func65, ok65 e p, nm65⟩, ⟨_, _, _, Try.func66, ok66 e p, nm66⟩, ⟨_, _, _, Try.func75, ok75 e p, nm75⟩, ⟨_, _, _, Try.func76, ok76 e p, nm76⟩, ⟨_, _, _, Try.func77, ok77 e p, nm77⟩, ⟨_, _, _, Try.func78, ok78 e p, nm78⟩, ⟨_, _, _, Try.func79, ok79 e p, nm79⟩, ⟨_, _, _, Try.func81, ok81 e p, nm81⟩, ⟨_, _, _, Try.func82, ok82 e p, nm82⟩, ⟨_, _, _, Try.func83, ok83 e p, nm83⟩, ⟨_, _, _, Try.func84, ok84 e p, nm84⟩, ⟨_, _, _, Try.func85, ok85 e p, nm85⟩, ⟨_, _, _, Try.func86, ok86 e p, nm86⟩, ⟨_, _, _, Try.func87, ok87 e p, nm87⟩, ⟨_, _, _, Try.func88, ok88 e p, nm88⟩, ⟨_, _, _, Try.func89, ok89 e p, nm89⟩, ⟨_, _, _, Try.func90, ok90 e p, nm90⟩, ⟨_, _, _, Try.func91, ok91 e p, nm91⟩, ⟨_, _, _, Try.func92, ok92 e p, nm92⟩, ⟨_, _, _, Try.func93, ok93 e p, nm93⟩, ⟨_, _, _, Try.func94, ok94 e p, nm94⟩, ⟨_, _, _, Try.func95, ok95 e p, nm95⟩, ⟨_, _, _, Try.func96, ok96 e p, nm96⟩, fun _ h => by cases h⟩
theorem fnOf_mem : ∀ (l : List (FuncId × VFunc)) (f : FuncId) (v : VFunc), fnOf l f = some v → (f, v) ∈ l
  | [], _, _, h => by cases h
  | (g, u) :: r, f, v, h => by
    simp only [fnOf] at h
    split at h
    · rename_i e; cases h; subst e; exact List.mem_cons_self
    · exact List.mem_cons_of_mem _ (fnOf_mem r f v h)
theorem vok0 : VOK Try.prog V0 := ⟨fun f vf h => allGood _ _ (f, vf) (fnOf_mem fns f vf h), fun _ _ => rfl, fun _ _ _ _ _ h => (by cases h), fun _ _ _ _ _ h => (by cases h)⟩
end Go.Proofs.Ytkogdbgccjmaoaa.Dv
