/-
  The machine's code is the program's.
-/
import Derived.Test.YtkogdbgccjmaoaaDe
import Derived.Test.YtkogdbgccjmaoaaVa
import Derived.Test.YtkogdbgccjmaoaaVb
import Derived.Test.YtkogdbgccjmaoaaVc
import Derived.Test.YtkogdbgccjmaoaaVd
namespace Go.Proofs.Ytkogdbgccjmaoaa.Dv
open Go.Dm

def Good (g : FuncId) (v : VFunc) : Prop := ∃ (fn : Func) (tm bs : List Nat), Try.prog.funcs[g]? = some fn ∧ okFn Try.prog V fn v tm bs = true ∧ fn.name ≠ "runtime.NumGoroutine"
theorem allGood : ∀ p ∈ fns, Good p.1 p.2 := by
  simp only [fns, List.forall_mem_cons]
  exact ⟨⟨_, _, _, Try.func5, ok5, nm5⟩, ⟨_, _, _, Try.func7, ok7, nm7⟩, ⟨_, _, _, Try.func8, ok8, nm8⟩, ⟨_, _, _, Try.func9, ok9, nm9⟩, ⟨_, _, _, Try.func10, ok10, nm10⟩, ⟨_, _, _, Try.func11, ok11, nm11⟩, ⟨_, _, _, Try.func12, ok12, nm12⟩, ⟨_, _, _, Try.func13, ok13, nm13⟩, ⟨_, _, _, Try.func14, ok14, nm14⟩, ⟨_, _, _, Try.func15, ok15, nm15⟩, ⟨_, _, _, Try.func16, ok16, nm16⟩, ⟨_, _, _, Try.func20, ok20, nm20⟩, ⟨_, _, _, Try.func21, ok21, nm21⟩, ⟨_, _, _, Try.func22, ok22, nm22⟩, ⟨_, _, _, Try.func23, ok23, nm23⟩, ⟨_, _, _, Try.func24, ok24, nm24⟩, ⟨_, _, _, Try.func25, ok25, nm25⟩, ⟨_, _, _, Try.func26, ok26, nm26⟩, ⟨_, _, _, Try.func27, ok27, nm27⟩, ⟨_, _, _, Try.func28, ok28, nm28⟩, ⟨_, _, _, Try.func30, ok30, nm30⟩, ⟨_, _, _, Try.func31, ok31, nm31⟩, ⟨_, _, _, Try.func32, ok32, nm32⟩, ⟨_, _, _, Try.func33, ok33, nm33⟩, ⟨_, _, _, Try.func34, ok34, nm34⟩, ⟨_, _, _, Try.func35, ok35, nm35⟩, ⟨_, _, _, Try.func37, ok37, nm37⟩, ⟨_, _, _, Try.func38, ok38, nm38⟩, ⟨_, _, _, Try.func39, ok39, nm39⟩, ⟨_, _, _, Try.func40, ok40, nm40⟩, ⟨_, _, _, Try.func41, ok41, nm41⟩, ⟨_, _, _, Try.func42, ok42, nm42⟩, ⟨_, _, _, Try.func43, ok43, nm43⟩, ⟨_, _, _, Try.func44, ok44, nm44⟩, ⟨_, _, _, Try.func45, ok45, nm45⟩, ⟨_, _, _, Try.func46, ok46, nm46⟩, ⟨_, _, _, Try.func47, ok47, nm47⟩, ⟨_, _, _, Try.func48, ok48, nm48⟩, ⟨_, _, _, Try.func49, ok49, nm49⟩, ⟨_, _, _, Try.func50, ok50, nm50⟩, ⟨_, _, _, Try.func51, ok51, nm51⟩, ⟨_, _, _, Try.func52, ok52, nm52⟩, ⟨_, _, _, Try.func53, ok53, nm53⟩, ⟨_, _, _, Try.func54, ok54, nm54⟩, ⟨_, _, _, Try.func57, ok57, nm57⟩, ⟨_, _, _, Try.func58, ok58, nm58⟩, ⟨_, _, _, Try.func59, ok59, nm59⟩, ⟨_, _, _, Try.func60, ok60, nm60⟩, ⟨_, _, _, Try.func61, ok61, nm61⟩, ⟨_, _, _, Try.func62, ok62, nm62⟩, ⟨_, _, _, Try.func63, ok63, nm63⟩, ⟨_, _, _, Try.func67, ok67, nm67⟩, ⟨_, _, _, Try.func68, ok68, nm68⟩, ⟨_, _, _, Try.func69, ok69, nm69⟩, ⟨_, _, _, Try.func70, ok70, nm70⟩, ⟨_, _, _, Try.func71, ok71, nm71⟩, ⟨_, _, _, Try.func72, ok72, nm72⟩, ⟨_, _, _, Try.func73, ok73, nm73⟩, ⟨_, _, _, Try.func74, ok74, nm74⟩, ⟨_, _, _, Try.func77, ok77, nm77⟩, ⟨_, _, _, Try.func78, ok78, nm78⟩, ⟨_, _, _, Try.func79, ok79, nm79⟩, ⟨_, _, _, Try.func80, ok80, nm80⟩, ⟨_, _, _, Try.func81, ok81, nm81⟩, ⟨_, _, _, Try.func82, ok82, nm82⟩, ⟨_, _, _, Try.func83, ok83, nm83⟩, ⟨_, _, _, Try.func84, ok84, nm84⟩, ⟨_, _, _, Try.func85, ok85, nm85⟩, ⟨_, _, _, Try.func86, ok86, nm86⟩, ⟨_, _, _, Try.func87, ok87, nm87⟩, ⟨_, _, _, Try.func88, ok88, nm88⟩, ⟨_, _, _, Try.func89, ok89, nm89⟩, ⟨_, _, _, Try.func90, ok90, nm90⟩, ⟨_, _, _, Try.func91, ok91, nm91⟩, ⟨_, _, _, Try.func92, ok92, nm92⟩, ⟨_, _, _, Try.func93, ok93, nm93⟩, ⟨_, _, _, Try.func94, ok94, nm94⟩, ⟨_, _, _, Try.func95, ok95, nm95⟩, ⟨_, _, _, Try.func96, ok96, nm96⟩, fun _ h => by cases h⟩
theorem fnOf_mem : ∀ (l : List (FuncId × VFunc)) (f : FuncId) (v : VFunc), fnOf l f = some v → (f, v) ∈ l
  | [], _, _, h => by cases h
  | (g, u) :: r, f, v, h => by
    simp only [fnOf] at h
    split at h
    · rename_i e; cases h; subst e; exact List.mem_cons_self
    · exact List.mem_cons_of_mem _ (fnOf_mem r f v h)
theorem vok : VOK Try.prog V := ⟨fun f vf h => allGood (f, vf) (fnOf_mem fns f vf h), fun _ _ => rfl⟩
end Go.Proofs.Ytkogdbgccjmaoaa.Dv
