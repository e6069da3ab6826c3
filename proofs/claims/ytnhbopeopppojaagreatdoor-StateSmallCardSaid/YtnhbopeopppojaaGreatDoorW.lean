/-
  The same code, some functions handing back new memory, some leaving nothing locked.
-/
import Derived.Test.YtnhbopeopppojaaGreatDoorV
namespace Go.Proofs.YtnhbopeopppojaaGreatDoor.Dv
open Go.Dm Go.Proofs
def own2 (f : FuncId) (v : VFunc) : VFunc := match f with
  | 11 => { v with own := true }
  | 15 => { v with own := true }
  | 23 => { v with fre := true }
  | 24 => { v with fre := true }
  | _ => v
def on2 (l : List (FuncId × VFunc)) : List (FuncId × VFunc) := l.map fun q => (q.1, own2 q.1 q.2)
def V2x (e : FuncId → List D → Heap → Option (D × Heap)) (p : FuncId → List D → Option D) : VProg := ⟨fnOf (on2 fns), meths, e, p, globs⟩
end Go.Proofs.YtnhbopeopppojaaGreatDoor.Dv
