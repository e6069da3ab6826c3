/-
  The machine's code is the program's.
-/
import Derived.Test.YtnhbopeopppojaaGreatDoorDe
import Derived.Test.YtnhbopeopppojaaGreatDoorVa
import Derived.Test.YtnhbopeopppojaaGreatDoorVb
import Derived.Test.YtnhbopeopppojaaGreatDoorVc
import Derived.Test.YtnhbopeopppojaaGreatDoorVd
namespace Go.Proofs.YtnhbopeopppojaaGreatDoor.Dv
open Go.Dm
theorem allGood (e : FuncId → List D → Heap → Option (D × Heap)) (p : FuncId → List D → Option D) : ∀ q ∈ fns, GoodP Tryz.prog (Vx e p) q.1 q.2 := fun q hq => by
  rcases List.mem_append.1 hq with h | h
  · exact goodA e p q h
  rcases List.mem_append.1 h with h | h
  · exact goodB e p q h
  rcases List.mem_append.1 h with h | h
  · exact goodC e p q h
  · exact goodD e p q h
theorem fnOf_mem : ∀ (l : List (FuncId × VFunc)) (f : FuncId) (v : VFunc), fnOf l f = some v → (f, v) ∈ l
  | [], _, _, h => by cases h
  | (g, u) :: r, f, v, h => by
    simp only [fnOf] at h
    split at h
    · rename_i e; cases h; subst e; exact List.mem_cons_self
    · exact List.mem_cons_of_mem _ (fnOf_mem r f v h)
theorem vokx {e : FuncId → List D → Heap → Option (D × Heap)} {p : FuncId → List D → Option D} {T : Kn → World → Prop} (up : ∀ {K : Kn} {μ : Mu} {H : Heap} {W : World} {K' : Kn} {μ' : Mu} {H' : Heap} {W' : World}, T K W → HR K μ H W → Nx K μ H W K' μ' H' W' → T K' W')
    (ext : ∀ (f : FuncId) (args : List D) (H : Heap) (d : D) (H' : Heap), e f args H = some (d, H') → H.length ≤ H'.length ∧ Known Tryz.prog f ∧ ∀ (K : Kn) (μ : Mu) (W : World) (vs : List Value), T K W → HR K μ H W → VRs K μ H args vs → Calls Tryz.prog f vs.toArray W (Gives K μ H W d H'))
    (pext : ∀ (f : FuncId) (ds : List D) (d : D) (vf : VFunc), (Vx e p).fn f = some vf → p f ds = some d → ∀ (K : Kn) (W : World) (vs : List Value), T K W → HR K mu0 [] W → VRs K mu0 [] ds vs → Calls Tryz.prog f vs.toArray W (Settles vf.own K W d)) :
    VOK Tryz.prog (Vx e p) T :=
  ⟨up, fun f vf h => allGood e p (f, vf) (fnOf_mem fns f vf h), (fun _ _ _ h => by cases h), ext, (fun _ _ _ h => by cases h), pext⟩
open Go.Dm Go.Proofs
theorem allGood2 (e : FuncId → List D → Heap → Option (D × Heap)) (p : FuncId → List D → Option D) : ∀ q ∈ on2 fns, GoodP Tryz.prog (V2x e p) q.1 q.2 := fun q hq => by
  obtain ⟨q0, h, rfl⟩ := List.mem_map.1 hq
  rcases List.mem_append.1 h with h | h
  · exact good2A e p q0 h
  rcases List.mem_append.1 h with h | h
  · exact good2B e p q0 h
  rcases List.mem_append.1 h with h | h
  · exact good2C e p q0 h
  · exact good2D e p q0 h
theorem vokx2 {e : FuncId → List D → Heap → Option (D × Heap)} {p : FuncId → List D → Option D} {T : Kn → World → Prop} (up : ∀ {K : Kn} {μ : Mu} {H : Heap} {W : World} {K' : Kn} {μ' : Mu} {H' : Heap} {W' : World}, T K W → HR K μ H W → Nx K μ H W K' μ' H' W' → T K' W')
    (ext : ∀ (f : FuncId) (args : List D) (H : Heap) (d : D) (H' : Heap), e f args H = some (d, H') → H.length ≤ H'.length ∧ Known Tryz.prog f ∧ ∀ (K : Kn) (μ : Mu) (W : World) (vs : List Value), T K W → HR K μ H W → VRs K μ H args vs → Calls Tryz.prog f vs.toArray W (Gives K μ H W d H'))
    (pext : ∀ (f : FuncId) (ds : List D) (d : D) (vf : VFunc), (V2x e p).fn f = some vf → p f ds = some d → ∀ (K : Kn) (W : World) (vs : List Value), T K W → HR K mu0 [] W → VRs K mu0 [] ds vs → Calls Tryz.prog f vs.toArray W (Settles vf.own K W d)) :
    VOK Tryz.prog (V2x e p) T :=
  ⟨up, fun f vf h => allGood2 e p (f, vf) (fnOf_mem (on2 fns) f vf h), (fun _ _ _ h => by cases h), ext, (fun _ _ _ h => by cases h), pext⟩
end Go.Proofs.YtnhbopeopppojaaGreatDoor.Dv
