/-
  The machine's code is the program's.
-/
import Derived.Test.YtgefdialaemelaaGreatDoorDf
import Derived.Test.YtgefdialaemelaaGreatDoorVa
import Derived.Test.YtgefdialaemelaaGreatDoorVb
namespace Go.Proofs.YtgefdialaemelaaGreatDoor.Dv
open Go.Dm
theorem allGood (e:FuncId -> List D -> Heap -> Option (D×Heap)) (p:FuncId -> List D -> Option D) : ∀ q∈fns,GoodP Tryz.prog (Vx e p) q.1 q.2:=fun q hq=>by
 rcases List.mem_append.1 hq with h|h
 ·exact goodA e p q h
 rcases List.mem_append.1 h with h|h
 ·exact goodB e p q h
 rcases List.mem_append.1 h with h|h
 ·exact goodC e p q h
 ·exact goodD e p q h
theorem fnOf_mem : ∀ (l:List (FuncId×VFunc)) (f:FuncId) (v:VFunc),fnOf l f=some v -> (f,v)∈l
 | [],_,_,h=>by cases h
 | (g,u)::r,f,v,h=>by
  simp only[fnOf]at h
  split at h
  ·rename_i e;cases h;subst e;exact List.mem_cons_self
  ·exact List.mem_cons_of_mem _ (fnOf_mem r f v h)
theorem rndOf_mem : ∀ (l:List (Nat×Rnd)) (f:Nat) (v:Rnd),rndOf l f=some v -> (f,v)∈l
 | [],_,_,h=>by cases h
 | (g,u)::r,f,v,h=>by
  simp only[rndOf]at h
  split at h
  ·rename_i e;cases h;subst e;exact List.mem_cons_self
  ·exact List.mem_cons_of_mem _ (rndOf_mem r f v h)
theorem rok0 (e:FuncId -> List D -> Heap -> Option (D×Heap)) (p:FuncId -> List D -> Option D):okRndP Tryz.prog (Vx e p) r0=true:=by kernel_rfl
theorem rok1 (e:FuncId -> List D -> Heap -> Option (D×Heap)) (p:FuncId -> List D -> Option D):okRndP Tryz.prog (Vx e p) r1=true:=by kernel_rfl
theorem rok4 (e:FuncId -> List D -> Heap -> Option (D×Heap)) (p:FuncId -> List D -> Option D):okRndP Tryz.prog (Vx e p) r4=true:=by kernel_rfl
theorem rndGood (e:FuncId -> List D -> Heap -> Option (D×Heap)) (p:FuncId -> List D -> Option D) : ∀ q∈rnds,okRndP Tryz.prog (Vx e p) q.2=true:=by
 simp only[rnds,List.forall_mem_cons]
 exact⟨rok0 e p,rok1 e p,rok4 e p,fun _ h=>by cases h⟩
theorem noY:Tryz.prog.funcs[yF]?=none:=by kernel_rfl
theorem meth0 (v:Value) (W:World):(Go.method (Tryz.prog.types.size+Made.depth) 183 v "Pair").run Tryz.prog W = .ok (121,v) W:=by kernel_rfl
theorem meth1 (v:Value) (W:World):(Go.method (Tryz.prog.types.size+Made.depth) 183 v "Fact").run Tryz.prog W = .ok (337,v) W:=by kernel_rfl
theorem methOk : ∀ (t:TypeId) (m:String) (f:FuncId),meths t m=some f -> f≠yF /\ ∀ (v:Value) (W:World),(Go.method (Tryz.prog.types.size+Made.depth) t v m).run Tryz.prog W = .ok (f,v) W:=by
 intro t m f h
 unfold meths at h
 split at h
 ·rename_i hc;obtain⟨rfl,rfl⟩:=hc;cases h;exact⟨by decide,meth0⟩
 split at h
 ·rename_i hc;obtain⟨rfl,rfl⟩:=hc;cases h;exact⟨by decide,meth1⟩
 cases h
theorem vokx {e:FuncId -> List D -> Heap -> Option (D×Heap)} {p:FuncId -> List D -> Option D} {T:Kn -> World -> Prop} (up : ∀ {K:Kn} {μ:Mu} {H:Heap} {W:World} {K':Kn} {μ':Mu} {H':Heap} {W':World},T K W -> HR K μ H W -> Nx K μ H W K' μ' H' W' -> T K' W')
  (ext : ∀ (f:FuncId) (args:List D) (H:Heap) (d:D) (H':Heap),e f args H=some (d,H') -> H.length <= H'.length /\ Known Tryz.prog f /\ ∀ (K:Kn) (μ:Mu) (W:World) (vs:List Value),T K W -> HR K μ H W -> VRs K μ H args vs -> Calls Tryz.prog f vs.toArray W (Gives K μ H W d H'))
  (pext : ∀ (f:FuncId) (ds:List D) (d:D) (vf:VFunc),(Vx e p).fn f=some vf -> p f ds=some d -> ∀ (K:Kn) (W:World) (vs:List Value),T K W -> HR K mu0 [] W -> VRs K mu0 [] ds vs -> Calls Tryz.prog f vs.toArray W (Settles vf.own K W d))
  (globE : ∀ (g w:Nat) (rows:List (List D)),globs g=some (w,rows) -> ∀ (K:Kn) (W:World),T K W -> GlobK K g w rows) :
  VOK Tryz.prog (Vx e p) T :=
 ⟨up,fun f vf h=>allGood e p (f,vf) (fnOf_mem fns f vf h),noY,fun j r h=>⟨rfl,rndGood e p (j,r) (rndOf_mem rnds j r h)⟩,methOk,ext,globE,pext⟩
end Go.Proofs.YtgefdialaemelaaGreatDoor.Dv
