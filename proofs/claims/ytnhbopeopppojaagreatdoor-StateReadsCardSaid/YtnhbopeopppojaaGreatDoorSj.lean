/-
  StateWrong over the machine.
-/
import Derived.Test.YtnhbopeopppojaaGreatDoorSi
namespace Go.Proofs.YtnhbopeopppojaaGreatDoor.Dv
open Go.Dm Go.Proofs

theorem fz_st {H H1 : Heap} {s : Stm} {x : D} (h : ∀ m, Dm.freeze (m + 1) H x = some (lsD s.ls, H1)) : freezeL deep H [stD s x] = some ([stD s (lsD s.ls)], H1) := by
  simp only [go_sem, Nat.reduceAdd, stD, h]
theorem c14f {H H1 : Heap} {s : Stm} {x : D} (h : ∀ m, Dm.freeze (m + 1) H x = some (lsD s.ls, H1)) (hr : Rng s) {K : CR → Prop} : CallQ VS 16 [stD s x] H K ↔ K (.ret (.tu [.s (if RightS s then textT s else []), .i .i64 (if RightS s then 0 else 2)]) H1) :=
  CallQ_p (vf := v16) (H1 := H1) rfl rfl (text14 (isStm_of s) hr) (fz_st h)
theorem c15f {H H1 : Heap} {s : Stm} {x : D} (h : ∀ m, Dm.freeze (m + 1) H x = some (lsD s.ls, H1)) (hr : Rng s) {K : CR → Prop} : CallQ VS 36 [stD s x] H K ↔ K (.ret (.b (decide (RightS s))) H1) :=
  CallQ_p (vf := v36) (H1 := H1) rfl rfl (right15 (isStm_of s) hr) (fz_st h)
theorem fz_b0 {l : List Ln} : ∀ m, Dm.freeze (m + 1) (bH [] 4 (l.map lnR)) (bD [] .nil (l.map lnR)) = some (lsD l, bHl [] 4 (l.map lnR)) := fun m => by
  cases l with
  | nil => rfl
  | cons x l => simp [bD, bH, lsD, imD, bHl, fz_mu, arr, fzM, List.take_of_length_le]
theorem fz_b1 {l : List Ln} : ∀ m, Dm.freeze (m + 1) (bHl [] 4 (l.map lnR)) (bD [] .nil (l.map lnR)) = some (lsD l, bHl [] 4 (l.map lnR)) := fun m => by
  cases l with
  | nil => rfl
  | cons x l => simp [bD, lsD, imD, bHl, fz_mu, arr, fzM, List.take_of_length_le]
/-- Text and Right of a statement that is not right. -/
theorem bad_end {s' : Stm} (hr : Rng s') (hn : ¬ RightS s') : (∀ {K : CR → Prop}, CallQ VS 16 [stD s' (bD [] .nil (s'.ls.map lnR))] (bH [] 4 (s'.ls.map lnR)) K ↔ K (.ret (.tu [.s [], .i .i64 2]) (bHl [] 4 (s'.ls.map lnR)))) ∧
    ∀ {K : CR → Prop}, CallQ VS 36 [stD s' (bD [] .nil (s'.ls.map lnR))] (bHl [] 4 (s'.ls.map lnR)) K ↔ K (.ret (.b false) (bHl [] 4 (s'.ls.map lnR))) := by
  refine ⟨fun {K} => ?_, fun {K} => ?_⟩
  · rw [c14f fz_b0 hr, if_neg hn, if_neg hn]
  · rw [c15f fz_b1 hr, decide_eq_false hn]

theorem RightS.mon {s : Stm} (r : RightS s) : ∀ k, k < s.ls.length → s.ls[k]!.m = s.ls[0]!.m + k
  | 0, _ => by simp
  | k + 1, h => by
    have ih := r.mon k (by omega)
    have := (r.lns.h (k + 1) h).m2 (by omega)
    simp only [Nat.add_sub_cancel] at this
    rw [this, ih]
    omega
theorem RightS.mb {s : Stm} (r : RightS s) {k : Nat} (h : k < s.ls.length) : 0 ≤ s.ls[k]!.m ∧ s.ls[k]!.m ≤ 2159 := by
  have h1 := (r.lns.h k h).m0
  have h2 := (r.lns.h k h).m1
  have hy := r.y
  rw [yOf, Int.tdiv_eq_ediv_of_nonneg h1] at h2
  simp only [isY, Bool.and_eq_true, decide_eq_true_eq] at hy
  omega
theorem rng_set {l : List Ln} {k : Nat} {x : Ln} {P : Ln → Prop} (h : ∀ y ∈ l, P y) (hx : P x) : ∀ y ∈ l.set k x, P y := fun y hy => by
  rcases List.mem_or_eq_of_mem_set hy with h' | h'
  · exact h y h'
  · exact h' ▸ hx
theorem set_ln {l : List Ln} {k : Nat} {x : Ln} : (l.map lnR).set k [.i .i64 x.m, .i .i64 x.d, .i .i64 x.p, .i .i64 x.o] = (l.set k x).map lnR := by rw [List.map_set]; rfl
theorem get_set {l : List Ln} {k : Nat} {x : Ln} (h : k < l.length) : (l.set k x)[k]! = x := by
  rw [getElem!_pos _ _ (by rw [List.length_set]; exact h), List.getElem_set_self]

end Go.Proofs.YtnhbopeopppojaaGreatDoor.Dv
