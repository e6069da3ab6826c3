/-
  StateWrites over the machine.
-/
import Derived.Test.YtnhbopeopppojaaDoorSj
import Derived.Test.YtnhbopeopppojaaDoorSq
namespace Go.Proofs.YtnhbopeopppojaaDoor.Dv
open Go.Dm Go.Proofs

theorem c17f {H H1 : Heap} {s : Stm} {x d : D} (h : ∀ m, Dm.freeze (m + 1) H x = some (lsD s.ls, H1)) (hd : IsStm s d) (hl : s.ls.length ≤ 1000000) {K : CR → Prop} : CallQ VS 17 [stD s x, d] H K ↔ K (.ret (.b true) H1) := by
  have hs : IsStm s (stD s (lsD s.ls)) := isStm_of s
  have e := same17 hs hd hl
  rw [decide_eq_true rfl] at e
  refine CallQ_p (vf := v17) (H1 := H1) rfl rfl e ?_
  obtain ⟨⟨y, rfl, hy⟩⟩ := hd
  have fy : ∀ m H, Dm.freeze (m + 1) H y = some (y, H) := fun m H => flat_freeze hy.flat m H
  simp only [go_sem, Nat.reduceAdd, stD, h, fy]
set_option maxRecDepth 100000 in
theorem writes13 {s : Stm} {d : D} (h : IsStm s d) (hr : Rng s) (hl : s.ls.length ≤ 100) : PRet VS 13 [d] (.b true) := by
  obtain ⟨⟨x, rfl, hx⟩⟩ := h
  have h : IsStm s (stD s x) := ⟨⟨x, rfl, hx⟩⟩
  refine .body (vf := v13) rfl rfl ?_
  have e19 := fun {H K} => c19 h (by omega) (H := H) (K := K)
  have e18 := fun {H K} => c18 (isStm_of s) (by omega) (H := H) (K := K)
  have hc1 : (lsD s.ls).cellsN 1 = some [lsD s.ls] := (lsD_sl s.ls).c1
  have e14 := fun {K} => c14f (s := s) fz_b0 hr (K := K)
  have e15 := fun {K} => c15f (s := s) fz_b1 hr (K := K)
  have e32 := fun {H K} => c32 (isStm_of s) hr (by omega) (H := H) (K := K)
  have e33 := fun {H K} => c33 (isStm_of s) hr (by omega) (H := H) (K := K)
  have e17 := fun {K} => c17f (s := s) fz_b1 h (by omega) (K := K)
  simp only [stD] at e14 e15 e17 e18 e19 e32 e33
  simp (disch := omega) only [go_sem, Nat.reduceAdd, Nat.reduceSub, v13, stD, e19, e18, e14, e15, e32, e33, e17]
  exact ⟨fun _ => trivial, fun h => by cases h⟩
theorem law4 {s : Stm} {d : D} (h : IsStm s d) (hr : Rng s) : PRet VS 4 [d] (.b true) := by
  obtain ⟨⟨x, rfl, hx⟩⟩ := h
  have h : IsStm s (stD s x) := ⟨⟨x, rfl, hx⟩⟩
  refine .body (vf := v4) rfl rfl ?_
  by_cases hl : s.ls.length ≤ 100
  · have e13 := fun {H K} => (writes13 h hr hl).c (vf := v13) rfl rfl (by simp [h.plain]) (.inl rfl) (H := H) (K := K)
    simp only [stD] at e13
    simp only [go_sem, Nat.reduceAdd, Nat.reduceSub, Nat.reduceLeDiff, v4, stD, c12, hx.n, e13]
    exact ⟨fun _ => trivial, fun _ => trivial⟩
  · have hl' : decide ((s.ls.length : Int) > 100) = true := decide_eq_true (by omega)
    simp only [go_sem, Nat.reduceAdd, Nat.reduceSub, Nat.reduceLeDiff, v4, stD, c12, hx.n, hl']
end Go.Proofs.YtnhbopeopppojaaDoor.Dv
