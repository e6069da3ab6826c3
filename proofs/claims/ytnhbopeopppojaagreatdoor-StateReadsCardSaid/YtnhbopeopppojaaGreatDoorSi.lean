/-
  Layer 39's laws over the machine: statements copied; StateWrong.
-/
import Derived.Test.YtnhbopeopppojaaGreatDoorSh
namespace Go.Proofs.YtnhbopeopppojaaGreatDoor.Dv
open Go.Dm Go.Proofs

/-- The first i lines. -/
def lTo (l : List Ln) (i : Nat) : List Ln := l.take i
theorem lTo_succ {l : List Ln} {i : Nat} (h : i < l.length) : lTo l (i + 1) = lTo l i ++ [l[i]!] := by
  unfold lTo
  rw [List.take_succ_eq_append_getElem h, getElem!_pos l i h]
theorem lTo_len {l : List Ln} {i : Nat} (h : i ≤ l.length) : (lTo l i).length = i := by simp [lTo]; omega
theorem lTo_all {l : List Ln} : lTo l l.length = l := List.take_length
theorem snoc_ln {l : List Ln} {x : Ln} : l.map lnR ++ [[.i .i64 x.m, .i .i64 x.d, .i .i64 x.p, .i .i64 x.o]] = (l ++ [x]).map lnR := by simp [lnR]
/-- The body of a copy. -/
def cpL : VCode := v13l0
theorem copy_q {s : Stm} {x : D} (h : Sl 4 (s.ls.map lnR) x) (hl : s.ls.length ≤ 1000) {K : CR → Prop} (hk : K (.ret (stD s (bD [] .nil (s.ls.map lnR))) (bH [] 4 (s.ls.map lnR)))) :
    Run VS v13.body ⟨[stD s x, .u, .u, .u, .u, .u], []⟩ (ResQ v13.res K) := by
  simp only [go_sem, Nat.reduceAdd, Nat.reduceLeDiff, v13, stD]
  refine Run.up (fun i st => ∃ a2 Z, st = ⟨[stD s x, Z, a2, .bx [.i .i64 s.y, .i .i64 s.b, .i .i64 s.a, x, .i .i64 s.g, .i .i64 s.t, .i .i64 s.n, .i .i64 s.i], .i .i64 i, .bx [.i .i64 s.y, .i .i64 s.b, .i .i64 s.a, bD [] .nil ((lTo s.ls i).map lnR), .i .i64 s.g, .i .i64 s.t, .i .i64 s.n, .i .i64 s.i]], bH [] 4 ((lTo s.ls i).map lnR)⟩ ∧ Z = .bx [.i .i64 0, .i .i64 0, .i .i64 0, .nil, .i .i64 0, .i .i64 0, .i .i64 0, .i .i64 0]) s.ls.length ⟨.u, _, rfl, rfl⟩ ?_
  rintro i st hi ⟨a2, Z, rfl, hZ⟩
  have hll := lTo_len hi
  by_cases hlt : i < s.ls.length
  · have hlt' : decide ((i : Int) < (s.ls.length : Int)) = true := by simpa using hlt
    simp (disch := omega) only [go_sem, Nat.reduceAdd, Nat.reduceLeDiff, Nat.reduceLT, v13l0, h.q, h.n, h.under, lnR, wr, hlt', app_n, snoc_ln, lTo_succ hlt]
    exact ⟨⟨by omega, by omega⟩, ⟨by omega, by omega⟩, ⟨by omega, by omega⟩, ⟨by omega, by omega⟩, hlt, hZ⟩
  · have hlt' : decide ((i : Int) < (s.ls.length : Int)) = false := by simpa using hlt
    have : i = s.ls.length := by omega
    subst this
    rw [lTo_all]
    subst hZ
    simp (disch := omega) only [go_sem, Nat.reduceAdd, Nat.reduceLeDiff, v13l0, h.n, hlt']
    exact hk
def owD (rows : List (List D)) : D := match rows with
  | [] => .nil
  | r :: rs => .ow 4 (r :: rs)
theorem settle_st {s : Stm} {rows : List (List D)} : settleO true (bH [] 4 rows) (stD s (bD [] .nil rows)) = some (stD s (owD rows)) := by
  cases rows with
  | nil => rfl
  | cons r rs => simp [settleO, stD, bD, bH, mus, mus1, muOf, apart, Dm.settle, settle1, mapO, settleC, arr, owD, List.take_of_length_le]
theorem place_st {s : Stm} {rows : List (List D)} {H : Heap} : placeO true (stD s (owD rows)) H = (stD s (bD H .nil rows), bH H 4 rows) := by
  cases rows with
  | nil => rfl
  | cons r rs => rfl
theorem c18 {s : Stm} {d : D} (h : IsStm s d) (hl : s.ls.length ≤ 1000) {H : Heap} {K : CR → Prop} : CallQ VS 13 [d] H K ↔ K (.ret (stD s (bD H .nil (s.ls.map lnR))) (bH H 4 (s.ls.map lnR))) := by
  have hpl := h.plain
  obtain ⟨⟨x, rfl, h⟩⟩ := h
  have hp : PRet VS 13 [stD s x] (stD s (owD (s.ls.map lnR))) := by
    refine .body (vf := v13) rfl rfl (copy_q h hl ?_)
    exact ⟨_, settle_st, rfl⟩
  have he := @place_st s (s.ls.map lnR) H
  rw [CallQ_p (vf := v13) (H1 := H) rfl rfl hp (plain_freezeL (fun d hd => by rw [List.mem_singleton.1 hd]; exact hpl))]
  have : v13.own = true := rfl
  rw [this, he]
theorem c19 {s : Stm} {d : D} (h : IsStm s d) (hl : s.ls.length ≤ 1000) {H : Heap} {K : CR → Prop} : CallQ VS 41 [d] H K ↔ K (.ret (stD s (lsD s.ls)) H) := by
  have hpl := h.plain
  obtain ⟨⟨x, rfl, h⟩⟩ := h
  have hp : PRet VS 41 [stD s x] (stD s (lsD s.ls)) := by
    refine .body (vf := v41) rfl rfl (copy_q h hl ?_)
    have hz : ∀ m, Dm.freeze (m + 1) (bH [] 4 (s.ls.map lnR)) (bD [] .nil (s.ls.map lnR)) = some (lsD s.ls, bHl [] 4 (s.ls.map lnR)) := fun m => by
      cases s.ls with
      | nil => rfl
      | cons x l => simp [bD, bH, lsD, imD, bHl, fz_mu, arr, fzM, List.take_of_length_le]
    refine ⟨_, ?_, rfl⟩
    simp only [go_sem, Nat.reduceAdd, v41, stD, hz]
  rw [CallQ_p (vf := v41) (H1 := H) rfl rfl hp (plain_freezeL (fun d hd => by rw [List.mem_singleton.1 hd]; exact hpl))]
  exact Iff.rfl

/-! ### One of several; another year -/
def pickN (x n : Int) : Int := if n < 1 then 0 else x % n
def elseY (y n : Int) : Int := if 1900 + pickN n 180 = y then 2080 else 1900 + pickN n 180
theorem pickN_b {x n : Int} (hn : 1 ≤ n) : 0 ≤ pickN x n ∧ pickN x n < n := by
  unfold pickN
  rw [if_neg (by omega)]
  exact ⟨Int.emod_nonneg x (by omega), Int.emod_lt_of_pos x (by omega)⟩
end Go.Proofs.YtnhbopeopppojaaGreatDoor.Dv
