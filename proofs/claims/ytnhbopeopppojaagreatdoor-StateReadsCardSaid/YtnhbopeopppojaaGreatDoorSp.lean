/-
  The reference's Right over the machine.
-/
import Derived.Test.YtnhbopeopppojaaGreatDoorSh
namespace Go.Proofs.YtnhbopeopppojaaGreatDoor.Dv
open Go.Dm Go.Proofs

theorem near72 (n : Int) : PRet VS 54 [.i .i64 n] (.b (nr n)) := by
  refine .body (vf := v54) rfl rfl ?_
  simp only [go_sem, Nat.reduceSub, Int.reduceNeg, v54, nr]
  grind
@[go_sem] theorem c72 {n : Int} {H : Heap} {K : CR → Prop} : CallQ VS 54 [.i .i64 n] H K ↔ K (.ret (.b (nr n)) H) :=
  (near72 n).c (vf := v54) rfl rfl rfl (.inl rfl)
def isOf (m y : Int) : Bool := decide (12 * (y - 1900) ≤ m) && decide (m ≤ 12 * (y - 1900) + 11)
theorem of69 {m y : Int} (hy : 1900 ≤ y ∧ y ≤ 2079) : PRet VS 55 [.i .i64 m, .i .i64 y] (.b (isOf m y)) := by
  refine .body (vf := v55) rfl rfl ?_
  simp (disch := omega) only [go_sem, Nat.reduceSub, v55, isOf, wr]
  grind
theorem c69 {m y : Int} (hy : 1900 ≤ y ∧ y ≤ 2079) {H : Heap} {K : CR → Prop} : CallQ VS 55 [.i .i64 m, .i .i64 y] H K ↔ K (.ret (.b (isOf m y)) H) :=
  (of69 hy).c (vf := v55) rfl rfl rfl (.inl rfl)
theorem isOf_iff {m y : Int} (hy : 1900 ≤ y ∧ y ≤ 2079) : isOf m y = true ↔ 0 ≤ m ∧ yOf m = y := by
  simp only [isOf, Bool.and_eq_true, decide_eq_true_eq, yOf]
  constructor
  · intro h
    rw [Int.tdiv_eq_ediv_of_nonneg (by omega)]
    omega
  · intro ⟨h1, h2⟩
    rw [Int.tdiv_eq_ediv_of_nonneg h1] at h2
    omega
/-- Lines of one year, month behind month: at most twelve. -/
theorem lns_12 {y : Int} (hy : 1900 ≤ y ∧ y ≤ 2079) {l : List Ln} (h : lnsTo y l l.length) : l.length ≤ 12 := by
  have hm : ∀ k, k < l.length → l[k]!.m = l[0]!.m + k := fun k => by
    induction k with
    | zero => intro _; simp
    | succ k ih =>
      intro hk
      have := (h.h (k + 1) hk).m2 (by omega)
      simp only [Nat.add_sub_cancel] at this
      rw [this, ih (by omega)]; omega
  by_cases hl : 12 < l.length
  · have h12 := h.h 12 hl
    have h0 := h.h 0 (by omega)
    have := hm 12 hl
    have a := (isOf_iff hy).2 ⟨h12.m0, h12.m1⟩
    have b := (isOf_iff hy).2 ⟨h0.m0, h0.m1⟩
    simp only [isOf, Bool.and_eq_true, decide_eq_true_eq] at a b
    omega
  · omega
theorem so_bl {l : List Ln} : ∀ i : Nat, (∀ k, k < i → -9007199254740992 ≤ l[k]!.o ∧ l[k]!.o ≤ 9007199254740992) → -(9007199254740992 * (i : Int)) ≤ so l i ∧ so l i ≤ 9007199254740992 * (i : Int)
  | 0, _ => by simp [so]
  | i + 1, h => by
    have ih := so_bl i fun k hk => h k (by omega)
    have := h i (by omega)
    simp only [so]
    omega
set_option maxRecDepth 100000 in
theorem right33 {s : Stm} {d : D} (h : IsStm s d) (hr : Rng s) (hl : s.ls.length ≤ 1000) : PRet VS 23 [d] (.b (decide (RightS s))) := by
  obtain ⟨⟨x, rfl, h⟩⟩ := h
  refine .body (vf := v23) rfl rfl ?_
  by_cases hh : isY s.y = true ∧ (nr s.b && nr s.a && nr s.g && nr s.t && nr s.n && nr s.i) = true
  case neg =>
    have hno : decide (RightS s) = false := decide_eq_false fun r => hh ⟨r.y, r.sums⟩
    rw [hno]
    simp only [isY, Bool.and_eq_true, decide_eq_true_eq] at hh
    simp only [go_sem, Nat.reduceAdd, Nat.reduceSub, Nat.reduceLeDiff, v23, stD]
    grind
  obtain ⟨hy, hs⟩ := hh
  have hs2 := hs
  have hy2 := hy
  simp only [isY, Bool.and_eq_true, decide_eq_true_eq] at hy2
  simp only [Bool.and_eq_true] at hs2
  obtain ⟨⟨⟨⟨⟨sb, sa⟩, sg⟩, st⟩, sn⟩, si⟩ := hs2
  have y1 : decide (s.y < 1900) = false := decide_eq_false (by omega)
  have y2 : decide (s.y > 2079) = false := decide_eq_false (by omega)
  simp only [go_sem, Nat.reduceAdd, Nat.reduceSub, Nat.reduceLeDiff, v23, stD, sb, sa, sg, st, sn, si, y1, y2]
  simp only [nr_i] at sb sa sg st sn si
  refine Run.up (fun i st => lnsTo s.y s.ls i ∧ ∃ a2 a3 a4 a8, st = ⟨[stD s x, .b false, a2, a3, a4, .bx [.i .i64 s.y, .i .i64 s.b, .i .i64 s.a, x, .i .i64 s.g, .i .i64 s.t, .i .i64 s.n, .i .i64 s.i], .i .i64 (s.b + so s.ls i), .i .i64 i, a8], []⟩) s.ls.length ⟨⟨fun k hk => by omega⟩, .b false, .u, .u, .u, ?_⟩ ?_
  · simp only [so, Int.add_zero]; rfl
  rintro i st hi ⟨hv, a2, a3, a4, a8, rfl⟩
  have hsum := so_bl i fun k hk => nr_i.1 (hv.h k hk).o
  by_cases hlt : i < s.ls.length
  · have hlt' : decide ((i : Int) < (s.ls.length : Int)) = true := by simpa using hlt
    have hm := hr.ls s.ls[i]! (by rw [getElem!_pos s.ls i hlt]; exact List.getElem_mem _)
    have hof := @isOf_iff s.ls[i]!.m s.y hy2
    have nope : ¬ LnOk s.y s.ls i → false = decide (RightS s) := fun hno => (decide_eq_false fun r => hno (r.lns.h i hlt)).symm
    have e0 : LnOk s.y s.ls i → 0 ≤ s.ls[i]!.d ∧ s.ls[i]!.d ≤ 1099511627776 := LnOk.d
    have e1 : LnOk s.y s.ls i → isOf s.ls[i]!.m s.y = true := fun r => hof.2 ⟨r.m0, r.m1⟩
    have e2 : LnOk s.y s.ls i → nr s.ls[i]!.p = true ∧ nr s.ls[i]!.o = true := fun r => ⟨r.p, r.o⟩
    have e3 : LnOk s.y s.ls i → s.ls[i]!.p + s.ls[i]!.o = s.ls[i]!.d := fun r => by have := r.e; omega
    have e4 : LnOk s.y s.ls i → 0 < i → s.ls[i - 1]!.m + 1 = s.ls[i]!.m := fun r h => (r.m2 h).symm
    have mk : isOf s.ls[i]!.m s.y = true → (0 < i → s.ls[i - 1]!.m + 1 = s.ls[i]!.m) → 0 ≤ s.ls[i]!.d → s.ls[i]!.d ≤ 1099511627776 → nr s.ls[i]!.p = true → nr s.ls[i]!.o = true → s.ls[i]!.p + s.ls[i]!.o = s.ls[i]!.d → LnOk s.y s.ls i := fun a b c d e f g => ⟨(hof.1 a).1, (hof.1 a).2, fun h => (b h).symm, ⟨c, d⟩, e, f, by omega⟩
    have hw : nr s.ls[i]!.p = true → nr s.ls[i]!.o = true → IntKind.i64.wrap (s.ls[i]!.p + s.ls[i]!.o) = s.ls[i]!.p + s.ls[i]!.o := fun a b => by
      rw [nr_i] at a b
      exact wr (by omega) (by omega)
    have hw2 : nr s.ls[i]!.o = true → IntKind.i64.wrap (s.b + so s.ls i + s.ls[i]!.o) = s.b + so s.ls (i + 1) := fun a => by
      rw [nr_i] at a
      rw [so, wr (by omega) (by omega)]
      omega
    rcases Nat.eq_zero_or_pos i with rfl | hpos
    · simp (disch := omega) only [go_sem, Nat.reduceAdd, Nat.reduceLeDiff, Int.reduceLE, Int.reduceLT, v23l0, h.q, h.n, stD, lnR, c69 (m := s.ls[0]!.m) hy2, wr, lt_succ, hv]
      repeat' first | (refine And.intro ?_ ?_) | intro _
      all_goals first | omega | grind
    · have hpos' : decide ((i : Int) > 0) = true := by simpa using hpos
      have hprev : -10 ≤ s.ls[i - 1]!.m ∧ s.ls[i - 1]!.m ≤ 3000 := by
        have r := hv.h (i - 1) (by omega)
        have h1 := r.m0
        have h2 := r.m1
        rw [yOf, Int.tdiv_eq_ediv_of_nonneg h1] at h2
        omega
      simp (disch := omega) only [go_sem, Nat.reduceAdd, Nat.reduceLeDiff, v23l0, h.q, h.n, h.under, stD, lnR, hlt', c69 (m := s.ls[i]!.m) hy2, wr, lt_succ, hv, hpos']
      repeat' first | (refine And.intro ?_ ?_) | intro _
      all_goals first | omega | grind
  · have : i = s.ls.length := by omega
    subst this
    have hlt' : decide ((s.ls.length : Int) < (s.ls.length : Int)) = false := by simp
    simp (disch := omega) only [go_sem, Nat.reduceAdd, Nat.reduceLeDiff, v23l0, stD, h.n, hlt', wr]
    have h12 := lns_12 hy2 hv
    refine ⟨fun ha => ?_, fun ha => (decide_eq_false fun r => ha r.aft.symm).symm⟩
    rw [decide_eq_decide]
    exact ⟨fun hg => ⟨hy, h12, hs, by omega, hv, ha.symm⟩, fun r => by have := r.net; omega⟩
theorem c33 {s : Stm} {d : D} (h : IsStm s d) (hr : Rng s) (hl : s.ls.length ≤ 1000) {H : Heap} {K : CR → Prop} : CallQ VS 23 [d] H K ↔ K (.ret (.b (decide (RightS s))) H) :=
  (right33 h hr hl).c (vf := v23) rfl rfl (by simp [h.plain]) (.inl rfl)
end Go.Proofs.YtnhbopeopppojaaGreatDoor.Dv
