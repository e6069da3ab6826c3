/-
  The reference's Right, Month and Text; statements written.
-/
import Derived.Test.YtnhbopeopppojaaGreatDoorSc
import Derived.Test.YtnhbopeopppojaaGreatDoorSe
import Derived.Test.YtnhbopeopppojaaGreatDoorSd
namespace Go.Proofs.YtnhbopeopppojaaGreatDoor.Dv
open Go.Dm Go.Proofs
theorem near72 (n : Int) : PRet VS 54 [.i .i64 n] (.b (nr n)) := by
  refine .body (vf := v54) rfl rfl ?_
  simp only [go_sem, Nat.reduceSub, Int.reduceNeg, v54, nr]
  grind
@[go_sem] theorem c72 {n : Int} {H : Heap} {K : CR → Prop} : CallQ VS 54 [.i .i64 n] H K ↔ K (.ret (.b (nr n)) H) :=
  (near72 n).c (vf := v54) rfl rfl rfl (.inl rfl)
def isOf (m y : Int) : Bool := decide (12 * (y - 1900) ≤ m) && decide (m ≤ 12 * (y - 1900) + 11)
theorem of69 {m y : Int} (hy : 1900 ≤ y ∧ y ≤ 2079) : PRet VS 55 [.i .i64 m, .i .i64 y] (.b (isOf m y)) := by
  refine .body (vf := v55) rfl rfl ?_
  simp (disch := omega) only [go_sem, Nat.reduceSub, v55, isOf, wr]
  grind
theorem c69 {m y : Int} (hy : 1900 ≤ y ∧ y ≤ 2079) {H : Heap} {K : CR → Prop} : CallQ VS 55 [.i .i64 m, .i .i64 y] H K ↔ K (.ret (.b (isOf m y)) H) :=
  (of69 hy).c (vf := v55) rfl rfl rfl (.inl rfl)
theorem isOf_iff {m y : Int} (hy : 1900 ≤ y ∧ y ≤ 2079) : isOf m y = true ↔ 0 ≤ m ∧ yOf m = y := by
  simp only [isOf, Bool.and_eq_true, decide_eq_true_eq, yOf]
  constructor
  · intro h
    rw [Int.tdiv_eq_ediv_of_nonneg (by omega)]
    omega
  · intro ⟨h1, h2⟩
    rw [Int.tdiv_eq_ediv_of_nonneg h1] at h2
    omega
theorem lns_12 {y : Int} (hy : 1900 ≤ y ∧ y ≤ 2079) {l : List Ln} (h : lnsTo y l l.length) : l.length ≤ 12 := by
  have hm : ∀ k, k < l.length → l[k]!.m = l[0]!.m + k := fun k => by
    induction k with
    | zero => intro _; simp
    | succ k ih =>
      intro hk
      have := (h.h (k + 1) hk).m2 (by omega)
      simp only [Nat.add_sub_cancel] at this
      rw [this, ih (by omega)]; omega
  by_cases hl : 12 < l.length
  · have h12 := h.h 12 hl
    have h0 := h.h 0 (by omega)
    have := hm 12 hl
    have a := (isOf_iff hy).2 ⟨h12.m0, h12.m1⟩
    have b := (isOf_iff hy).2 ⟨h0.m0, h0.m1⟩
    simp only [isOf, Bool.and_eq_true, decide_eq_true_eq] at a b
    omega
  · omega
theorem so_bl {l : List Ln} : ∀ i : Nat, (∀ k, k < i → -9007199254740992 ≤ l[k]!.o ∧ l[k]!.o ≤ 9007199254740992) → -(9007199254740992 * (i : Int)) ≤ so l i ∧ so l i ≤ 9007199254740992 * (i : Int)
  | 0, _ => by simp [so]
  | i + 1, h => by
    have ih := so_bl i fun k hk => h k (by omega)
    have := h i (by omega)
    simp only [so]
    omega
set_option maxRecDepth 100000 in
theorem right33 {s : Stm} {d : D} (h : IsStm s d) (hr : Rng s) (hl : s.ls.length ≤ 1000) : PRet VS 23 [d] (.b (decide (RightS s))) := by
  obtain ⟨⟨x, rfl, h⟩⟩ := h
  refine .body (vf := v23) rfl rfl ?_
  by_cases hh : isY s.y = true ∧ (nr s.b && nr s.a && nr s.g && nr s.t && nr s.n && nr s.i) = true
  case neg =>
    have hno : decide (RightS s) = false := decide_eq_false fun r => hh ⟨r.y, r.sums⟩
    rw [hno]
    simp only [isY, Bool.and_eq_true, decide_eq_true_eq] at hh
    simp only [go_sem, Nat.reduceAdd, Nat.reduceSub, Nat.reduceLeDiff, v23, stD]
    grind
  obtain ⟨hy, hs⟩ := hh
  have hs2 := hs
  have hy2 := hy
  simp only [isY, Bool.and_eq_true, decide_eq_true_eq] at hy2
  simp only [Bool.and_eq_true] at hs2
  obtain ⟨⟨⟨⟨⟨sb, sa⟩, sg⟩, st⟩, sn⟩, si⟩ := hs2
  have y1 : decide (s.y < 1900) = false := decide_eq_false (by omega)
  have y2 : decide (s.y > 2079) = false := decide_eq_false (by omega)
  simp only [go_sem, Nat.reduceAdd, Nat.reduceSub, Nat.reduceLeDiff, v23, stD, sb, sa, sg, st, sn, si, y1, y2]
  simp only [nr_i] at sb sa sg st sn si
  refine Run.up (fun i st => lnsTo s.y s.ls i ∧ ∃ a2 a3 a4 a8, st = ⟨[stD s x, .b false, a2, a3, a4, .bx [.i .i64 s.y, .i .i64 s.b, .i .i64 s.a, x, .i .i64 s.g, .i .i64 s.t, .i .i64 s.n, .i .i64 s.i], .i .i64 (s.b + so s.ls i), .i .i64 i, a8], []⟩) s.ls.length ⟨⟨fun k hk => by omega⟩, .b false, .u, .u, .u, ?_⟩ ?_
  · simp only [so, Int.add_zero]; rfl
  rintro i st hi ⟨hv, a2, a3, a4, a8, rfl⟩
  have hsum := so_bl i fun k hk => nr_i.1 (hv.h k hk).o
  by_cases hlt : i < s.ls.length
  · have hlt' : decide ((i : Int) < (s.ls.length : Int)) = true := by simpa using hlt
    have hm := hr.ls s.ls[i]! (by rw [getElem!_pos s.ls i hlt]; exact List.getElem_mem _)
    have hof := @isOf_iff s.ls[i]!.m s.y hy2
    have nope : ¬ LnOk s.y s.ls i → false = decide (RightS s) := fun hno => (decide_eq_false fun r => hno (r.lns.h i hlt)).symm
    have e0 : LnOk s.y s.ls i → 0 ≤ s.ls[i]!.d ∧ s.ls[i]!.d ≤ 1099511627776 := LnOk.d
    have e1 : LnOk s.y s.ls i → isOf s.ls[i]!.m s.y = true := fun r => hof.2 ⟨r.m0, r.m1⟩
    have e2 : LnOk s.y s.ls i → nr s.ls[i]!.p = true ∧ nr s.ls[i]!.o = true := fun r => ⟨r.p, r.o⟩
    have e3 : LnOk s.y s.ls i → s.ls[i]!.p + s.ls[i]!.o = s.ls[i]!.d := fun r => by have := r.e; omega
    have e4 : LnOk s.y s.ls i → 0 < i → s.ls[i - 1]!.m + 1 = s.ls[i]!.m := fun r h => (r.m2 h).symm
    have mk : isOf s.ls[i]!.m s.y = true → (0 < i → s.ls[i - 1]!.m + 1 = s.ls[i]!.m) → 0 ≤ s.ls[i]!.d → s.ls[i]!.d ≤ 1099511627776 → nr s.ls[i]!.p = true → nr s.ls[i]!.o = true → s.ls[i]!.p + s.ls[i]!.o = s.ls[i]!.d → LnOk s.y s.ls i := fun a b c d e f g => ⟨(hof.1 a).1, (hof.1 a).2, fun h => (b h).symm, ⟨c, d⟩, e, f, by omega⟩
    have hw : nr s.ls[i]!.p = true → nr s.ls[i]!.o = true → IntKind.i64.wrap (s.ls[i]!.p + s.ls[i]!.o) = s.ls[i]!.p + s.ls[i]!.o := fun a b => by
      rw [nr_i] at a b
      exact wr (by omega) (by omega)
    have hw2 : nr s.ls[i]!.o = true → IntKind.i64.wrap (s.b + so s.ls i + s.ls[i]!.o) = s.b + so s.ls (i + 1) := fun a => by
      rw [nr_i] at a
      rw [so, wr (by omega) (by omega)]
      omega
    rcases Nat.eq_zero_or_pos i with rfl | hpos
    · simp (disch := omega) only [go_sem, Nat.reduceAdd, Nat.reduceLeDiff, Int.reduceLE, Int.reduceLT, v23l0, h.q, h.n, stD, lnR, c69 (m := s.ls[0]!.m) hy2, wr, lt_succ, hv]
      repeat' first | (refine And.intro ?_ ?_) | intro _
      all_goals first | omega | grind
    · have hpos' : decide ((i : Int) > 0) = true := by simpa using hpos
      have hprev : -10 ≤ s.ls[i - 1]!.m ∧ s.ls[i - 1]!.m ≤ 3000 := by
        have r := hv.h (i - 1) (by omega)
        have h1 := r.m0
        have h2 := r.m1
        rw [yOf, Int.tdiv_eq_ediv_of_nonneg h1] at h2
        omega
      simp (disch := omega) only [go_sem, Nat.reduceAdd, Nat.reduceLeDiff, v23l0, h.q, h.n, h.under, stD, lnR, hlt', c69 (m := s.ls[i]!.m) hy2, wr, lt_succ, hv, hpos']
      repeat' first | (refine And.intro ?_ ?_) | intro _
      all_goals first | omega | grind
  · have : i = s.ls.length := by omega
    subst this
    have hlt' : decide ((s.ls.length : Int) < (s.ls.length : Int)) = false := by simp
    simp (disch := omega) only [go_sem, Nat.reduceAdd, Nat.reduceLeDiff, v23l0, stD, h.n, hlt', wr]
    have h12 := lns_12 hy2 hv
    refine ⟨fun ha => ?_, fun ha => (decide_eq_false fun r => ha r.aft.symm).symm⟩
    rw [decide_eq_decide]
    exact ⟨fun hg => ⟨hy, h12, hs, by omega, hv, ha.symm⟩, fun r => by have := r.net; omega⟩
theorem c33 {s : Stm} {d : D} (h : IsStm s d) (hr : Rng s) (hl : s.ls.length ≤ 1000) {H : Heap} {K : CR → Prop} : CallQ VS 23 [d] H K ↔ K (.ret (.b (decide (RightS s))) H) :=
  (right33 h hr hl).c (vf := v23) rfl rfl (by simp [h.plain]) (.inl rfl)
open Go.Dm Go.Proofs
structure MonP (r day : Int) (t : List UInt8) : Prop where
  a : PRet VS 51 [.i .i64 r] (.tu [.i .i64 day, .i .i64 0])
  b : PRet VS 53 [.i .i64 day] (.s t)
  n : t.length = 10
  e : (t.take 7).drop 4 = [45] ++ pad2 (Lib.itoa (r + 1))
theorem fst0 : pcall VS 60 51 [.i .i64 0] = .ret (.tu [.i .i64 0, .i .i64 0]) := by kernel_rfl
theorem mtx0 : pcall VS 60 53 [.i .i64 0] = .ret (.s [49, 57, 48, 48, 45, 48, 49, 45, 48, 49]) := by kernel_rfl
theorem itm0 : Lib.itoa (0 + 1) = [49] := by simp [Lib.itoa, Lib.decDigits]
theorem fst1 : pcall VS 60 51 [.i .i64 1] = .ret (.tu [.i .i64 31, .i .i64 0]) := by kernel_rfl
theorem mtx1 : pcall VS 60 53 [.i .i64 31] = .ret (.s [49, 57, 48, 48, 45, 48, 50, 45, 48, 49]) := by kernel_rfl
theorem itm1 : Lib.itoa (1 + 1) = [50] := by simp [Lib.itoa, Lib.decDigits]
theorem fst2 : pcall VS 60 51 [.i .i64 2] = .ret (.tu [.i .i64 59, .i .i64 0]) := by kernel_rfl
theorem mtx2 : pcall VS 60 53 [.i .i64 59] = .ret (.s [49, 57, 48, 48, 45, 48, 51, 45, 48, 49]) := by kernel_rfl
theorem itm2 : Lib.itoa (2 + 1) = [51] := by simp [Lib.itoa, Lib.decDigits]
theorem fst3 : pcall VS 60 51 [.i .i64 3] = .ret (.tu [.i .i64 90, .i .i64 0]) := by kernel_rfl
theorem mtx3 : pcall VS 60 53 [.i .i64 90] = .ret (.s [49, 57, 48, 48, 45, 48, 52, 45, 48, 49]) := by kernel_rfl
theorem itm3 : Lib.itoa (3 + 1) = [52] := by simp [Lib.itoa, Lib.decDigits]
theorem fst4 : pcall VS 60 51 [.i .i64 4] = .ret (.tu [.i .i64 120, .i .i64 0]) := by kernel_rfl
theorem mtx4 : pcall VS 60 53 [.i .i64 120] = .ret (.s [49, 57, 48, 48, 45, 48, 53, 45, 48, 49]) := by kernel_rfl
theorem itm4 : Lib.itoa (4 + 1) = [53] := by simp [Lib.itoa, Lib.decDigits]
theorem fst5 : pcall VS 60 51 [.i .i64 5] = .ret (.tu [.i .i64 151, .i .i64 0]) := by kernel_rfl
theorem mtx5 : pcall VS 60 53 [.i .i64 151] = .ret (.s [49, 57, 48, 48, 45, 48, 54, 45, 48, 49]) := by kernel_rfl
theorem itm5 : Lib.itoa (5 + 1) = [54] := by simp [Lib.itoa, Lib.decDigits]
theorem fst6 : pcall VS 60 51 [.i .i64 6] = .ret (.tu [.i .i64 181, .i .i64 0]) := by kernel_rfl
theorem mtx6 : pcall VS 60 53 [.i .i64 181] = .ret (.s [49, 57, 48, 48, 45, 48, 55, 45, 48, 49]) := by kernel_rfl
theorem itm6 : Lib.itoa (6 + 1) = [55] := by simp [Lib.itoa, Lib.decDigits]
theorem fst7 : pcall VS 60 51 [.i .i64 7] = .ret (.tu [.i .i64 212, .i .i64 0]) := by kernel_rfl
theorem mtx7 : pcall VS 60 53 [.i .i64 212] = .ret (.s [49, 57, 48, 48, 45, 48, 56, 45, 48, 49]) := by kernel_rfl
theorem itm7 : Lib.itoa (7 + 1) = [56] := by simp [Lib.itoa, Lib.decDigits]
theorem fst8 : pcall VS 60 51 [.i .i64 8] = .ret (.tu [.i .i64 243, .i .i64 0]) := by kernel_rfl
theorem mtx8 : pcall VS 60 53 [.i .i64 243] = .ret (.s [49, 57, 48, 48, 45, 48, 57, 45, 48, 49]) := by kernel_rfl
theorem itm8 : Lib.itoa (8 + 1) = [57] := by simp [Lib.itoa, Lib.decDigits]
theorem fst9 : pcall VS 60 51 [.i .i64 9] = .ret (.tu [.i .i64 273, .i .i64 0]) := by kernel_rfl
theorem mtx9 : pcall VS 60 53 [.i .i64 273] = .ret (.s [49, 57, 48, 48, 45, 49, 48, 45, 48, 49]) := by kernel_rfl
theorem itm9 : Lib.itoa (9 + 1) = [49, 48] := by simp [Lib.itoa, Lib.decDigits]
theorem fst10 : pcall VS 60 51 [.i .i64 10] = .ret (.tu [.i .i64 304, .i .i64 0]) := by kernel_rfl
theorem mtx10 : pcall VS 60 53 [.i .i64 304] = .ret (.s [49, 57, 48, 48, 45, 49, 49, 45, 48, 49]) := by kernel_rfl
theorem itm10 : Lib.itoa (10 + 1) = [49, 49] := by simp [Lib.itoa, Lib.decDigits]
theorem fst11 : pcall VS 60 51 [.i .i64 11] = .ret (.tu [.i .i64 334, .i .i64 0]) := by kernel_rfl
theorem mtx11 : pcall VS 60 53 [.i .i64 334] = .ret (.s [49, 57, 48, 48, 45, 49, 50, 45, 48, 49]) := by kernel_rfl
theorem itm11 : Lib.itoa (11 + 1) = [49, 50] := by simp [Lib.itoa, Lib.decDigits]
theorem mon_p {r : Int} (h0 : 0 ≤ r) (h1 : r < 12) : ∃ day t, MonP r day t := by
  rcases (by omega : r = 0 ∨ r = 1 ∨ r = 2 ∨ r = 3 ∨ r = 4 ∨ r = 5 ∨ r = 6 ∨ r = 7 ∨ r = 8 ∨ r = 9 ∨ r = 10 ∨ r = 11) with rfl | rfl | rfl | rfl | rfl | rfl | rfl | rfl | rfl | rfl | rfl | rfl
  · exact ⟨_, _, ⟨60, fst0⟩, ⟨60, mtx0⟩, rfl, by rw [itm0]; rfl⟩
  · exact ⟨_, _, ⟨60, fst1⟩, ⟨60, mtx1⟩, rfl, by rw [itm1]; rfl⟩
  · exact ⟨_, _, ⟨60, fst2⟩, ⟨60, mtx2⟩, rfl, by rw [itm2]; rfl⟩
  · exact ⟨_, _, ⟨60, fst3⟩, ⟨60, mtx3⟩, rfl, by rw [itm3]; rfl⟩
  · exact ⟨_, _, ⟨60, fst4⟩, ⟨60, mtx4⟩, rfl, by rw [itm4]; rfl⟩
  · exact ⟨_, _, ⟨60, fst5⟩, ⟨60, mtx5⟩, rfl, by rw [itm5]; rfl⟩
  · exact ⟨_, _, ⟨60, fst6⟩, ⟨60, mtx6⟩, rfl, by rw [itm6]; rfl⟩
  · exact ⟨_, _, ⟨60, fst7⟩, ⟨60, mtx7⟩, rfl, by rw [itm7]; rfl⟩
  · exact ⟨_, _, ⟨60, fst8⟩, ⟨60, mtx8⟩, rfl, by rw [itm8]; rfl⟩
  · exact ⟨_, _, ⟨60, fst9⟩, ⟨60, mtx9⟩, rfl, by rw [itm9]; rfl⟩
  · exact ⟨_, _, ⟨60, fst10⟩, ⟨60, mtx10⟩, rfl, by rw [itm10]; rfl⟩
  · exact ⟨_, _, ⟨60, fst11⟩, ⟨60, mtx11⟩, rfl, by rw [itm11]; rfl⟩
theorem month84 {m : Int} (h : 0 ≤ m ∧ m ≤ 9223372036854775807) : PRet VS 22 [.i .i64 m] (.s (monT m)) := by
  refine .body (vf := v22) rfl rfl ?_
  have e : m.tmod 12 = m % 12 := Int.tmod_eq_emod_of_nonneg h.1
  have e2 : m.tdiv 12 = m / 12 := Int.tdiv_eq_ediv_of_nonneg h.1
  obtain ⟨day, t, p⟩ := mon_p (r := m % 12) (by omega) (by omega)
  have e97 := fun {H K} => p.a.c (vf := v51) rfl rfl rfl (.inl rfl) (H := H) (K := K)
  have e98 := fun {H K} => p.b.c (vf := v53) rfl rfl rfl (.inl rfl) (H := H) (K := K)
  have hy : i64r (1900 + m / 12) := ⟨by omega, by omega⟩
  have l1 := Lib.itoa_length_le _ hy.1 hy.2
  have hn := p.n
  simp (disch := omega) only [go_sem, Nat.reduceSub, Int.reduceLE, Int.reduceEq, Int.reduceToNat, v22, e, e2, wr, e97, e98, c83 hy, hn]
  rw [p.e]
  have e3 : monT m = Lib.itoa (1900 + m / 12) ++ ([45] ++ pad2 (Lib.itoa (m % 12 + 1))) := by rw [monT, yOf, e2, List.append_assoc]
  have l2 : ([45] ++ pad2 (Lib.itoa (m % 12 + 1))).length ≤ 1000 := by
    have := monT_len h
    rw [e3, List.length_append] at this
    omega
  exact ⟨by omega, e3.symm⟩
theorem c84 {m : Int} (h : 0 ≤ m ∧ m ≤ 9223372036854775807) {H : Heap} {K : CR → Prop} : CallQ VS 22 [.i .i64 m] H K ↔ K (.ret (.s (monT m)) H) :=
  (month84 h).c (vf := v22) rfl rfl rfl (.inl rfl)
theorem nr_it {n : Int} (h : nr n = true) : (Lib.itoa n).length ≤ 21 := by
  have := i64_nr h
  exact Lib.itoa_length_le n this.1 this.2
theorem write71 {s : Stm} {d : D} (h : IsStm s d) (r : RightS s) : PRet VS 24 [d] (.s (textT s)) := by
  obtain ⟨⟨x, rfl, h⟩⟩ := h
  refine .body (vf := v24) rfl rfl ?_
  have hs := r.sums
  simp only [Bool.and_eq_true] at hs
  obtain ⟨⟨⟨⟨⟨sb, sa⟩, sg⟩, st⟩, sn⟩, si⟩ := hs
  have sy : nr s.y = true := r.fine.y
  have lb := nr_it sb
  have la := nr_it sa
  have lg := nr_it sg
  have lt := nr_it st
  have ln := nr_it sn
  have li := nr_it si
  have ly := nr_it sy
  have ehd : headT s = [115, 116, 97, 116, 101, 109, 101, 110, 116, 32] ++ Lib.itoa s.y ++ [10, 98, 101, 102, 111, 114, 101, 32] ++ Lib.itoa s.b ++ [10] := by
    simp [headT, lineT, wdT, join2, kStatement, kBefore]
  have hhd : (headT s).length ≤ 1000 := by rw [ehd]; simp; omega
  simp (disch := omega) only [go_sem, Nat.reduceAdd, Nat.reduceSub, Nat.reduceLeDiff, v24, stD, c83 (i64_nr sy), c83 (i64_nr sb)]
  refine ⟨by omega, by omega, by omega, by omega, ?_⟩
  refine Run.up (fun i st => ∃ a2 a6, st = ⟨[.ag [.i .i64 s.y, .i .i64 s.b, .i .i64 s.a, x, .i .i64 s.g, .i .i64 s.t, .i .i64 s.n, .i .i64 s.i], .s [], a2, .bx [.i .i64 s.y, .i .i64 s.b, .i .i64 s.a, x, .i .i64 s.g, .i .i64 s.t, .i .i64 s.n, .i .i64 s.i], .s (headT s ++ lnsT s.ls i), .i .i64 i, a6], []⟩) s.ls.length ⟨.u, .u, ?_⟩ ?_
  · rw [ehd]; simp [lnsT]
  rintro i st' hi ⟨a2, a6, rfl⟩
  have hln := lnsT_len r i hi
  have h12 := r.len
  have hbase : (headT s ++ lnsT s.ls i).length ≤ 130000 := by rw [List.length_append]; omega
  by_cases hlt : i < s.ls.length
  · have hlt' : decide ((i : Int) < (s.ls.length : Int)) = true := by simpa using hlt
    have hf := r.fit hlt
    have hfi := r.fine.ls s.ls[i]! (by rw [getElem!_pos s.ls i hlt]; exact List.getElem_mem _)
    have l1 := nr_it hfi.d
    have l2 := nr_it hfi.p
    have l3 := nr_it hfi.o
    have l4 := monT_len hf.m
    have etot : headT s ++ lnsT s.ls (i + 1) = headT s ++ lnsT s.ls i ++ lnT s.ls[i]! := by rw [lnsT_succ hlt, List.append_assoc]
    rw [etot]
    have elx : lnT s.ls[i]! = [109, 111, 110, 116, 104, 32] ++ monT s.ls[i]!.m ++ [32, 100, 117, 101, 32] ++ Lib.itoa s.ls[i]!.d ++ [32, 112, 111, 115, 116, 101, 100, 32] ++ Lib.itoa s.ls[i]!.p ++ [32, 111, 112, 101, 110, 32] ++ Lib.itoa s.ls[i]!.o ++ [10] := by
      simp [lnT, lineT, wdT, join8, kMonth, kDue, kPosted, kOpen]
    rw [elx]
    generalize headT s ++ lnsT s.ls i = T at hbase
    simp (disch := omega) only [go_sem, Nat.reduceAdd, Nat.reduceLeDiff, v24l0, h.n, h.q, lnR, hlt', wr, c84 hf.m, c83 hf.d, c83 hf.p, c83 hf.o]
    repeat' first | (refine And.intro ?_ ?_) | intro _
    all_goals first | omega | simp
  · have : i = s.ls.length := by omega
    subst this
    have hlt' : decide ((s.ls.length : Int) < (s.ls.length : Int)) = false := by simp
    have etx : textT s = headT s ++ lnsT s.ls s.ls.length ++ [103, 114, 111, 115, 115, 32] ++ Lib.itoa s.g ++ [32, 116, 97, 120, 32] ++ Lib.itoa s.t ++ [32, 110, 101, 116, 32] ++ Lib.itoa s.n ++ [32, 105, 110, 116, 101, 114, 101, 115, 116, 32] ++ Lib.itoa s.i ++ [10, 97, 102, 116, 101, 114, 32] ++ Lib.itoa s.a ++ [10] := by
      simp [textT, lineT, wdT, join2, join8, kGross, kTax, kNet, kInterest, kAfter]
    rw [etx]
    generalize headT s ++ lnsT s.ls s.ls.length = T at hbase
    simp (disch := omega) only [go_sem, Nat.reduceAdd, Nat.reduceLeDiff, v24l0, h.n, hlt', c83 (i64_nr sg), c83 (i64_nr st), c83 (i64_nr sn), c83 (i64_nr si), c83 (i64_nr sa)]
    repeat' first | (refine And.intro ?_ ?_) | intro _
    all_goals first | omega | simp
theorem c71 {s : Stm} {d : D} (h : IsStm s d) (r : RightS s) {H : Heap} {K : CR → Prop} : CallQ VS 24 [d] H K ↔ K (.ret (.s (textT s)) H) :=
  (write71 h r).c (vf := v24) rfl rfl (by simp [h.plain]) (.inl rfl)
theorem text32 {s : Stm} {d : D} (h : IsStm s d) (hr : Rng s) (hl : s.ls.length ≤ 1000) : PRet VS 42 [d] (.tu [.s (if RightS s then textT s else []), .i .i64 (if RightS s then 0 else 2)]) := by
  obtain ⟨⟨x, rfl, hx⟩⟩ := h
  have h : IsStm s (stD s x) := ⟨⟨x, rfl, hx⟩⟩
  refine .body (vf := v42) rfl rfl ?_
  have e33 := fun {H K} => c33 h hr hl (H := H) (K := K)
  simp only [stD] at e33
  by_cases r : RightS s
  · have e71 := fun {H K} => c71 h r (H := H) (K := K)
    simp only [stD] at e71
    simp only [go_sem, Nat.reduceAdd, Nat.reduceSub, v42, stD, e33, e71, r]
  · simp only [go_sem, Nat.reduceAdd, Nat.reduceSub, v42, stD, e33, r]
theorem c32 {s : Stm} {d : D} (h : IsStm s d) (hr : Rng s) (hl : s.ls.length ≤ 1000) {H : Heap} {K : CR → Prop} : CallQ VS 42 [d] H K ↔ K (.ret (.tu [.s (if RightS s then textT s else []), .i .i64 (if RightS s then 0 else 2)]) H) :=
  (text32 h hr hl).c (vf := v42) rfl rfl (by simp [h.plain]) (.inl rfl)
open Go.Dm Go.Proofs
theorem c17f {H H1 : Heap} {s : Stm} {x d : D} (h : ∀ m, Dm.freeze (m + 1) H x = some (lsD s.ls, H1)) (hd : IsStm s d) (hl : s.ls.length ≤ 1000000) {K : CR → Prop} : CallQ VS 12 [stD s x, d] H K ↔ K (.ret (.b true) H1) := by
  have hs : IsStm s (stD s (lsD s.ls)) := isStm_of s
  have e := same17 hs hd hl
  rw [decide_eq_true rfl] at e
  refine CallQ_p (vf := v12) (H1 := H1) rfl rfl e ?_
  obtain ⟨⟨y, rfl, hy⟩⟩ := hd
  have fy : ∀ m H, Dm.freeze (m + 1) H y = some (y, H) := fun m H => flat_freeze hy.flat m H
  simp only [go_sem, Nat.reduceAdd, stD, h, fy]
set_option maxRecDepth 100000 in
theorem writes13 {s : Stm} {d : D} (h : IsStm s d) (hr : Rng s) (hl : s.ls.length ≤ 100) : PRet VS 17 [d] (.b true) := by
  obtain ⟨⟨x, rfl, hx⟩⟩ := h
  have h : IsStm s (stD s x) := ⟨⟨x, rfl, hx⟩⟩
  refine .body (vf := v17) rfl rfl ?_
  have e19 := fun {H K} => c19 h (by omega) (H := H) (K := K)
  have e18 := fun {H K} => c18 (isStm_of s) (by omega) (H := H) (K := K)
  have hc1 : (lsD s.ls).cellsN 1 = some [lsD s.ls] := (lsD_sl s.ls).c1
  have e14 := fun {K} => c14f (s := s) fz_b0 hr (K := K)
  have e15 := fun {K} => c15f (s := s) fz_b1 hr (K := K)
  have e32 := fun {H K} => c32 (isStm_of s) hr (by omega) (H := H) (K := K)
  have e33 := fun {H K} => c33 (isStm_of s) hr (by omega) (H := H) (K := K)
  have e17 := fun {K} => c17f (s := s) fz_b1 h (by omega) (K := K)
  simp only [stD] at e14 e15 e17 e18 e19 e32 e33
  simp (disch := omega) only [go_sem, Nat.reduceAdd, Nat.reduceSub, v17, stD, e19, e18, e14, e15, e32, e33, e17]
  exact ⟨fun _ => trivial, fun h => by cases h⟩
end Go.Proofs.YtnhbopeopppojaaGreatDoor.Dv
