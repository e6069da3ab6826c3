/-
  Layer 39 over the machine: lines and statements; what is right.
-/
import Derived.Test.YtnhbopeopppojaaGreatDoorNd
import Derived.Test.YtnhbopeopppojaaGreatDoorDh
namespace Go.Proofs.YtnhbopeopppojaaGreatDoor.Dv
open Go.Dm Go.Proofs

structure Ln where
  m : Int
  d : Int
  p : Int
  o : Int
  deriving Inhabited, DecidableEq
def lnR (x : Ln) : List D := [.i .i64 x.m, .i .i64 x.d, .i .i64 x.p, .i .i64 x.o]
structure Stm where
  y : Int
  b : Int
  a : Int
  ls : List Ln
  g : Int
  t : Int
  n : Int
  i : Int
  deriving DecidableEq
def stD (s : Stm) (x : D) : D := .ag [.i .i64 s.y, .i .i64 s.b, .i .i64 s.a, x, .i .i64 s.g, .i .i64 s.t, .i .i64 s.n, .i .i64 s.i]
structure IsStm (s : Stm) (d : D) : Prop where
  h : ∃ x, d = stD s x ∧ Sl 4 (s.ls.map lnR) x
theorem IsStm.plain {s : Stm} {d : D} (h : IsStm s d) : d.plain = true := by
  obtain ⟨⟨x, rfl, h⟩⟩ := h
  simp only [stD, plain_ag, List.all_cons, List.all_nil, flat_i, h.flat, Bool.and_self]

def isY (y : Int) : Bool := decide (1900 ≤ y) && decide (y ≤ 2079)
theorem isYear38 (y : Int) : PRet VS 26 [.i .i64 y] (.b (isY y)) := by
  refine .body (vf := v26) rfl rfl ?_
  simp only [go_sem, Nat.reduceSub, v26, isY]
  grind
@[go_sem] theorem c38 {y : Int} {H : Heap} {K : CR → Prop} : CallQ VS 26 [.i .i64 y] H K ↔ K (.ret (.b (isY y)) H) :=
  (isYear38 y).c (vf := v26) rfl rfl rfl (.inl rfl)
def yOf (m : Int) : Int := 1900 + m.tdiv 12
theorem yearOf40 (m : Int) (h : 0 ≤ m ∧ m ≤ 9223372036854775807) : PRet VS 29 [.i .i64 m] (.i .i64 (yOf m)) := by
  refine .body (vf := v29) rfl rfl ?_
  have e : m.tdiv 12 = m / 12 := Int.tdiv_eq_ediv_of_nonneg h.1
  simp only [go_sem, Nat.reduceSub, Int.reduceEq, v29, yOf, e]
  rw [wr (x := m / 12) (by omega) (by omega), wr (by omega) (by omega)]
theorem c40 {m : Int} (h : 0 ≤ m ∧ m ≤ 9223372036854775807) {H : Heap} {K : CR → Prop} : CallQ VS 29 [.i .i64 m] H K ↔ K (.ret (.i .i64 (yOf m)) H) :=
  (yearOf40 m h).c (vf := v29) rfl rfl rfl (.inl rfl)
def nr (n : Int) : Bool := decide (-9007199254740992 ≤ n) && decide (n ≤ 9007199254740992)
def iR (n : Int) : List D := [.i .i64 n]
def nnr (n : Int) : Bool := !nr n
theorem areSums39 {l : List Int} {d : D} (h : Sl 1 (l.map iR) d) (hl : l.length < 1000) : PRet VS 66 [d] (.b (l.all nr)) := by
  refine .body (vf := v66) rfl rfl ?_
  simp only [go_sem, Nat.reduceSub, v66, h.n]
  refine Run.up (fun i s => noneTo nnr l i ∧ ∃ a2 a3 a7, s = ⟨[d, .b false, a2, a3, .i .i64 i, .i .i64 l.length, d, a7], []⟩) l.length ⟨nt_zero, .u, .u, .u, rfl⟩ ?_
  rintro i s hi ⟨hv, a2, a3, a7, rfl⟩
  have e0 : l.all nr = !l.any nnr := by rw [List.not_any_eq_all_not]; simp [nnr]
  have e1 := @nt_end _ _ nnr l
  have e2 : i < l.length → nnr l[i]! = true → l.any nnr = true := nt_hit
  simp (disch := omega) only [go_sem, Int.reduceNeg, v66l0, h.q, iR, wr, nt_succ, hv, e0]
  repeat' first | (refine And.intro ?_ ?_) | intro _
  all_goals first | omega | grind [nnr, nr]
@[go_sem] theorem c39b {a b : Int} {H : Heap} {K : CR → Prop} : CallQ VS 66 [.sv 1 [[.i .i64 a], [.i .i64 b]]] H K ↔ K (.ret (.b (nr a && nr b)) H) := by
  have h := areSums39 (l := [a, b]) (d := .im 1 [[.i .i64 a], [.i .i64 b]]) .im (by simp)
  rw [CallQ_p (vf := v66) (H1 := H) rfl rfl h (by simp only [go_sem, Nat.reduceAdd])]
  simp [v66]
  exact Iff.rfl
@[go_sem] theorem c39f {a b c d e f : Int} {H : Heap} {K : CR → Prop} : CallQ VS 66 [.sv 1 [[.i .i64 a], [.i .i64 b], [.i .i64 c], [.i .i64 d], [.i .i64 e], [.i .i64 f]]] H K ↔ K (.ret (.b (nr a && nr b && nr c && nr d && nr e && nr f)) H) := by
  have h := areSums39 (l := [a, b, c, d, e, f]) (d := .im 1 [[.i .i64 a], [.i .i64 b], [.i .i64 c], [.i .i64 d], [.i .i64 e], [.i .i64 f]]) .im (by simp)
  rw [CallQ_p (vf := v66) (H1 := H) rfl rfl h (by simp only [go_sem, Nat.reduceAdd])]
  simp [v66, Bool.and_assoc]
  exact Iff.rfl
theorem open42 (x : Ln) : PRet VS 68 [.ag (lnR x)] (.i .i64 x.o) := by
  refine .body (vf := v68) rfl rfl ?_
  simp only [go_sem, Nat.reduceAdd, Nat.reduceSub, v68, lnR]
@[go_sem] theorem c42 {x : Ln} {H : Heap} {K : CR → Prop} : CallQ VS 68 [.ag [.i .i64 x.m, .i .i64 x.d, .i .i64 x.p, .i .i64 x.o]] H K ↔ K (.ret (.i .i64 x.o) H) :=
  (open42 x).c (vf := v68) rfl rfl rfl (.inl rfl)

/-- The sum of the first i open amounts. -/
def so (l : List Ln) : Nat → Int
  | 0 => 0
  | i + 1 => so l i + l[i]!.o
theorem so_b {l : List Ln} {B : Nat} (hB : ∀ x ∈ l, -(B : Int) ≤ x.o ∧ x.o ≤ B) : ∀ i, i ≤ l.length → -(B * i : Nat) ≤ so l i ∧ so l i ≤ (B * i : Nat)
  | 0, _ => by simp [so]
  | i + 1, h => by
    have ih := so_b hB i (by omega)
    have hx := hB l[i]! (by rw [getElem!_pos l i (by omega)]; exact List.getElem_mem _)
    rw [so, Nat.mul_add]
    simp only [Nat.mul_one, Int.natCast_add]
    omega
theorem sum41 {l : List Ln} {d : D} (h : Sl 4 (l.map lnR) d) (hl : l.length ≤ 12) (hB : ∀ x ∈ l, -9007199254740992 ≤ x.o ∧ x.o ≤ 9007199254740992) {H : Heap} {K : CR → Prop} : CallQ VS 67 [d, .fn (.func 68) [] []] H K ↔ K (.ret (.i .i64 (so l l.length)) H) := by
  refine CallQ_ret (Ret.iff_q.2 (.body (vf := v67) rfl rfl rfl ?_))
  simp only [go_sem, Nat.reduceSub, v67, h.n]
  refine Run.up (fun i s => ∃ a3 a8, s = ⟨[d, .fn (.func 68) [] [], .i .i64 0, a3, .i .i64 (so l i), .i .i64 i, .i .i64 l.length, d, a8], H⟩) l.length ⟨.u, .u, rfl⟩ ?_
  rintro i s hi ⟨a3, a8, rfl⟩
  have hb := fun j hj => so_b (B := 9007199254740992) hB j hj
  by_cases hlt : i < l.length
  · have hlt' : decide ((i : Int) < (l.length : Int)) = true := by simpa using hlt
    have h1 := hb (i + 1) (by omega)
    have h0 := hb i (by omega)
    simp only [so] at h1
    simp (disch := omega) only [go_sem, Nat.reduceAdd, v67l0, h.q, lnR, wr, hlt', so]
    omega
  · have hlt' : decide ((i : Int) < (l.length : Int)) = false := by simpa using hlt
    have : i = l.length := by omega
    subst this
    simp (disch := omega) only [go_sem, v67l0, hlt']

/-! ### What is right -/
structure LnOk (y : Int) (l : List Ln) (k : Nat) : Prop where
  m0 : 0 ≤ l[k]!.m
  m1 : yOf l[k]!.m = y
  m2 : 0 < k → l[k]!.m = l[k - 1]!.m + 1
  d : 0 ≤ l[k]!.d ∧ l[k]!.d ≤ 1099511627776
  p : nr l[k]!.p = true
  o : nr l[k]!.o = true
  e : l[k]!.o = l[k]!.d - l[k]!.p
structure lnsTo (y : Int) (l : List Ln) (i : Nat) : Prop where
  h : ∀ k, k < i → LnOk y l k
theorem lt_succ {y : Int} {l : List Ln} {i : Nat} : lnsTo y l (i + 1) ↔ lnsTo y l i ∧ LnOk y l i := by
  refine ⟨fun h => ⟨⟨fun k hk => h.h k (by omega)⟩, h.h i (by omega)⟩, fun h => ⟨fun k hk => ?_⟩⟩
  by_cases e : k = i
  · subst e; exact h.2
  · exact h.1.h k (by omega)
structure RightS (s : Stm) : Prop where
  y : isY s.y = true
  len : s.ls.length ≤ 12
  sums : (nr s.b && nr s.a && nr s.g && nr s.t && nr s.n && nr s.i) = true
  net : s.n = s.g - s.t
  lns : lnsTo s.y s.ls s.ls.length
  aft : s.a = s.b + so s.ls s.ls.length
noncomputable instance (s : Stm) : Decidable (RightS s) := Classical.propDecidable _
/-- The numbers are the machine's. -/
structure Rng (s : Stm) : Prop where
  ls : ∀ x ∈ s.ls, (-9223372036854775808 ≤ x.m ∧ x.m ≤ 9223372036854775807)
theorem nr_i {n : Int} : nr n = true ↔ -9007199254740992 ≤ n ∧ n ≤ 9007199254740992 := by simp [nr]

theorem right15 {s : Stm} {d : D} (h : IsStm s d) (hr : Rng s) : PRet VS 36 [d] (.b (decide (RightS s))) := by
  obtain ⟨⟨x, rfl, h⟩⟩ := h
  refine .body (vf := v36) rfl rfl ?_
  simp only [go_sem, Nat.reduceAdd, Nat.reduceSub, Nat.reduceLeDiff, Nat.reduceLT, v36, stD, h.n]
  refine ⟨fun hy => ?_, fun hy => ⟨fun hl => ?_, fun hl => ⟨fun hs => ?_, fun hs => ?_⟩⟩⟩
  · exact (decide_eq_false fun r => by rw [r.y] at hy; cases hy).symm
  · exact (decide_eq_false fun r => by have := r.len; omega).symm
  · exact (decide_eq_false fun r => by rw [r.sums] at hs; cases hs).symm
  have hs2 := hs
  simp only [Bool.and_eq_true, nr_i] at hs2
  rw [wr (by omega) (by omega)]
  refine ⟨fun hn => (decide_eq_false fun r => hn r.net).symm, fun hn => ?_⟩
  generalize D.b (decide (12 < (s.ls.length : Int))) = z2
  generalize D.b (!decide (s.n = s.g - s.t)) = z3
  refine Run.up (fun i st => lnsTo s.y s.ls i ∧ ∃ a4 a5 a6 a11 a12, st = ⟨[stD s x, .b false, z2, z3, a4, a5, a6, .bx [.i .i64 s.y, .i .i64 s.b, .i .i64 s.a, x, .i .i64 s.g, .i .i64 s.t, .i .i64 s.n, .i .i64 s.i], .i .i64 i, .i .i64 s.ls.length, x, a11, a12], []⟩) s.ls.length ⟨⟨fun k hk => by omega⟩, .u, .u, .u, .u, .u, rfl⟩ ?_
  rintro i st hi ⟨hv, a4, a5, a6, a11, a12, rfl⟩
  by_cases hlt : i < s.ls.length
  · have hlt' : decide ((i : Int) < (s.ls.length : Int)) = true := by simpa using hlt
    have hm := hr.ls s.ls[i]! (by rw [getElem!_pos s.ls i hlt]; exact List.getElem_mem _)
    have nope : ¬ LnOk s.y s.ls i → false = decide (RightS s) := fun hno => (decide_eq_false fun r => hno (r.lns.h i hlt)).symm
    simp (disch := omega) only [go_sem, Nat.reduceAdd, Nat.reduceLeDiff, v36l0, h.q, lnR, hlt', lt_succ, hv]
    refine ⟨⟨by omega, by omega⟩, fun hneg => nope fun r => by have := r.m0; omega, fun hneg => ?_⟩
    have e0 : LnOk s.y s.ls i → 0 ≤ s.ls[i]!.d ∧ s.ls[i]!.d ≤ 1099511627776 := LnOk.d
    have e1 : LnOk s.y s.ls i → yOf s.ls[i]!.m = s.y := LnOk.m1
    have e2 : LnOk s.y s.ls i → nr s.ls[i]!.p = true ∧ nr s.ls[i]!.o = true := fun r => ⟨r.p, r.o⟩
    have e3 : LnOk s.y s.ls i → s.ls[i]!.o = s.ls[i]!.d - s.ls[i]!.p := LnOk.e
    have e4 : LnOk s.y s.ls i → 0 < i → s.ls[i]!.m = s.ls[i - 1]!.m + 1 := LnOk.m2
    have mk : yOf s.ls[i]!.m = s.y → (0 < i → s.ls[i]!.m = s.ls[i - 1]!.m + 1) → 0 ≤ s.ls[i]!.d → s.ls[i]!.d ≤ 1099511627776 → nr s.ls[i]!.p = true → nr s.ls[i]!.o = true → s.ls[i]!.o = s.ls[i]!.d - s.ls[i]!.p → LnOk s.y s.ls i := fun a b c d e f g => ⟨by omega, a, b, ⟨c, d⟩, e, f, g⟩
    have hw : nr s.ls[i]!.p = true → 0 ≤ s.ls[i]!.d → s.ls[i]!.d ≤ 1099511627776 → IntKind.i64.wrap (s.ls[i]!.d - s.ls[i]!.p) = s.ls[i]!.d - s.ls[i]!.p := fun a b c => by
      rw [nr_i] at a
      exact wr (by omega) (by omega)
    simp only [go_sem, Nat.reduceAdd, Nat.reduceLeDiff, Nat.reduceLT, c40 (m := s.ls[i]!.m) ⟨by omega, hm.2⟩]
    rcases Nat.eq_zero_or_pos i with rfl | hpos
    · simp (disch := omega) only [go_sem, Int.reduceLT, Int.reduceNeg, Int.reduceSub, wr]
      repeat' first | (refine And.intro ?_ ?_) | intro _
      all_goals first | omega | grind
    · have hpos' : decide ((i : Int) > 0) = true := by simpa using hpos
      have hprev : -10 ≤ s.ls[i - 1]!.m ∧ s.ls[i - 1]!.m ≤ 3000 := by
        have r := hv.h (i - 1) (by omega)
        have h1 := r.m0
        have h2 := r.m1
        rw [yOf, Int.tdiv_eq_ediv_of_nonneg h1] at h2
        simp only [isY, Bool.and_eq_true, decide_eq_true_eq] at hy
        omega
      simp (disch := omega) only [go_sem, Nat.reduceAdd, Nat.reduceLeDiff, Nat.reduceLT, hpos', h.q, h.under, lnR, wr]
      repeat' first | (refine And.intro ?_ ?_) | intro _
      all_goals first | omega | grind
  · have hlt' : decide ((i : Int) < (s.ls.length : Int)) = false := by simpa using hlt
    have : i = s.ls.length := by omega
    subst this
    have hB : ∀ x ∈ s.ls, -9007199254740992 ≤ x.o ∧ x.o ≤ 9007199254740992 := fun x hx => by
      obtain ⟨k, hk, rfl⟩ := List.mem_iff_getElem.1 hx
      have := (hv.h k hk).o
      rw [getElem!_pos s.ls k hk] at this
      exact nr_i.1 this
    have hsum := so_b (B := 9007199254740992) hB s.ls.length (Nat.le_refl _)
    simp (disch := omega) only [go_sem, Nat.reduceAdd, Nat.reduceLeDiff, v36l0, hlt', sum41 h (by omega) hB, wr]
    rw [decide_eq_decide]
    exact ⟨fun ha => ⟨hy, by omega, hs, hn, hv, ha⟩, fun r => r.aft⟩
end Go.Proofs.YtnhbopeopppojaaGreatDoor.Dv
