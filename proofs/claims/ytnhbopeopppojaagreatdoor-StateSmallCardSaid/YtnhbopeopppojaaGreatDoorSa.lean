/-
  Statements: when they are right; months; their text.
-/
import Derived.Test.YtnhbopeopppojaaGreatDoorN
import Derived.Test.YtnhbopeopppojaaGreatDoorDh
import Derived.Lib.ItoaLen
namespace Go.Proofs.YtnhbopeopppojaaGreatDoor.Dv
open Go.Dm Go.Proofs
structure Ln where
  m : Int
  d : Int
  p : Int
  o : Int
  deriving Inhabited, DecidableEq
def lnR (x : Ln) : List D := [.i .i64 x.m, .i .i64 x.d, .i .i64 x.p, .i .i64 x.o]
structure Stm where
  y : Int
  b : Int
  a : Int
  ls : List Ln
  g : Int
  t : Int
  n : Int
  i : Int
  deriving DecidableEq
def stD (s : Stm) (x : D) : D := .ag [.i .i64 s.y, .i .i64 s.b, .i .i64 s.a, x, .i .i64 s.g, .i .i64 s.t, .i .i64 s.n, .i .i64 s.i]
structure IsStm (s : Stm) (d : D) : Prop where
  h : ∃ x, d = stD s x ∧ Sl 4 (s.ls.map lnR) x
theorem IsStm.plain {s : Stm} {d : D} (h : IsStm s d) : d.plain = true := by
  obtain ⟨⟨x, rfl, h⟩⟩ := h
  simp only [stD, plain_ag, List.all_cons, List.all_nil, flat_i, h.flat, Bool.and_self]
def isY (y : Int) : Bool := decide (1900 ≤ y) && decide (y ≤ 2079)
theorem isYear38 (y : Int) : PRet VS 26 [.i .i64 y] (.b (isY y)) := by
  refine .body (vf := v26) rfl rfl ?_
  simp only [go_sem, Nat.reduceSub, v26, isY]
  grind
@[go_sem] theorem c38 {y : Int} {H : Heap} {K : CR → Prop} : CallQ VS 26 [.i .i64 y] H K ↔ K (.ret (.b (isY y)) H) :=
  (isYear38 y).c (vf := v26) rfl rfl rfl (.inl rfl)
def yOf (m : Int) : Int := 1900 + m.tdiv 12
theorem yearOf40 (m : Int) (h : 0 ≤ m ∧ m ≤ 9223372036854775807) : PRet VS 29 [.i .i64 m] (.i .i64 (yOf m)) := by
  refine .body (vf := v29) rfl rfl ?_
  have e : m.tdiv 12 = m / 12 := Int.tdiv_eq_ediv_of_nonneg h.1
  simp only [go_sem, Nat.reduceSub, Int.reduceEq, v29, yOf, e]
  rw [wr (x := m / 12) (by omega) (by omega), wr (by omega) (by omega)]
theorem c40 {m : Int} (h : 0 ≤ m ∧ m ≤ 9223372036854775807) {H : Heap} {K : CR → Prop} : CallQ VS 29 [.i .i64 m] H K ↔ K (.ret (.i .i64 (yOf m)) H) :=
  (yearOf40 m h).c (vf := v29) rfl rfl rfl (.inl rfl)
def nr (n : Int) : Bool := decide (-9007199254740992 ≤ n) && decide (n ≤ 9007199254740992)
def iR (n : Int) : List D := [.i .i64 n]
def nnr (n : Int) : Bool := !nr n
theorem areSums39 {l : List Int} {d : D} (h : Sl 1 (l.map iR) d) (hl : l.length < 1000) : PRet VS 66 [d] (.b (l.all nr)) := by
  refine .body (vf := v66) rfl rfl ?_
  simp only [go_sem, Nat.reduceSub, v66, h.n]
  refine Run.up (fun i s => noneTo nnr l i ∧ ∃ a2 a3 a7, s = ⟨[d, .b false, a2, a3, .i .i64 i, .i .i64 l.length, d, a7], []⟩) l.length ⟨nt_zero, .u, .u, .u, rfl⟩ ?_
  rintro i s hi ⟨hv, a2, a3, a7, rfl⟩
  have e0 : l.all nr = !l.any nnr := by rw [List.not_any_eq_all_not]; simp [nnr]
  have e1 := @nt_end _ _ nnr l
  have e2 : i < l.length → nnr l[i]! = true → l.any nnr = true := nt_hit
  simp (disch := omega) only [go_sem, Int.reduceNeg, v66l0, h.q, iR, wr, nt_succ, hv, e0]
  repeat' first | (refine And.intro ?_ ?_) | intro _
  all_goals first | omega | grind [nnr, nr]
@[go_sem] theorem c39b {a b : Int} {H : Heap} {K : CR → Prop} : CallQ VS 66 [.sv 1 [[.i .i64 a], [.i .i64 b]]] H K ↔ K (.ret (.b (nr a && nr b)) H) := by
  have h := areSums39 (l := [a, b]) (d := .im 1 [[.i .i64 a], [.i .i64 b]]) .im (by simp)
  rw [CallQ_p (vf := v66) (H1 := H) rfl rfl h (by simp only [go_sem, Nat.reduceAdd])]
  simp [v66]
  exact Iff.rfl
@[go_sem] theorem c39f {a b c d e f : Int} {H : Heap} {K : CR → Prop} : CallQ VS 66 [.sv 1 [[.i .i64 a], [.i .i64 b], [.i .i64 c], [.i .i64 d], [.i .i64 e], [.i .i64 f]]] H K ↔ K (.ret (.b (nr a && nr b && nr c && nr d && nr e && nr f)) H) := by
  have h := areSums39 (l := [a, b, c, d, e, f]) (d := .im 1 [[.i .i64 a], [.i .i64 b], [.i .i64 c], [.i .i64 d], [.i .i64 e], [.i .i64 f]]) .im (by simp)
  rw [CallQ_p (vf := v66) (H1 := H) rfl rfl h (by simp only [go_sem, Nat.reduceAdd])]
  simp [v66, Bool.and_assoc]
  exact Iff.rfl
theorem open42 (x : Ln) : PRet VS 68 [.ag (lnR x)] (.i .i64 x.o) := by
  refine .body (vf := v68) rfl rfl ?_
  simp only [go_sem, Nat.reduceAdd, Nat.reduceSub, v68, lnR]
@[go_sem] theorem c42 {x : Ln} {H : Heap} {K : CR → Prop} : CallQ VS 68 [.ag [.i .i64 x.m, .i .i64 x.d, .i .i64 x.p, .i .i64 x.o]] H K ↔ K (.ret (.i .i64 x.o) H) :=
  (open42 x).c (vf := v68) rfl rfl rfl (.inl rfl)
def so (l : List Ln) : Nat → Int
  | 0 => 0
  | i + 1 => so l i + l[i]!.o
theorem so_b {l : List Ln} {B : Nat} (hB : ∀ x ∈ l, -(B : Int) ≤ x.o ∧ x.o ≤ B) : ∀ i, i ≤ l.length → -(B * i : Nat) ≤ so l i ∧ so l i ≤ (B * i : Nat)
  | 0, _ => by simp [so]
  | i + 1, h => by
    have ih := so_b hB i (by omega)
    have hx := hB l[i]! (by rw [getElem!_pos l i (by omega)]; exact List.getElem_mem _)
    rw [so, Nat.mul_add]
    simp only [Nat.mul_one, Int.natCast_add]
    omega
theorem sum41 {l : List Ln} {d : D} (h : Sl 4 (l.map lnR) d) (hl : l.length ≤ 12) (hB : ∀ x ∈ l, -9007199254740992 ≤ x.o ∧ x.o ≤ 9007199254740992) {H : Heap} {K : CR → Prop} : CallQ VS 67 [d, .fn (.func 68) [] []] H K ↔ K (.ret (.i .i64 (so l l.length)) H) := by
  refine CallQ_ret (Ret.iff_q.2 (.body (vf := v67) rfl rfl rfl ?_))
  simp only [go_sem, Nat.reduceSub, v67, h.n]
  refine Run.up (fun i s => ∃ a3 a8, s = ⟨[d, .fn (.func 68) [] [], .i .i64 0, a3, .i .i64 (so l i), .i .i64 i, .i .i64 l.length, d, a8], H⟩) l.length ⟨.u, .u, rfl⟩ ?_
  rintro i s hi ⟨a3, a8, rfl⟩
  have hb := fun j hj => so_b (B := 9007199254740992) hB j hj
  by_cases hlt : i < l.length
  · have hlt' : decide ((i : Int) < (l.length : Int)) = true := by simpa using hlt
    have h1 := hb (i + 1) (by omega)
    have h0 := hb i (by omega)
    simp only [so] at h1
    simp (disch := omega) only [go_sem, Nat.reduceAdd, v67l0, h.q, lnR, wr, hlt', so]
    omega
  · have hlt' : decide ((i : Int) < (l.length : Int)) = false := by simpa using hlt
    have : i = l.length := by omega
    subst this
    simp (disch := omega) only [go_sem, v67l0, hlt']
structure LnOk (y : Int) (l : List Ln) (k : Nat) : Prop where
  m0 : 0 ≤ l[k]!.m
  m1 : yOf l[k]!.m = y
  m2 : 0 < k → l[k]!.m = l[k - 1]!.m + 1
  d : 0 ≤ l[k]!.d ∧ l[k]!.d ≤ 1099511627776
  p : nr l[k]!.p = true
  o : nr l[k]!.o = true
  e : l[k]!.o = l[k]!.d - l[k]!.p
structure lnsTo (y : Int) (l : List Ln) (i : Nat) : Prop where
  h : ∀ k, k < i → LnOk y l k
theorem lt_succ {y : Int} {l : List Ln} {i : Nat} : lnsTo y l (i + 1) ↔ lnsTo y l i ∧ LnOk y l i := by
  refine ⟨fun h => ⟨⟨fun k hk => h.h k (by omega)⟩, h.h i (by omega)⟩, fun h => ⟨fun k hk => ?_⟩⟩
  by_cases e : k = i
  · subst e; exact h.2
  · exact h.1.h k (by omega)
structure RightS (s : Stm) : Prop where
  y : isY s.y = true
  len : s.ls.length ≤ 12
  sums : (nr s.b && nr s.a && nr s.g && nr s.t && nr s.n && nr s.i) = true
  net : s.n = s.g - s.t
  lns : lnsTo s.y s.ls s.ls.length
  aft : s.a = s.b + so s.ls s.ls.length
noncomputable instance (s : Stm) : Decidable (RightS s) := Classical.propDecidable _
structure Rng (s : Stm) : Prop where
  ls : ∀ x ∈ s.ls, (-9223372036854775808 ≤ x.m ∧ x.m ≤ 9223372036854775807)
theorem nr_i {n : Int} : nr n = true ↔ -9007199254740992 ≤ n ∧ n ≤ 9007199254740992 := by simp [nr]
theorem right15 {s : Stm} {d : D} (h : IsStm s d) (hr : Rng s) : PRet VS 36 [d] (.b (decide (RightS s))) := by
  obtain ⟨⟨x, rfl, h⟩⟩ := h
  refine .body (vf := v36) rfl rfl ?_
  simp only [go_sem, Nat.reduceAdd, Nat.reduceSub, Nat.reduceLeDiff, Nat.reduceLT, v36, stD, h.n]
  refine ⟨fun hy => ?_, fun hy => ⟨fun hl => ?_, fun hl => ⟨fun hs => ?_, fun hs => ?_⟩⟩⟩
  · exact (decide_eq_false fun r => by rw [r.y] at hy; cases hy).symm
  · exact (decide_eq_false fun r => by have := r.len; omega).symm
  · exact (decide_eq_false fun r => by rw [r.sums] at hs; cases hs).symm
  have hs2 := hs
  simp only [Bool.and_eq_true, nr_i] at hs2
  rw [wr (by omega) (by omega)]
  refine ⟨fun hn => (decide_eq_false fun r => hn r.net).symm, fun hn => ?_⟩
  generalize D.b (decide (12 < (s.ls.length : Int))) = z2
  generalize D.b (!decide (s.n = s.g - s.t)) = z3
  refine Run.up (fun i st => lnsTo s.y s.ls i ∧ ∃ a4 a5 a6 a11 a12, st = ⟨[stD s x, .b false, z2, z3, a4, a5, a6, .bx [.i .i64 s.y, .i .i64 s.b, .i .i64 s.a, x, .i .i64 s.g, .i .i64 s.t, .i .i64 s.n, .i .i64 s.i], .i .i64 i, .i .i64 s.ls.length, x, a11, a12], []⟩) s.ls.length ⟨⟨fun k hk => by omega⟩, .u, .u, .u, .u, .u, rfl⟩ ?_
  rintro i st hi ⟨hv, a4, a5, a6, a11, a12, rfl⟩
  by_cases hlt : i < s.ls.length
  · have hlt' : decide ((i : Int) < (s.ls.length : Int)) = true := by simpa using hlt
    have hm := hr.ls s.ls[i]! (by rw [getElem!_pos s.ls i hlt]; exact List.getElem_mem _)
    have nope : ¬ LnOk s.y s.ls i → false = decide (RightS s) := fun hno => (decide_eq_false fun r => hno (r.lns.h i hlt)).symm
    simp (disch := omega) only [go_sem, Nat.reduceAdd, Nat.reduceLeDiff, v36l0, h.q, lnR, hlt', lt_succ, hv]
    refine ⟨⟨by omega, by omega⟩, fun hneg => nope fun r => by have := r.m0; omega, fun hneg => ?_⟩
    have e0 : LnOk s.y s.ls i → 0 ≤ s.ls[i]!.d ∧ s.ls[i]!.d ≤ 1099511627776 := LnOk.d
    have e1 : LnOk s.y s.ls i → yOf s.ls[i]!.m = s.y := LnOk.m1
    have e2 : LnOk s.y s.ls i → nr s.ls[i]!.p = true ∧ nr s.ls[i]!.o = true := fun r => ⟨r.p, r.o⟩
    have e3 : LnOk s.y s.ls i → s.ls[i]!.o = s.ls[i]!.d - s.ls[i]!.p := LnOk.e
    have e4 : LnOk s.y s.ls i → 0 < i → s.ls[i]!.m = s.ls[i - 1]!.m + 1 := LnOk.m2
    have mk : yOf s.ls[i]!.m = s.y → (0 < i → s.ls[i]!.m = s.ls[i - 1]!.m + 1) → 0 ≤ s.ls[i]!.d → s.ls[i]!.d ≤ 1099511627776 → nr s.ls[i]!.p = true → nr s.ls[i]!.o = true → s.ls[i]!.o = s.ls[i]!.d - s.ls[i]!.p → LnOk s.y s.ls i := fun a b c d e f g => ⟨by omega, a, b, ⟨c, d⟩, e, f, g⟩
    have hw : nr s.ls[i]!.p = true → 0 ≤ s.ls[i]!.d → s.ls[i]!.d ≤ 1099511627776 → IntKind.i64.wrap (s.ls[i]!.d - s.ls[i]!.p) = s.ls[i]!.d - s.ls[i]!.p := fun a b c => by
      rw [nr_i] at a
      exact wr (by omega) (by omega)
    simp only [go_sem, Nat.reduceAdd, Nat.reduceLeDiff, Nat.reduceLT, c40 (m := s.ls[i]!.m) ⟨by omega, hm.2⟩]
    rcases Nat.eq_zero_or_pos i with rfl | hpos
    · simp (disch := omega) only [go_sem, Int.reduceLT, Int.reduceNeg, Int.reduceSub, wr]
      repeat' first | (refine And.intro ?_ ?_) | intro _
      all_goals first | omega | grind
    · have hpos' : decide ((i : Int) > 0) = true := by simpa using hpos
      have hprev : -10 ≤ s.ls[i - 1]!.m ∧ s.ls[i - 1]!.m ≤ 3000 := by
        have r := hv.h (i - 1) (by omega)
        have h1 := r.m0
        have h2 := r.m1
        rw [yOf, Int.tdiv_eq_ediv_of_nonneg h1] at h2
        simp only [isY, Bool.and_eq_true, decide_eq_true_eq] at hy
        omega
      simp (disch := omega) only [go_sem, Nat.reduceAdd, Nat.reduceLeDiff, Nat.reduceLT, hpos', h.q, h.under, lnR, wr]
      repeat' first | (refine And.intro ?_ ?_) | intro _
      all_goals first | omega | grind
  · have hlt' : decide ((i : Int) < (s.ls.length : Int)) = false := by simpa using hlt
    have : i = s.ls.length := by omega
    subst this
    have hB : ∀ x ∈ s.ls, -9007199254740992 ≤ x.o ∧ x.o ≤ 9007199254740992 := fun x hx => by
      obtain ⟨k, hk, rfl⟩ := List.mem_iff_getElem.1 hx
      have := (hv.h k hk).o
      rw [getElem!_pos s.ls k hk] at this
      exact nr_i.1 this
    have hsum := so_b (B := 9007199254740992) hB s.ls.length (Nat.le_refl _)
    simp (disch := omega) only [go_sem, Nat.reduceAdd, Nat.reduceLeDiff, v36l0, hlt', sum41 h (by omega) hB, wr]
    rw [decide_eq_decide]
    exact ⟨fun ha => ⟨hy, by omega, hs, hn, hv, ha⟩, fun r => r.aft⟩
open Go.Dm Go.Proofs
theorem PRet.pext {V : VProg} {f : FuncId} {vf : VFunc} {ds : List D} {d : D} (hf : V.fn f = some vf) (hx : V.pext f ds = some d) : PRet V f ds d := ⟨1, by simp only [pcall, hf, pureR, hx]⟩
def i64r (n : Int) : Prop := -9223372036854775808 ≤ n ∧ n ≤ 9223372036854775807
theorem itoa74D (n : Int) (h : i64r n) : PRet VS 70 [.i .i64 n] (.s (Lib.itoa n)) :=
  PRet.pext (vf := v70) rfl (by show (if -9223372036854775808 ≤ n ∧ n ≤ 9223372036854775807 then some (D.s (Lib.itoa n)) else none) = _; exact if_pos h)
theorem c74 {n : Int} (h : i64r n) {H : Heap} {K : CR → Prop} : CallQ VS 70 [.i .i64 n] H K ↔ K (.ret (.s (Lib.itoa n)) H) :=
  (itoa74D n h).c (vf := v70) rfl rfl rfl (.inl rfl)
inductive Wd where
  | s (l : List UInt8)
  | i (n : Int)
  deriving Inhabited
def wdR : Wd → List D
  | .s l => [.ifc 9 (.s l)]
  | .i n => [.ifc 3 (.i .i64 n)]
def wdT : Wd → List UInt8
  | .s l => l
  | .i n => Lib.itoa n
def wdOk : Wd → Prop
  | .s l => l.length ≤ 1000
  | .i n => i64r n
def seS (s : List UInt8) : List D := [.s s]
theorem wdT_len {w : Wd} (h : wdOk w) : (wdT w).length ≤ 1000 := by
  cases w with
  | s l => exact h
  | i n => exact Nat.le_trans (Lib.itoa_length_le n h.1 h.2) (by omega)
structure WTo (ws : List Wd) (l : List (List UInt8)) (i : Nat) : Prop where
  n : l.length = ws.length
  h : ∀ k, k < i → l[k]! = wdT ws[k]!
theorem WTo.end {ws : List Wd} {l : List (List UInt8)} (h : WTo ws l ws.length) : l = ws.map wdT := by
  refine List.ext_getElem (by rw [List.length_map, h.n]) fun k h1 h2 => ?_
  have hk : k < ws.length := by rw [← h.n]; exact h1
  have := h.h k hk
  rw [getElem!_pos l k h1, getElem!_pos ws k hk] at this
  rw [this, List.getElem_map]
theorem WTo.step {ws : List Wd} {l : List (List UInt8)} {i : Nat} (h : WTo ws l i) (hi : i < ws.length) : WTo ws (l.set i (wdT ws[i]!)) (i + 1) := by
  have hil : i < l.length := by rw [h.n]; exact hi
  refine ⟨by rw [List.length_set, h.n], fun k hk => ?_⟩
  by_cases e : k = i
  · subst e; rw [getElem!_pos _ _ (by rw [List.length_set]; exact hil), List.getElem_set_self]
  · have hkl : k < l.length := by omega
    rw [getElem!_pos _ _ (by rw [List.length_set]; exact hkl), List.getElem_set_ne (fun x => e x.symm), ← getElem!_pos l k hkl]
    exact h.h k (by omega)
theorem rep_s {n : Nat} : List.replicate n [D.s []] = (List.replicate n []).map seS := by simp [seS]
theorem set_s {l : List (List UInt8)} {i : Nat} {b : List UInt8} : (l.map seS).set i [.s b] = (l.set i b).map seS := by rw [List.map_set]; rfl
def lineT (ws : List Wd) : List UInt8 := Lib.join (ws.map wdT) [32] ++ [10]
theorem lens_le : ∀ {l : List (List UInt8)} {n : Nat}, (∀ x ∈ l, x.length ≤ n) → Lib.lens l ≤ l.length * n
  | [], _, _ => by simp [Lib.lens]
  | x :: l, n, h => by
    have := lens_le (l := l) (n := n) fun y hy => h y (List.mem_cons_of_mem _ hy)
    have hx := h x List.mem_cons_self
    simp only [Lib.lens, List.map_cons, List.sum_cons, List.length_cons, Nat.add_mul, Nat.one_mul] at *
    omega
theorem join_le {ws : List Wd} (hne : ws ≠ []) (hok : ∀ w ∈ ws, wdOk w) : (Lib.join (ws.map wdT) [32]).length ≤ ws.length * 1001 := by
  cases ws with
  | nil => exact absurd rfl hne
  | cons w ws =>
    have h := lens_le (l := (w :: ws).map wdT) (n := 1000) fun x hx => by
      obtain ⟨y, hy, rfl⟩ := List.mem_map.1 hx
      exact wdT_len (hok y hy)
    rw [List.map_cons, Lib.join_length]
    simp only [List.length_map, List.length_cons, List.length_nil, List.map_cons] at *
    omega
theorem join75D {l : List (List UInt8)} (hne : l ≠ []) (h1 : l.length ≤ 140737488355328) (h2 : (Lib.join l [32]).length ≤ 140737488355328) : PRet VS 71 [.im 1 (l.map seS), .s [32]] (.s (Lib.join l [32])) := by
  refine PRet.pext (vf := v71) rfl ?_
  show joinD [32] (strsOf (l.map strRow)) = _
  rw [strsOf_map]
  cases l with
  | nil => exact absurd rfl hne
  | cons x l => simp only [joinD]; rw [if_pos ⟨h1, h2⟩]
theorem line35 {ws : List Wd} {d : D} (h : Sl 1 (ws.map wdR) d) (hne : ws ≠ []) (hl : ws.length ≤ 1000) (hok : ∀ w ∈ ws, wdOk w) : PRet VS 38 [d] (.s (lineT ws)) := by
  refine .body (vf := v38) rfl rfl ?_
  simp (disch := omega) only [go_sem, Nat.reduceSub, v38, h.n, rep_s]
  refine ⟨by omega, Run.up (fun i st => ∃ l a2 a3 a4 a8 a9 a10 a12 a13 a14 a15, WTo ws l i ∧ st = ⟨[d, .s [], a2, a3, a4, .i .i64 i, .i .i64 ws.length, d, a8, a9, a10, .mu 0 ws.length 0 ws.length, a12, a13, a14, a15], [.ar 1 (l.map seS) (some ws.length) true false]⟩) ws.length ⟨List.replicate ws.length [], .u, .u, .u, .u, .u, .u, .u, .u, .u, .u, ⟨List.length_replicate, fun k hk => by omega⟩, rfl⟩ ?_⟩
  rintro i st hi ⟨l, a2, a3, a4, a8, a9, a10, a12, a13, a14, a15, hv, rfl⟩
  have hll := hv.n
  by_cases hlt : i < ws.length
  · have hlt' : decide ((i : Int) < (ws.length : Int)) = true := by simpa using hlt
    have hst := hv.step hlt
    have hw := hok ws[i]! (by rw [getElem!_pos ws i hlt]; exact List.getElem_mem _)
    cases hwi : ws[i]! with
    | s t =>
      rw [hwi] at hst hw
      simp (disch := omega) only [go_sem, v38l0, h.q, hwi, wdR, wr, hlt', hll, set_s, seS]
      exact ⟨⟨by omega, by omega⟩, ⟨by omega, by omega⟩, hlt, hlt, _, hst, rfl⟩
    | i n =>
      rw [hwi] at hst hw
      simp (disch := omega) only [go_sem, Nat.reduceEqDiff, v38l0, h.q, hwi, wdR, wr, hlt', hll, set_s, c74 (n := n) hw, seS]
      exact ⟨⟨by omega, by omega⟩, ⟨by omega, by omega⟩, hlt, hlt, _, hst, rfl⟩
  · have hlt' : decide ((i : Int) < (ws.length : Int)) = false := by simpa using hlt
    have : i = ws.length := by omega
    subst this
    have hle := hv.end
    have hj : (Lib.join l [32]).length ≤ ws.length * 1001 := by rw [hle]; exact join_le hne hok
    have hne' : l ≠ [] := fun e => hne (List.length_eq_zero_iff.1 (by rw [← hll, e]; rfl))
    have ht : (l.map seS).take ws.length = l.map seS := List.take_of_length_le (by rw [List.length_map, hll]; exact Nat.le_refl _)
    simp (disch := omega) only [go_sem, v38l0, hlt']
    rw [CallQ_p (vf := v71) (ds := [.im 1 (l.map seS), .s [32]]) (H1 := [.ar 1 (l.map seS) (some ws.length) true true]) rfl rfl (join75D hne' (by omega) (by omega)) (by simp only [go_sem, Nat.reduceAdd, hll, ht])]
    simp only [go_sem, Nat.reduceLeDiff, v71]
    refine ⟨by omega, ?_⟩
    rw [lineT, ← hle]
def pad2 (l : List UInt8) : List UInt8 := if l.length < 2 then 48 :: l else l
def monT (m : Int) : List UInt8 := Lib.itoa (yOf m) ++ [45] ++ pad2 (Lib.itoa (m % 12 + 1))
theorem month36 (m : Int) (h : 0 ≤ m ∧ m ≤ 9223372036854775807) : PRet VS 39 [.i .i64 m] (.s (monT m)) := by
  refine .body (vf := v39) rfl rfl ?_
  have e : m.tmod 12 = m % 12 := Int.tmod_eq_emod_of_nonneg h.1
  have hy : i64r (yOf m) := by
    rw [yOf, Int.tdiv_eq_ediv_of_nonneg h.1]
    exact ⟨by omega, by omega⟩
  have h1 : i64r (m % 12 + 1) := ⟨by omega, by omega⟩
  have l1 := Lib.itoa_length_le _ hy.1 hy.2
  have l2 := Lib.itoa_length_le _ h1.1 h1.2
  simp (disch := omega) only [go_sem, Nat.reduceSub, Nat.reduceLeDiff, Int.reduceEq, v39, e, wr, c74 h1, c40 h, c74 hy, monT, pad2]
  refine ⟨fun hl => ⟨by omega, by omega, by omega, ?_⟩, fun hl => ⟨by omega, by omega, ?_⟩⟩
  · rw [if_pos (by omega)]
  · rw [if_neg (by omega)]
open Go.Dm Go.Proofs
theorem CallQ_ext {V : VProg} {f : FuncId} {vf : VFunc} {args : List D} {H H' : Heap} {d : D} {K : CR → Prop} (hf : V.fn f = some vf) (hp : vf.pure = false) (hx : V.ext f args H = some (d, H')) : CallQ V f args H K ↔ K (.ret d H') :=
  CallQ_ret (.of (n := 1) (by simp only [call, hf, hp, hx]))
def bld (t : List UInt8) : Heap := [.hb 81 [.hp 0 0, .yb 1 t.length], .yt 5 t false]
theorem w34a {s : List UInt8} (hne : s ≠ []) (hl : s.length ≤ 140737488355328) {K : CR → Prop} : CallQ VS 37 [.hp 0 0, .s s] [.hb 81 [.np, .nil]] K ↔ K (.ret (.tu [.i .i64 s.length, .ni]) (bld s)) := by
  refine CallQ_ext (vf := v37) rfl rfl ?_
  cases s with
  | nil => exact absurd rfl hne
  | cons c s =>
    show bldW 81 5 [.hp 0 0, .s (c :: s)] [.hb 81 [.np, .nil]] = _
    simp only [bldW, List.getElem?_cons_zero, decide_true, bldOk, Bool.and_self, if_pos hl]
    rfl
theorem w34b {t s : List UInt8} (hl : t.length + s.length ≤ 140737488355328) {K : CR → Prop} : CallQ VS 37 [.hp 0 0, .s s] (bld t) K ↔ K (.ret (.tu [.i .i64 s.length, .ni]) (bld (t ++ s))) := by
  refine CallQ_ext (vf := v37) rfl rfl ?_
  show bldW 81 5 [.hp 0 0, .s s] (bld t) = _
  simp only [bldW, bld, List.getElem?_cons_zero, List.getElem?_cons_succ, decide_true, bldOk, beq_self_eq_true, Bool.and_self, true_and]
  rw [if_pos hl]
  simp
theorem s37 {t : List UInt8} (hne : t ≠ []) {K : CR → Prop} : CallQ VS 40 [.hp 0 0] (bld t) K ↔ K (.ret (.s t) [.hb 81 [.hp 0 0, .yb 1 t.length], .yt 5 t true]) := by
  refine CallQ.beside rfl ?_
  show bldS 81 5 [.hp 0 0] (bld t) = _
  simp only [bldS, bld, List.getElem?_cons_zero, List.getElem?_cons_succ, decide_true, true_and]
  rw [if_pos hne]
  simp
theorem c35 {ws : List Wd} (hne : ws ≠ []) (hl : ws.length ≤ 1000) (hok : ∀ w ∈ ws, wdOk w) {H : Heap} {K : CR → Prop} : CallQ VS 38 [.sv 1 (ws.map wdR)] H K ↔ K (.ret (.s (lineT ws)) H) := by
  have h := line35 (ws := ws) (d := .im 1 (ws.map wdR)) .im hne hl hok
  have hfr : ∀ m, freezeLL (m + 5) H (ws.map wdR) = some (ws.map wdR, H) := fun m => by
    clear h hne hl hok
    induction ws with
    | nil => exact freezeLL_nil _ _
    | cons w ws ih => cases w <;> simp only [List.map_cons, wdR, go_sem, ih]
  rw [CallQ_p (vf := v38) (H1 := H) rfl rfl h (by simp only [go_sem, hfr])]
  exact Iff.rfl
theorem c35b {a : List UInt8} {n : Int} (ha : a.length ≤ 1000) (hn : i64r n) {H : Heap} {K : CR → Prop} : CallQ VS 38 [.sv 1 [[.ifc 9 (.s a)], [.ifc 3 (.i .i64 n)]]] H K ↔ K (.ret (.s (lineT [.s a, .i n])) H) :=
  c35 (ws := [.s a, .i n]) (by simp) (by simp) (fun w hw => by
    simp only [List.mem_cons, List.not_mem_nil, or_false] at hw
    rcases hw with rfl | rfl
    · exact ha
    · exact hn)
theorem c35g {a b c d : List UInt8} {x y z w : Int} (h1 : a.length ≤ 1000) (h2 : b.length ≤ 1000) (h3 : c.length ≤ 1000) (h4 : d.length ≤ 1000) (hx : i64r x) (hy : i64r y) (hz : i64r z) (hw : i64r w) {H : Heap} {K : CR → Prop} :
    CallQ VS 38 [.sv 1 [[.ifc 9 (.s a)], [.ifc 3 (.i .i64 x)], [.ifc 9 (.s b)], [.ifc 3 (.i .i64 y)], [.ifc 9 (.s c)], [.ifc 3 (.i .i64 z)], [.ifc 9 (.s d)], [.ifc 3 (.i .i64 w)]]] H K ↔ K (.ret (.s (lineT [.s a, .i x, .s b, .i y, .s c, .i z, .s d, .i w])) H) :=
  c35 (ws := [.s a, .i x, .s b, .i y, .s c, .i z, .s d, .i w]) (by simp) (by simp) (fun v hv => by
    simp only [List.mem_cons, List.not_mem_nil, or_false] at hv
    rcases hv with rfl | rfl | rfl | rfl | rfl | rfl | rfl | rfl <;> assumption)
theorem c35m {a m b c d : List UInt8} {y z w : Int} (h1 : a.length ≤ 1000) (hm : m.length ≤ 1000) (h2 : b.length ≤ 1000) (h3 : c.length ≤ 1000) (h4 : d.length ≤ 1000) (hy : i64r y) (hz : i64r z) (hw : i64r w) {H : Heap} {K : CR → Prop} :
    CallQ VS 38 [.sv 1 [[.ifc 9 (.s a)], [.ifc 9 (.s m)], [.ifc 9 (.s b)], [.ifc 3 (.i .i64 y)], [.ifc 9 (.s c)], [.ifc 3 (.i .i64 z)], [.ifc 9 (.s d)], [.ifc 3 (.i .i64 w)]]] H K ↔ K (.ret (.s (lineT [.s a, .s m, .s b, .i y, .s c, .i z, .s d, .i w])) H) :=
  c35 (ws := [.s a, .s m, .s b, .i y, .s c, .i z, .s d, .i w]) (by simp) (by simp) (fun v hv => by
    simp only [List.mem_cons, List.not_mem_nil, or_false] at hv
    rcases hv with rfl | rfl | rfl | rfl | rfl | rfl | rfl | rfl <;> assumption)
theorem lineT_len {ws : List Wd} (hne : ws ≠ []) (hok : ∀ w ∈ ws, wdOk w) : (lineT ws).length ≤ ws.length * 1001 + 1 := by
  have := join_le hne hok
  simp only [lineT, List.length_append, List.length_cons, List.length_nil]
  omega
theorem lineT_ne {ws : List Wd} : lineT ws ≠ [] := by simp [lineT]
def kStatement : List UInt8 := [115, 116, 97, 116, 101, 109, 101, 110, 116]
def kBefore : List UInt8 := [98, 101, 102, 111, 114, 101]
def kMonth : List UInt8 := [109, 111, 110, 116, 104]
def kDue : List UInt8 := [100, 117, 101]
def kPosted : List UInt8 := [112, 111, 115, 116, 101, 100]
def kOpen : List UInt8 := [111, 112, 101, 110]
def kGross : List UInt8 := [103, 114, 111, 115, 115]
def kTax : List UInt8 := [116, 97, 120]
def kNet : List UInt8 := [110, 101, 116]
def kInterest : List UInt8 := [105, 110, 116, 101, 114, 101, 115, 116]
def kAfter : List UInt8 := [97, 102, 116, 101, 114]
def lnT (x : Ln) : List UInt8 := lineT [.s kMonth, .s (monT x.m), .s kDue, .i x.d, .s kPosted, .i x.p, .s kOpen, .i x.o]
def lnsT (l : List Ln) (i : Nat) : List UInt8 := ((l.take i).map lnT).flatten
theorem lnsT_succ {l : List Ln} {i : Nat} (hi : i < l.length) : lnsT l (i + 1) = lnsT l i ++ lnT l[i]! := by
  unfold lnsT
  rw [List.take_succ_eq_append_getElem hi, List.map_append, List.flatten_append, getElem!_pos l i hi]
  simp
def headT (s : Stm) : List UInt8 := lineT [.s kStatement, .i s.y] ++ lineT [.s kBefore, .i s.b]
def textT (s : Stm) : List UInt8 := headT s ++ lnsT s.ls s.ls.length ++ lineT [.s kGross, .i s.g, .s kTax, .i s.t, .s kNet, .i s.n, .s kInterest, .i s.i] ++ lineT [.s kAfter, .i s.a]
theorem i64_nr {n : Int} (h : nr n = true) : i64r n := by
  rw [nr_i] at h
  exact ⟨by omega, by omega⟩
theorem monT_len {m : Int} (h : 0 ≤ m ∧ m ≤ 9223372036854775807) : (monT m).length ≤ 1000 := by
  have hy : i64r (yOf m) := by
    rw [yOf, Int.tdiv_eq_ediv_of_nonneg h.1]
    exact ⟨by omega, by omega⟩
  have h1 : i64r (m % 12 + 1) := ⟨by omega, by omega⟩
  have l1 := Lib.itoa_length_le _ hy.1 hy.2
  have l2 := Lib.itoa_length_le _ h1.1 h1.2
  simp only [monT, pad2, List.length_append, List.length_cons, List.length_nil]
  split <;> simp <;> omega
@[go_sem] theorem c36 {m : Int} {H : Heap} {K : CR → Prop} (h : 0 ≤ m ∧ m ≤ 9223372036854775807) : CallQ VS 39 [.i .i64 m] H K ↔ K (.ret (.s (monT m)) H) :=
  (month36 m h).c (vf := v39) rfl rfl rfl (.inl rfl)
structure LnFit (x : Ln) : Prop where
  m : 0 ≤ x.m ∧ x.m ≤ 9223372036854775807
  d : i64r x.d
  p : i64r x.p
  o : i64r x.o
theorem lnT_len {x : Ln} (h : LnFit x) : (lnT x).length ≤ 10000 := by
  refine Nat.le_trans (lineT_len (by simp) fun w hw => ?_) (by simp)
  simp only [List.mem_cons, List.not_mem_nil, or_false] at hw
  rcases hw with rfl | rfl | rfl | rfl | rfl | rfl | rfl | rfl
  · exact (by decide : kMonth.length ≤ 1000)
  · exact monT_len h.m
  · exact (by decide : kDue.length ≤ 1000)
  · exact h.d
  · exact (by decide : kPosted.length ≤ 1000)
  · exact h.p
  · exact (by decide : kOpen.length ≤ 1000)
  · exact h.o
theorem RightS.fit {s : Stm} (r : RightS s) {i : Nat} (hi : i < s.ls.length) : LnFit s.ls[i]! := by
  have h := r.lns.h i hi
  have h1 := h.m0
  have h2 := h.m1
  have hy := r.y
  rw [yOf, Int.tdiv_eq_ediv_of_nonneg h1] at h2
  simp only [isY, Bool.and_eq_true, decide_eq_true_eq] at hy
  exact ⟨⟨h1, by omega⟩, ⟨by have := h.d; omega, by have := h.d; omega⟩, i64_nr h.p, i64_nr h.o⟩
theorem lnsT_len {s : Stm} (r : RightS s) : ∀ i, i ≤ s.ls.length → (lnsT s.ls i).length ≤ 10000 * i
  | 0, _ => by simp [lnsT]
  | i + 1, h => by
    have ih := lnsT_len r i (by omega)
    have hx := lnT_len (r.fit (i := i) (by omega))
    rw [lnsT_succ (by omega), List.length_append]
    omega
theorem text14 {s : Stm} {d : D} (h : IsStm s d) (hr : Rng s) : PRet VS 16 [d] (.tu [.s (if RightS s then textT s else []), .i .i64 (if RightS s then 0 else 2)]) := by
  have hpl := h.plain
  have h15 := right15 h hr
  obtain ⟨⟨x, rfl, h⟩⟩ := h
  have c15 : ∀ {H : Heap} {K : CR → Prop}, CallQ VS 36 [stD s x] H K ↔ K (.ret (.b (decide (RightS s))) H) := h15.c (vf := v36) rfl rfl (by simp [hpl]) (.inl rfl)
  refine .body (vf := v16) rfl rfl ?_
  simp only [stD] at c15
  by_cases hright : RightS s
  case neg => simp only [go_sem, Nat.reduceAdd, Nat.reduceSub, v16, stD, c15, hright]
  have hs := hright.sums
  simp only [Bool.and_eq_true] at hs
  obtain ⟨⟨⟨⟨⟨sb, sa⟩, sg⟩, st⟩, sn⟩, si⟩ := hs
  have sb := i64_nr sb
  have sa := i64_nr sa
  have sg := i64_nr sg
  have st := i64_nr st
  have sn := i64_nr sn
  have si := i64_nr si
  have sy : i64r s.y := by
    have hy := hright.y
    simp only [isY, Bool.and_eq_true, decide_eq_true_eq] at hy
    exact ⟨by omega, by omega⟩
  have l1 : (lineT [.s kStatement, .i s.y]).length ≤ 3000 := Nat.le_trans (lineT_len (by simp) (by simp [wdOk, kStatement, sy])) (by simp)
  have l2 : (lineT [.s kBefore, .i s.b]).length ≤ 3000 := Nat.le_trans (lineT_len (by simp) (by simp [wdOk, kBefore, sb])) (by simp)
  have l3 : (lineT [.s kGross, .i s.g, .s kTax, .i s.t, .s kNet, .i s.n, .s kInterest, .i s.i]).length ≤ 10000 := Nat.le_trans (lineT_len (by simp) (by simp [wdOk, kGross, kTax, kNet, kInterest, sg, st, sn, si])) (by simp)
  have l4 : (lineT [.s kAfter, .i s.a]).length ≤ 3000 := Nat.le_trans (lineT_len (by simp) (by simp [wdOk, kAfter, sa])) (by simp)
  have cS : ∀ {H : Heap} {K : CR → Prop}, _ := fun {H K} => c35b (a := kStatement) (n := s.y) (by decide) sy (H := H) (K := K)
  have cB : ∀ {H : Heap} {K : CR → Prop}, _ := fun {H K} => c35b (a := kBefore) (n := s.b) (by decide) sb (H := H) (K := K)
  have cA : ∀ {H : Heap} {K : CR → Prop}, _ := fun {H K} => c35b (a := kAfter) (n := s.a) (by decide) sa (H := H) (K := K)
  have cG : ∀ {H : Heap} {K : CR → Prop}, _ := fun {H K} => c35g (a := kGross) (b := kTax) (c := kNet) (d := kInterest) (by decide) (by decide) (by decide) (by decide) sg st sn si (H := H) (K := K)
  have w1 : ∀ {K : CR → Prop}, _ := fun {K} => w34a (s := lineT [.s kStatement, .i s.y]) lineT_ne (by omega) (K := K)
  simp (disch := omega) only [kStatement, kBefore, kAfter, kGross, kTax, kNet, kInterest] at cS cB cA cG w1 l1 l2 l3 l4
  simp (disch := omega) only [go_sem, Nat.reduceAdd, Nat.reduceSub, Nat.reduceLeDiff, Nat.reduceLT, v16, stD, c15, hright, cS, cB, w1, w34b, h.n]
  refine Run.up (fun i st => ∃ a4 a10, st = ⟨[stD s x, .s [], .i .i64 0, .b false, a4, .bx [.i .i64 s.y, .i .i64 s.b, .i .i64 s.a, x, .i .i64 s.g, .i .i64 s.t, .i .i64 s.n, .i .i64 s.i], .hp 0 0, .i .i64 i, .i .i64 s.ls.length, x, a10], bld (headT s ++ lnsT s.ls i)⟩) s.ls.length ⟨.u, .u, ?_⟩ ?_
  · simp [headT, lnsT, kStatement, kBefore, stD]
  rintro i st hi ⟨a4, a10, rfl⟩
  have lH : (headT s).length ≤ 6000 := by
    simp only [headT, kStatement, kBefore, List.length_append]; omega
  have lL := lnsT_len hright i hi
  have hlen := hright.len
  by_cases hlt : i < s.ls.length
  · have hlt' : decide ((i : Int) < (s.ls.length : Int)) = true := by simpa using hlt
    have hf := hright.fit hlt
    have lx := lnT_len hf
    have cM : ∀ {H : Heap} {K : CR → Prop}, _ := fun {H K} => c35m (a := kMonth) (m := monT s.ls[i]!.m) (b := kDue) (c := kPosted) (d := kOpen) (by decide) (monT_len hf.m) (by decide) (by decide) (by decide) hf.d hf.p hf.o (H := H) (K := K)
    have w2 : ∀ {K : CR → Prop}, _ := fun {K} => w34b (t := headT s ++ lnsT s.ls i) (s := lnT s.ls[i]!) (by rw [List.length_append]; omega) (K := K)
    simp only [kMonth, kDue, kPosted, kOpen, lnT] at cM w2
    have c36' : ∀ {H : Heap} {K : CR → Prop}, _ := fun {H K} => c36 (m := s.ls[i]!.m) (H := H) (K := K) hf.m
    simp (disch := omega) only [go_sem, Nat.reduceAdd, Nat.reduceLeDiff, Nat.reduceLT, v16l0, h.q, lnR, wr, hlt', c36', cM, w2]
    refine ⟨⟨by omega, by omega⟩, hlt, ?_⟩
    rw [lnsT_succ hlt, lnT]
    simp only [kMonth, kDue, kPosted, kOpen]
  · have hlt' : decide ((i : Int) < (s.ls.length : Int)) = false := by simpa using hlt
    have : i = s.ls.length := by omega
    subst this
    have hL : (headT s ++ lnsT s.ls s.ls.length).length ≤ 126000 := by rw [List.length_append]; omega
    have w3 : ∀ {K : CR → Prop}, _ := fun {K} => w34b (t := headT s ++ lnsT s.ls s.ls.length) (s := lineT [.s kGross, .i s.g, .s kTax, .i s.t, .s kNet, .i s.n, .s kInterest, .i s.i]) (by simp only [kGross, kTax, kNet, kInterest]; omega) (K := K)
    have w4 : ∀ {K : CR → Prop}, _ := fun {K} => w34b (t := headT s ++ (lnsT s.ls s.ls.length ++ lineT [.s kGross, .i s.g, .s kTax, .i s.t, .s kNet, .i s.n, .s kInterest, .i s.i])) (s := lineT [.s kAfter, .i s.a]) (by rw [← List.append_assoc, List.length_append]; simp only [kGross, kTax, kNet, kInterest, kAfter]; omega) (K := K)
    have s1 : ∀ {K : CR → Prop}, _ := fun {K} => s37 (t := textT s) (by simp [textT, lineT]) (K := K)
    simp only [textT, kGross, kTax, kNet, kInterest, kAfter, List.append_assoc] at w3 w4 s1
    simp (disch := omega) only [go_sem, Nat.reduceAdd, Nat.reduceLeDiff, Nat.reduceLT, v16l0, hlt', cG, cA, w3, w4, s1, textT, kGross, kTax, kNet, kInterest, kAfter]
end Go.Proofs.YtnhbopeopppojaaGreatDoor.Dv
