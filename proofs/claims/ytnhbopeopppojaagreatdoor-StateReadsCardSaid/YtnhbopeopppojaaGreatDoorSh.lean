/-
  Layer 39's laws over the machine: the same statement; StateBack, StateOnly.
-/
import Derived.Test.YtnhbopeopppojaaGreatDoorSg
namespace Go.Proofs.YtnhbopeopppojaaGreatDoor.Dv
open Go.Dm Go.Proofs

theorem eqv_ln {neg : Bool} {x y : Ln} : eqvD neg (.st [1, 1, 1, 1]) (.ag [.i .i64 x.m, .i .i64 x.d, .i .i64 x.p, .i .i64 x.o]) (.ag [.i .i64 y.m, .i .i64 y.d, .i .i64 y.p, .i .i64 y.o]) = some (.b (decide (x = y) != neg)) := by
  obtain ⟨m, d, p, o⟩ := x
  obtain ⟨m', d', p', o'⟩ := y
  simp only [eqvD, deq, cellsEq, kindIs, cellEq, if_true]
  by_cases h1 : m = m'
  · by_cases h2 : d = d'
    · by_cases h3 : p = p'
      · by_cases h4 : o = o'
        · simp [h1, h2, h3, h4]
        · have : (o == o') = false := by simpa using h4
          simp [h1, h2, h3, h4, this]
      · have : (p == p') = false := by simpa using h3
        simp [h1, h2, h3, this]
    · have : (d == d') = false := by simpa using h2
      simp [h1, h2, this]
  · have : (m == m') = false := by simpa using h1
    simp [h1, this]
structure eqTo (l l' : List Ln) (i : Nat) : Prop where
  h : ∀ k, k < i → l[k]! = l'[k]!
theorem et_succ {l l' : List Ln} {i : Nat} : eqTo l l' (i + 1) ↔ eqTo l l' i ∧ l[i]! = l'[i]! := by
  refine ⟨fun h => ⟨⟨fun k hk => h.h k (by omega)⟩, h.h i (by omega)⟩, fun h => ⟨fun k hk => ?_⟩⟩
  by_cases e : k = i
  · subst e; exact h.2
  · exact h.1.h k (by omega)
theorem et_all {l l' : List Ln} (hl : l.length = l'.length) : eqTo l l' l.length ↔ l = l' := by
  constructor
  · intro h
    refine List.ext_getElem hl fun k h1 h2 => ?_
    have := h.h k h1
    rwa [getElem!_pos l k h1, getElem!_pos l' k h2] at this
  · rintro rfl
    exact ⟨fun _ _ => rfl⟩
set_option maxRecDepth 100000 in
theorem same17 {s s' : Stm} {d d' : D} (h : IsStm s d) (h' : IsStm s' d') (hl : s.ls.length ≤ 1000000) : PRet VS 12 [d, d'] (.b (decide (s = s'))) := by
  obtain ⟨⟨x, rfl, h⟩⟩ := h
  obtain ⟨⟨x', rfl, h'⟩⟩ := h'
  refine .body (vf := v12) rfl rfl ?_
  have hsame : ∀ {H : Heap}, lenD H 1 x = some (.i .i64 s.ls.length) := h.n
  by_cases hy : s.y = s'.y ∧ s.b = s'.b ∧ s.a = s'.a ∧ s.g = s'.g ∧ s.t = s'.t ∧ s.n = s'.n ∧ s.i = s'.i ∧ s.ls.length = s'.ls.length
  case neg =>
    have hne : ¬ s = s' := fun e => by subst e; exact hy ⟨rfl, rfl, rfl, rfl, rfl, rfl, rfl, rfl⟩
    rw [decide_eq_false hne]
    simp only [go_sem, Nat.reduceAdd, Nat.reduceSub, Nat.reduceLeDiff, v12, stD, h.n, h'.n]
    grind
  · obtain ⟨e1, e2, e3, e4, e5, e6, e7, e8⟩ := hy
    have hiff : s = s' ↔ s.ls = s'.ls := by
      obtain ⟨_, _, _, _, _, _, _, _⟩ := s
      obtain ⟨_, _, _, _, _, _, _, _⟩ := s'
      simp only at e1 e2 e3 e4 e5 e6 e7
      subst e1 e2 e3 e4 e5 e6 e7
      simp
    simp only [go_sem, Nat.reduceAdd, Nat.reduceSub, Nat.reduceLeDiff, v12, stD, h.n, h'.n, e1, e2, e3, e4, e5, e6, e7, e8]
    refine Run.up (fun i st => eqTo s.ls s'.ls i ∧ ∃ a3 a4 a5, st = ⟨[stD s x, stD s' x', .b false, a3, a4, a5, .bx [.i .i64 s.y, .i .i64 s.b, .i .i64 s.a, x, .i .i64 s.g, .i .i64 s.t, .i .i64 s.n, .i .i64 s.i], .bx [.i .i64 s'.y, .i .i64 s'.b, .i .i64 s'.a, x', .i .i64 s'.g, .i .i64 s'.t, .i .i64 s'.n, .i .i64 s'.i], .i .i64 i], []⟩) s.ls.length ⟨⟨fun k hk => by omega⟩, ?_⟩ ?_
    · simp only [stD, e1, e2, e3, e4, e5, e6, e7]
      exact ⟨_, _, _, rfl⟩
    rintro i st hi ⟨hv, a3, a4, a5, rfl⟩
    have e9 : i < s.ls.length → s.ls[i]! ≠ s'.ls[i]! → s ≠ s' := fun hlt hne e => hne (by rw [hiff.1 e])
    have e10 : eqTo s.ls s'.ls s.ls.length → s = s' := fun hh => hiff.2 ((et_all e8).1 hh)
    simp (disch := omega) only [go_sem, Nat.reduceAdd, Nat.reduceLeDiff, v12l0, h.q, h'.q, h.n, h.under, h'.under, lnR, wr, eqv_ln, et_succ, hv]
    refine ⟨fun hlt => ⟨⟨by omega, by omega⟩, ⟨by omega, by omega⟩, fun hc => ?_, fun hc => ⟨by omega, ?_⟩⟩, fun hlt => ?_⟩
    · exact (decide_eq_false (e9 (by omega) (by simpa using hc))).symm
    · simpa using hc
    · have : i = s.ls.length := by omega
      subst this
      exact (decide_eq_true (e10 hv)).symm
theorem c17 {s s' : Stm} {d d' : D} (h : IsStm s d) (h' : IsStm s' d') (hl : s.ls.length ≤ 1000000) {H : Heap} {K : CR → Prop} : CallQ VS 12 [d, d'] H K ↔ K (.ret (.b (decide (s = s'))) H) :=
  (same17 h h' hl).c (vf := v12) rfl rfl (by simp [h.plain, h'.plain]) (.inl rfl)
theorem c12 {H : Heap} {K : CR → Prop} : CallQ VS 6 [] H K ↔ K (.ret (.b true) H) :=
  PRet.c (vf := v6) ⟨400, awakeRun⟩ rfl rfl rfl (.inl rfl)
theorem c15 {s : Stm} {d : D} (h : IsStm s d) (hr : Rng s) {H : Heap} {K : CR → Prop} : CallQ VS 36 [d] H K ↔ K (.ret (.b (decide (RightS s))) H) :=
  (right15 h hr).c (vf := v36) rfl rfl (by simp [h.plain]) (.inl rfl)
theorem c14 {s : Stm} {d : D} (h : IsStm s d) (hr : Rng s) {H : Heap} {K : CR → Prop} : CallQ VS 16 [d] H K ↔ K (.ret (.tu [.s (if RightS s then textT s else []), .i .i64 (if RightS s then 0 else 2)]) H) :=
  CallQ_p (vf := v16) (H1 := H) rfl rfl (text14 h hr) (plain_freezeL (fun d hd => by rw [List.mem_singleton.1 hd]; exact h.plain))
theorem RdS.det {t : List UInt8} {d : D} (h : RdS t d) : d = match readS t with
  | some s => .tu [stD s (lsD s.ls), .i .i64 0]
  | none => .tu [stD zS .nil, .i .i64 390] := by
  unfold RdS at h
  cases hr : readS t with
  | some s => rw [hr] at h; exact h
  | none => rw [hr] at h; exact h
/-- What Read returns. -/
noncomputable def readD (t : List UInt8) : D := match readS t with
  | some s => .tu [stD s (lsD s.ls), .i .i64 0]
  | none => .tu [stD zS .nil, .i .i64 390]
theorem c16 {t : List UInt8} (hl : t.length ≤ 1000000) {H : Heap} {K : CR → Prop} : CallQ VS 10 [.s t] H K ↔ K (.ret (readD t) H) := by
  refine CallQ_p (vf := v10) (H1 := H) rfl rfl (PRet.iff_q.2 ((read16 hl).mono ?_)) (by simp only [go_sem, Nat.reduceAdd])
  rintro r ⟨d, rfl, h⟩
  rw [h.det]
theorem RightS.rng {s : Stm} (r : RightS s) : Rng s := ⟨fun x hx => by
  obtain ⟨k, hk, rfl⟩ := List.mem_iff_getElem.1 hx
  have := (r.fit hk).m
  rw [getElem!_pos s.ls k hk] at this
  omega⟩
theorem textT_len {s : Stm} (r : RightS s) : (textT s).length ≤ 200000 := by
  have hs := r.sums
  simp only [Bool.and_eq_true] at hs
  obtain ⟨⟨⟨⟨⟨sb, sa⟩, sg⟩, st⟩, sn⟩, si⟩ := hs
  have sb := i64_nr sb
  have sa := i64_nr sa
  have sg := i64_nr sg
  have st := i64_nr st
  have sn := i64_nr sn
  have si := i64_nr si
  have sy : i64r s.y := by
    have hy := r.y
    simp only [isY, Bool.and_eq_true, decide_eq_true_eq] at hy
    exact ⟨by omega, by omega⟩
  have l1 : (lineT [.s kStatement, .i s.y]).length ≤ 3000 := Nat.le_trans (lineT_len (by simp) (by simp [wdOk, kStatement, sy])) (by simp)
  have l2 : (lineT [.s kBefore, .i s.b]).length ≤ 3000 := Nat.le_trans (lineT_len (by simp) (by simp [wdOk, kBefore, sb])) (by simp)
  have l3 : (lineT [.s kGross, .i s.g, .s kTax, .i s.t, .s kNet, .i s.n, .s kInterest, .i s.i]).length ≤ 10000 := Nat.le_trans (lineT_len (by simp) (by simp [wdOk, kGross, kTax, kNet, kInterest, sg, st, sn, si])) (by simp)
  have l4 : (lineT [.s kAfter, .i s.a]).length ≤ 3000 := Nat.le_trans (lineT_len (by simp) (by simp [wdOk, kAfter, sa])) (by simp)
  have l5 := lnsT_len r s.ls.length (Nat.le_refl _)
  have l6 := r.len
  simp only [textT, headT, List.length_append]
  omega

/-! ### The laws -/
end Go.Proofs.YtnhbopeopppojaaGreatDoor.Dv
