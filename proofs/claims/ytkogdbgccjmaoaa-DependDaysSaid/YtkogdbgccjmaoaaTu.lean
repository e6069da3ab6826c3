/-
  DependDays over the machine.
-/
import Derived.Test.YtkogdbgccjmaoaaTi
namespace Go.Proofs.Ytkogdbgccjmaoaa.Dv
open Go.Dm

theorem bin_shr1 (x : Int) : bin .shr (.i .u64 x) (.i .u64 1) = some (.i .u64 (x / 2)) := by
  have : (1 : Int).toNat = 1 := rfl
  simp only [bin, shiftI, IntKind.bits, this]
  rw [if_neg (by omega), show min 1 64 = 1 from rfl, Int.pow_one, Int.fdiv_eq_ediv_of_nonneg _ (by omega)]

section
variable {l : List (Int × Int)} {d : D} {day : Int}
/-- The heap of a search: the list's box, the day's. -/
abbrev H2 (d : D) (day : Int) : Heap := [.bx [d], .bx [.i .i64 day]]

theorem c76 (h : Sl 2 (l.map spR) d) {i : Nat} (hi : i < l.length) (K : CR → Prop) : CallQ V 76 [.i .i64 i, .hp 0 0, .hp 1 0] (H2 d day) K ↔ K (.ret (.b (decide (day < l[i]!.2))) (H2 d day)) := by
  refine CallQ_ret (Ret.iff_q.2 (.body (vf := v76) rfl rfl rfl ?_))
  simp (disch := omega) only [go_sem, Nat.reduceAdd, Nat.reduceSub, Nat.reduceLeDiff, Nat.reduceLT, v76, h.q, h.under, spR, H2]
  grind

/-- Where a search stops. -/
structure Found (l : List (Int × Int)) (day : Int) (r : Nat) : Prop where
  le : r ≤ l.length
  lo : 0 < r → l[r - 1]!.2 ≤ day
  hi : r < l.length → day < l[r]!.2

theorem search75 (h : Sl 2 (l.map spR) d) (hl : l.length ≤ 1000000) : CallQ V 75 [.i .i64 l.length, .fn (.func 76) [] [.hp 0 0, .hp 1 0]] (H2 d day) (fun q => ∃ r : Nat, Found l day r ∧ q = .ret (.i .i64 r) (H2 d day)) := by
  refine .body (vf := v75) rfl rfl rfl ?_
  simp only [go_sem, Nat.reduceSub, v75]
  refine Run.loop (fun m s => ∃ (i j : Nat) (a3 a4 a7 : D), m = j - i ∧ i ≤ j ∧ j ≤ l.length ∧ (0 < i → l[i - 1]!.2 ≤ day) ∧ (j < l.length → day < l[j]!.2) ∧ s = ⟨[.i .i64 l.length, .fn (.func 76) [] [.hp 0 0, .hp 1 0], .i .i64 0, a3, a4, .i .i64 i, .i .i64 j, a7], H2 d day⟩) l.length ⟨0, l.length, .u, .u, .u, rfl, by omega, by omega, by omega, by omega, rfl⟩ ?_
  rintro m s ⟨i, j, a3, a4, a7, rfl, hij, hj, h1, h2, rfl⟩
  by_cases hlt : i < j
  · have hlt' : decide ((i : Int) < (j : Int)) = true := by simpa using hlt
    have w1 : IntKind.i64.wrap ((i : Int) + j) = (i : Int) + j := wr (by omega) (by omega)
    have w2 : IntKind.u64.wrap ((i : Int) + j) = (i : Int) + j := by simp [IntKind.wrap, IntKind.bits, IntKind.signed]; omega
    have w3 : IntKind.i64.wrap (((i : Int) + j) / 2) = (((i + j) / 2 : Nat) : Int) := by rw [wr (by omega) (by omega)]; omega
    have w4 : IntKind.i64.wrap ((((i + j) / 2 : Nat) : Int) + 1) = (((i + j) / 2 + 1 : Nat) : Int) := by rw [wr (by omega) (by omega)]; omega
    have c := fun K => c76 (day := day) h (i := (i + j) / 2) (by omega) K
    cases hb : decide (day < l[(i + j) / 2]!.2) with
    | true =>
      simp only [go_sem, v75l0, hlt', w1, w2, bin_shr1, w3, c, hb]
      exact ⟨(i + j) / 2 - i, by omega, i, (i + j) / 2, rfl, by omega, by omega, h1, fun _ => by simpa using hb, rfl, rfl⟩
    | false =>
      simp only [go_sem, v75l0, hlt', w1, w2, bin_shr1, w3, c, hb, w4]
      exact ⟨j - ((i + j) / 2 + 1), by omega, (i + j) / 2 + 1, j, rfl, by omega, by omega, fun _ => by simpa using hb, h2, rfl, rfl⟩
  · have hlt' : decide ((i : Int) < (j : Int)) = false := by simp; omega
    have he : i = j := by omega
    subst he
    simp only [go_sem, v75l0, hlt']
    exact ⟨i, ⟨hj, h1, h2⟩, rfl⟩

theorem find56 (h : Sl 2 (l.map spR) d) (hl : l.length ≤ 1000000) : PurQ V 56 [d, .i .i64 day] (fun q => ∃ r : Nat, Found l day r ∧ q = .ret (.i .i64 r)) := by
  refine .body (vf := v56) rfl rfl ?_
  have hc := h.c1
  simp only [go_sem, Nat.reduceSub, v56, hc, h.n]
  refine (search75 h hl).mono ?_
  rintro _ ⟨r, hr, rfl⟩
  simp only [go_sem]
  exact ⟨r, hr, rfl⟩

noncomputable instance (l : List (Int × Int)) (k : Int) : Decidable (memL l k) := Classical.propDecidable _

theorem memL_at {l : List (Int × Int)} {k : Int} : memL l k ↔ ∃ i, i < l.length ∧ l[i]!.1 ≤ k ∧ k < l[i]!.2 := by
  constructor
  · rintro ⟨p, hp, h1, h2⟩
    obtain ⟨i, hi, rfl⟩ := List.getElem_of_mem hp
    exact ⟨i, hi, by rw [getElem!_pos l i hi]; exact ⟨h1, h2⟩⟩
  · rintro ⟨i, hi, h⟩
    rw [getElem!_pos l i hi] at h
    exact ⟨l[i], List.getElem_mem hi, h⟩
theorem valid_mono {l : List (Int × Int)} (h : validL l) : ∀ j, j < l.length → ∀ i, i < j → l[i]!.2 < l[j]!.1 ∧ l[i]!.2 < l[j]!.2 := by
  intro j
  induction j with
  | zero => intro _ i hi; omega
  | succ j ih =>
    intro hj i hi
    have a := (h.h (j + 1) hj).b (by omega)
    have b := (h.h (j + 1) hj).r
    have c := (h.h (j + 1) hj).n
    simp only [isSp, decide_eq_true_eq] at b
    simp only [Nat.add_sub_cancel] at a
    by_cases e : i = j
    · subst e; omega
    · have := ih (by omega) i (by omega)
      omega
theorem found_mem {l : List (Int × Int)} (h : validL l) {day : Int} {r : Nat} (hr : Found l day r) : (r < l.length ∧ l[r]!.1 ≤ day) ↔ memL l day := by
  rw [memL_at]
  constructor
  · rintro ⟨h1, h2⟩
    exact ⟨r, h1, h2, hr.hi h1⟩
  · rintro ⟨i, hi, h1, h2⟩
    have e : i = r := by
      rcases Nat.lt_trichotomy i r with g | g | g
      · exfalso
        have a := hr.lo (by omega)
        have b := hr.le
        by_cases e : i = r - 1
        · subst e; omega
        · have := valid_mono h (r - 1) (by omega) i (by omega)
          omega
      · exact g
      · exfalso
        have a := hr.hi (by omega)
        have := valid_mono h i hi r g
        omega
    subst e
    exact ⟨hi, h1⟩

theorem has29 (h : Sl 2 (l.map spR) d) (hl : l.length ≤ 1000000) : PRet V 29 [d, .i .i64 day] (.b (decide (validL l ∧ memL l day))) := by
  refine .body (vf := v29) rfl rfl ?_
  have e55 : ∀ H K, CallQ V 55 [d] H K ↔ K (.ret (.b (decide (validL l))) H) := fun H K => (valid55 h (by omega)).c (vf := v55) rfl rfl (by simp only [go_sem, h.pl]) (.inl rfl)
  by_cases hv : validL l
  · have hv' : decide (validL l) = true := by simpa using hv
    simp only [go_sem, Nat.reduceSub, v29, e55, hv']
    refine CallQ.pl (vf := v56) rfl rfl rfl (by simp only [go_sem, h.pl]) ((find56 h hl).mono ?_)
    rintro _ ⟨r, hr, rfl⟩
    have hm := found_mem hv hr
    by_cases hlt : r < l.length
    · have hlt' : decide ((r : Int) < (l.length : Int)) = true := by simpa using hlt
      simp (disch := omega) only [go_sem, Nat.reduceAdd, Nat.reduceLeDiff, h.n, hlt', h.q, spR]
      grind
    · have hlt' : decide ((r : Int) < (l.length : Int)) = false := by simpa using hlt
      simp only [go_sem, h.n, hlt']
      grind
  · have hv' : decide (validL l) = false := by simpa using hv
    simp only [go_sem, Nat.reduceSub, v29, e55, hv']
    grind
end
end Go.Proofs.Ytkogdbgccjmaoaa.Dv
