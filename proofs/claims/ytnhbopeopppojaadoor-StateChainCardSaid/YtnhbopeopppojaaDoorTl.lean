/-
  Statements of successive years: what Make returns is right; balances, slips and lines add up.
-/
import Derived.Test.YtnhbopeopppojaaDoorTi
namespace Go.Proofs.YtnhbopeopppojaaDoor.Dv
open Go.Dm Go.Proofs

theorem post_in {l : Led} (v : ValL l) {p : Po} (hp : p ∈ l.po) : l.st ≤ p.m ∧ p.m < l.st + l.due.length := by
  have := v.po p hp
  simp only [fitsP, hasL, Bool.and_eq_true, decide_eq_true_eq] at this
  omega
theorem posted_out {l : Led} (v : ValL l) {b : Int} (h : hasL l b = false) : postedL l b = 0 :=
  sw_zero (fun p hp => by
    have := post_in v hp
    simp only [hasL, Bool.and_eq_false_iff, decide_eq_false_iff_not] at h
    unfold postM; rw [if_neg (by omega)]) _ (Nat.le_refl _)
theorem bal_step {l : Led} (v : ValL l) (b : Int) : balL l (b + 1) = balL l b + (if hasL l b = true then (lnOf l b).o else 0) := by
  have hpost : sw (postB (b + 1)) l.po l.po.length = sw (postB b) l.po l.po.length + postedL l b := by
    rw [postedL, sw_add]
    refine sw_congr (fun p _ => ?_) _ (Nat.le_refl _)
    unfold postB postM
    by_cases q : p.m = b
    · rw [if_neg (by omega), if_pos (by omega), if_pos q]; omega
    · rw [if_neg q]
      by_cases r : b ≤ p.m
      · rw [if_pos (by omega), if_pos r]; omega
      · rw [if_neg (by omega), if_neg r]; omega
  unfold balL
  rw [hpost]
  by_cases c : l.st ≤ b ∧ b < l.st + l.due.length
  · have hh : hasL l b = true := by simp only [hasL, Bool.and_eq_true, decide_eq_true_eq]; exact c
    have e : cutN l (b + 1) = cutN l b + 1 := by unfold cutN; omega
    have e2 : cutN l b = (b - l.st).toNat := by unfold cutN; omega
    rw [if_pos hh, e, sw, e2, idw]
    simp only [lnOf]; omega
  · have hh : hasL l b = false := by
      simp only [hasL, Bool.and_eq_false_iff, decide_eq_false_iff_not]; omega
    have e : cutN l (b + 1) = cutN l b := by unfold cutN; omega
    rw [hh, if_neg (by simp), e, posted_out v hh]; omega
def sumO (ls : List Ln) : Int := so ls ls.length
theorem so_app {A B : List Ln} : ∀ i : Nat, i ≤ A.length → so (A ++ B) i = so A i
  | 0, _ => rfl
  | i + 1, h => by
    have e : (A ++ B)[i]! = A[i]! := by
      rw [getElem!_pos (A ++ B) i (by simp; omega), getElem!_pos A i (by omega), List.getElem_append_left]
    rw [so, so, so_app i (by omega), e]
theorem so_snoc {A : List Ln} {x : Ln} : sumO (A ++ [x]) = sumO A + x.o := by
  have e : (A ++ [x])[A.length]! = x := by
    rw [getElem!_pos (A ++ [x]) A.length (by simp)]; simp
  unfold sumO
  rw [List.length_append, List.length_singleton, so, so_app _ (Nat.le_refl _), e]
theorem bal_rl {l : Led} (v : ValL l) (f : Int) : ∀ i : Nat, balL l (f + i) = balL l f + sumO (rl l f i)
  | 0 => by simp [rl, sumO, so]
  | i + 1 => by
    have ih := bal_rl v f i
    have e : f + ((i + 1 : Nat) : Int) = f + i + 1 := by omega
    rw [e, bal_step v, ih, rl]
    split
    · rw [so_snoc]; omega
    · omega
theorem pl_get {l : Led} {a : Int} : ∀ {n k : Nat}, k < n → (pl l a n)[k]! = lnOf l (a + k)
  | 0, k, h => absurd h (Nat.not_lt_zero k)
  | n + 1, k, h => by
    have hl := pl_len (l := l) (a := a) n
    rw [pl]
    by_cases e : k = n
    · subst e
      rw [getElem!_pos _ k (by simp [hl]), List.getElem_append_right (by omega)]
      simp [hl]
    · have ih := pl_get (l := l) (a := a) (n := n) (k := k) (by omega)
      rw [getElem!_pos _ k (by simp [hl]; omega), List.getElem_append_left (by omega)]
      rw [getElem!_pos _ k (by omega)] at ih
      exact ih

/-! ### The interest of all slips -/
theorem intr_n {l : Led} (v : ValL l) {p : Po} (hp : p ∈ l.po) : 0 ≤ intr p ∧ intr p ≤ 1099511627776 := by
  have := v.po p hp
  simp only [fitsP, kPlus, kMinus, Bool.and_eq_true, Bool.or_eq_true, decide_eq_true_eq] at this
  unfold intr
  split <;> omega
theorem intr_mono {l : Led} (v : ValL l) {a : Nat} : ∀ d : Nat, a + d ≤ l.po.length → sw intr l.po a ≤ sw intr l.po (a + d)
  | 0, _ => Int.le_refl _
  | d + 1, h => by
    have ih := intr_mono v (a := a) d (by omega)
    have := intr_n v (p := l.po[a + d]!) (by rw [getElem!_pos l.po _ (by omega)]; exact List.getElem_mem _)
    rw [← Nat.add_assoc, sw]; omega
theorem intr_le {l : Led} (v : ValL l) {a b : Nat} (h : a ≤ b) (hb : b ≤ l.po.length) : sw intr l.po a ≤ sw intr l.po b := by
  have := intr_mono v (a := a) (b - a) (by omega)
  rwa [Nat.add_sub_cancel' h] at this
theorem suml_nil {w : Sp → Int} : suml w [] = 0 := rfl
theorem sw_cons {α : Type} [Inhabited α] {w : α → Int} {x : α} {A : List α} : ∀ i : Nat, sw w (x :: A) (i + 1) = w x + sw w A i
  | 0 => by simp [sw]
  | i + 1 => by
    have ih := sw_cons (w := w) (x := x) (A := A) i
    rw [sw, ih, sw]
    have e : (x :: A)[i + 1]! = A[i]! := by simp
    rw [e]; omega
theorem suml_cons {w : Sp → Int} {x : Sp} {A : List Sp} : suml w (x :: A) = w x + suml w A := sw_cons _
theorem itr_sum {l : Led} (v : ValL l) {q : Sp → Bool} : ∀ {ss : List Sp} {m k t : Int}, slipsF l.po.length ss m k t = true → -1 ≤ m → 0 ≤ t → t ≤ l.po.length → 0 ≤ suml (itr l) (ss.filter q) ∧ suml (itr l) (ss.filter q) ≤ sw intr l.po l.po.length - sw intr l.po t.toNat
  | [], m, k, t, _, _, ht, htn => by
    have := intr_le v (a := t.toNat) (b := l.po.length) (by omega) (Nat.le_refl _)
    simp only [List.filter_nil, suml_nil]; omega
  | x :: ss, m, k, t, h, hm, ht, htn => by
    simp only [slipsF, slipF, amt, taxy, Bool.and_eq_true, decide_eq_true_eq] at h
    obtain ⟨⟨⟨⟨⟨⟨⟨a1, a2⟩, a3⟩, a4⟩, a5⟩, a6⟩, a7⟩, hr⟩ := h
    have ih := itr_sum v (q := q) hr (by omega) (by omega) a5
    have m1 := intr_le v (a := t.toNat) (b := x.f.toNat) (by omega) (by omega)
    have m2 := intr_le v (a := x.f.toNat) (b := x.t.toNat) (by omega) (by omega)
    rw [List.filter_cons]
    split
    · rw [suml_cons]; unfold itr at *; omega
    · omega

/-! ### What Make returns is right -/
theorem make_right {s : RSt} (hv : validR s = true) (hp : s.l.po.length ≤ 150) {y : Int} (hy : isY y = true) : RightS (makeS s y) := by
  have v := validR_v hv
  have hyr := (isY_r hy).h
  have hst := v.v.r.st
  have hle := v.v.n
  have b1 := balL_b v.v (12 * (y - 1900))
  have b2 := balL_b v.v (12 * (y - 1900) + 12)
  have hmem : ∀ p ∈ slY s y, p ∈ s.sl := fun p hp => (List.mem_filter.1 hp).1
  have hl1 : (slY s y).length ≤ 1200 := Nat.le_trans (List.length_filter_le _ _) v.n
  have b3 := sw_b (w := fun p : Sp => p.g) (l := slY s y) (B := 1099511627776) (fun p hp => by have := (v.s p (hmem p hp)).g; omega) _ (Nat.le_refl _)
  have b4 := sw_b (w := fun p : Sp => p.x) (l := slY s y) (B := 1099511627776) (fun p hp => by have := (v.s p (hmem p hp)).x; omega) _ (Nat.le_refl _)
  have hsf : slipsF s.l.po.length s.sl (-1) (-1) 0 = true := by
    simp only [validR, Bool.and_eq_true] at hv
    exact hv.2
  have b5 := itr_sum v.v (q := inY y) hsf (by omega) (by omega) (by omega)
  have b6 := sw_b (w := intr) (l := s.l.po) (B := 1099511627776) (fun p hp => by have := intr_n v.v hp; omega) _ (Nat.le_refl _)
  have e0 : sw intr s.l.po (0 : Int).toNat = 0 := rfl
  rw [e0] at b5
  have hN : yN s.l y ≤ 12 := by unfold yN yTo yFrom; omega
  have hpl := pl_len (l := s.l) (a := yFrom s.l y) (yN s.l y)
  refine ⟨hy, ?_, ?_, rfl, ⟨fun k hk => ?_⟩, ?_⟩
  · show (pl s.l (yFrom s.l y) (yN s.l y)).length ≤ 12
    omega
  · simp only [Bool.and_eq_true, nr_i]
    simp only [makeS, suml]
    simp only [slY] at b3 b4 hl1 ⊢
    simp only [suml] at b5
    omega
  · have hk' : k < yN s.l y := by
      have : (makeS s y).ls.length = yN s.l y := hpl
      omega
    have hg : (makeS s y).ls[k]! = lnOf s.l (yFrom s.l y + k) := pl_get hk'
    have hF : 12 * (y - 1900) ≤ yFrom s.l y ∧ s.l.st ≤ yFrom s.l y := by unfold yFrom; omega
    have hT : yFrom s.l y + k < yTo s.l y := by unfold yN at hk'; omega
    have hT2 : yTo s.l y ≤ 12 * (y - 1900) + 12 ∧ yTo s.l y ≤ s.l.st + s.l.due.length := by unfold yTo; omega
    have hidx : (yFrom s.l y + k - s.l.st).toNat < s.l.due.length := by omega
    have hd := v.v.due s.l.due[(yFrom s.l y + k - s.l.st).toNat]! (by rw [getElem!_pos s.l.due _ hidx]; exact List.getElem_mem _)
    have hpb := posted_b v.v (yFrom s.l y + k)
    refine ⟨?_, ?_, fun hpos => ?_, ?_, ?_, ?_, ?_⟩
    · rw [hg]; simp only [lnOf]; omega
    · rw [hg]
      simp only [lnOf]
      have : yOf (yFrom s.l y + k) = 1900 + (yFrom s.l y + k) / 12 := by unfold yOf; rw [Int.tdiv_eq_ediv_of_nonneg (by omega)]
      show yOf (yFrom s.l y + k) = y
      rw [this]; omega
    · have hg2 : (makeS s y).ls[k - 1]! = lnOf s.l (yFrom s.l y + ((k - 1 : Nat) : Int)) := pl_get (by omega)
      rw [hg, hg2]; simp only [lnOf]; omega
    · rw [hg]; exact hd
    · rw [hg, nr_i]; simp only [lnOf]; omega
    · rw [hg, nr_i]; simp only [lnOf]; omega
    · rw [hg]; rfl
  · have := bal_rl v.v (12 * (y - 1900)) 12
    rw [rl_all] at this
    exact this

/-! ### Gross amounts before a year -/
def gB (y : Int) (x : Sp) : Int := if (!x.gone && decide (yOf x.m < y)) = true then x.g else 0
def gs (s : RSt) (y : Int) : Int := sw (gB y) s.sl s.sl.length
theorem gs_step {s : RSt} {y : Int} : gs s (y + 1) = gs s y + suml (·.g) (slY s y) := by
  rw [← rs_all]
  unfold gs rs
  rw [sw_add]
  refine sw_congr (fun x _ => ?_) _ (Nat.le_refl _)
  unfold gB inY
  cases x.gone with
  | true => simp
  | false =>
    simp only [Bool.not_false, Bool.true_and, decide_eq_true_eq]
    by_cases q : yOf x.m = y
    · rw [if_pos (by omega), if_neg (by omega), if_pos q]; omega
    · rw [if_neg q]
      by_cases r : yOf x.m < y
      · rw [if_pos (by omega), if_pos r]; omega
      · rw [if_neg (by omega), if_neg r]; omega
theorem yOf_n {m : Int} (h : 0 ≤ m) : yOf m = 1900 + m / 12 := by unfold yOf; rw [Int.tdiv_eq_ediv_of_nonneg h]
theorem gs_zero {s : RSt} (v : ValR s) : gs s 1900 = 0 := sw_zero (fun x hx => by
  have := (v.s x hx).m
  unfold gB
  rw [yOf_n this]
  cases x.gone with
  | true => rfl
  | false =>
    rw [if_neg]
    simp; omega) _ (Nat.le_refl _)
def gP (x : Sp) : Int := if x.gone = true then 0 else x.g
theorem gs_all {s : RSt} (v : ValR s) (h : ∀ x ∈ s.sl, x.m < 2160) : gs s 2080 = sw gP s.sl s.sl.length := sw_congr (fun x hx => by
  have := (v.s x hx).m
  have := h x hx
  unfold gB gP
  rw [yOf_n (by omega)]
  cases x.gone with
  | true => rfl
  | false =>
    rw [if_pos, if_neg (by simp)]
    simp; omega) _ (Nat.le_refl _)
theorem gs_b {s : RSt} (v : ValR s) (y : Int) : -(1099511627776 * (s.sl.length : Int)) ≤ gs s y ∧ gs s y ≤ 1099511627776 * (s.sl.length : Int) :=
  sw_b (fun x hx => by
    have := (v.s x hx).g
    unfold gB
    split <;> omega) _ (Nat.le_refl _)
theorem bal_zero {l : Led} (v : ValL l) : balL l 0 = 0 := by
  have hst := v.r.st
  have e : cutN l 0 = 0 := by unfold cutN; omega
  have e2 : sw (postB 0) l.po l.po.length = 0 := sw_zero (fun p hp => by
    have := post_in v hp
    unfold postB; rw [if_pos (by omega)]) _ (Nat.le_refl _)
  unfold balL
  rw [e, e2]; rfl
end Go.Proofs.YtnhbopeopppojaaDoor.Dv
