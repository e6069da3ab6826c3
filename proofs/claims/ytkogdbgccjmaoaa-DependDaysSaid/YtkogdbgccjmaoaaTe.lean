/-
  Layer 25 over the machine: days and keys.
-/
import Derived.Test.YtkogdbgccjmaoaaTd
namespace Go.Proofs.Ytkogdbgccjmaoaa.Dv
open Go.Dm

/-! ### Days -/
def wantD (key : List UInt8) (x : List UInt8 × Int × Int) : Bool := decide (x.1 = key ∧ x.2.1 < x.2.2)
def daysL (r : Rd) (key : List UInt8) : List (Int × Int) := (r.f.filter (wantD key)).map fun x => x.2
theorem daysL_len {r : Rd} {key : List UInt8} {n : Nat} (h : r.f.length ≤ n) : (daysL r key).length ≤ n := by
  unfold daysL
  rw [List.length_map]
  exact Nat.le_trans (List.length_filter_le _ _) h
theorem tuFz {q : D} (h : q.flat = true) {n : Int} {H : Heap} : frzR H (.tu [q, .i .i64 n]) = some (.tu [q, .i .i64 n]) := by
  have hfz := fz_flat (H := H) (m := 10) h
  simp only [go_sem, Nat.reduceAdd, hfz]
theorem days16 {r : Rd} {d : D} (h : IsRd r d) (l2 : r.f.length ≤ 4398046511104) (key : List UInt8) : PurQ V 16 [d, .s key] (makeQ (daysL r key)) := by
  obtain ⟨x, y, q, rfl, h1, h2, h3⟩ := h
  refine .body (vf := v16) rfl rfl ?_
  simp only [go_sem, Nat.reduceAdd, Nat.reduceSub, Nat.reduceLeDiff, v16, h2.n]
  refine Run.up (fun i s => ∃ a4 a5 a11, s = ⟨[.ag [x, y, q], .s key, .nil, .i .i64 0, a4, a5, bD [] .nil ((tf (wantD key) (fun x => x.2) r.f i).map spR), .bx [x, y, q], .i .i64 i, .i .i64 r.f.length, y, a11], bH [] 2 ((tf (wantD key) (fun x => x.2) r.f i).map spR)⟩) r.f.length ⟨.u, .u, .u, rfl⟩ ?_
  rintro i s hi ⟨a4, a5, a11, rfl⟩
  have hn := @tf_len _ _ (wantD key) (fun x => x.2) r.f i
  by_cases hlt : i < r.f.length
  · have hlt' : decide ((i : Int) < (r.f.length : Int)) = true := by simpa using hlt
    have es := tf_succ (p := wantD key) (g := fun x => x.2) hlt
    by_cases hk : r.f[i]!.1 = key
    · by_cases hc : r.f[i]!.2.1 < r.f[i]!.2.2
      · rw [if_pos (show wantD key r.f[i]! = true from decide_eq_true ⟨hk, hc⟩)] at es
        simp (disch := omega) only [go_sem, Nat.reduceAdd, Nat.reduceLeDiff, Nat.reduceLT, v16l0, h2.q, seR, hlt', hk, hc, wr, es, app_n, snoc_sp, peta]
        repeat' first | (refine And.intro ?_ ?_) | intro _
        all_goals omega
      · rw [if_neg (fun h => hc (of_decide_eq_true h).2)] at es
        simp (disch := omega) only [go_sem, Nat.reduceAdd, Nat.reduceLeDiff, v16l0, h2.q, seR, hlt', hk, hc, wr, es]
        repeat' first | (refine And.intro ?_ ?_) | intro _
        all_goals omega
    · rw [if_neg (fun h => hk (of_decide_eq_true h).1)] at es
      simp (disch := omega) only [go_sem, Nat.reduceAdd, Nat.reduceLeDiff, v16l0, h2.q, seR, hlt', hk, wr, es]
      repeat' first | (refine And.intro ?_ ?_) | intro _
      all_goals omega
  · have hlt' : decide ((i : Int) < (r.f.length : Int)) = false := by simpa using hlt
    have hil : i = r.f.length := by omega
    subst hil
    rw [tf_end (Nat.le_refl _)]
    simp (disch := omega) only [go_sem, v16l0, hlt']
    refine CallQ.fz (vf := v35) rfl rfl rfl (bD_fzL rfl) ((make35 (imD_sl rfl _ _) (daysL_len l2)).mono ?_)
    rintro rr ⟨q', ⟨e1, e2, rfl⟩ | ⟨e1, rfl, rfl⟩⟩ H
    · simp only [go_sem, tuFz e2.flat]
      exact ⟨q', .inl ⟨e1, e2, rfl⟩⟩
    · simp only [go_sem, Nat.reduceAdd]
      exact ⟨.nil, .inr ⟨e1, rfl, rfl⟩⟩
theorem days17 {r : Rd} {d : D} (h : IsRd r d) (hl : r.le 1000000) (key : List UInt8) : PurQ V 17 [d, .s key] (refQ (daysL r key)) := by
  obtain ⟨x, y, q, rfl, h1, h2, h3⟩ := h
  obtain ⟨l1, l2, l3⟩ := hl
  refine .body (vf := v17) rfl rfl ?_
  simp only [go_sem, Nat.reduceAdd, Nat.reduceSub, v17]
  refine Run.up (fun i s => ∃ a4 a5, s = ⟨[.ag [x, y, q], .s key, .nil, .i .i64 0, a4, a5, bD [] .nil ((tf (wantD key) (fun x => x.2) r.f i).map spR), .i .i64 i, .bx [x, y, q]], bH [] 2 ((tf (wantD key) (fun x => x.2) r.f i).map spR)⟩) r.f.length ⟨.u, .u, rfl⟩ ?_
  rintro i s hi ⟨a4, a5, rfl⟩
  have hn := @tf_len _ _ (wantD key) (fun x => x.2) r.f i
  by_cases hlt : i < r.f.length
  · have hlt' : decide ((i : Int) < (r.f.length : Int)) = true := by simpa using hlt
    have es := tf_succ (p := wantD key) (g := fun x => x.2) hlt
    by_cases hk : r.f[i]!.1 = key
    · by_cases hc : r.f[i]!.2.1 < r.f[i]!.2.2
      · rw [if_pos (show wantD key r.f[i]! = true from decide_eq_true ⟨hk, hc⟩)] at es
        simp (disch := omega) only [go_sem, Nat.reduceAdd, Nat.reduceLeDiff, Nat.reduceLT, v17l0, h2.q, h2.n, h2.under, seR, hlt', hk, hc, wr, es, app_n, snoc_sp, peta]
        repeat' first | (refine And.intro ?_ ?_) | intro _
        all_goals omega
      · rw [if_neg (fun h => hc (of_decide_eq_true h).2)] at es
        simp (disch := omega) only [go_sem, Nat.reduceAdd, Nat.reduceLeDiff, v17l0, h2.q, h2.n, h2.under, seR, hlt', hk, hc, wr, es]
        repeat' first | (refine And.intro ?_ ?_) | intro _
        all_goals omega
    · rw [if_neg (fun h => hk (of_decide_eq_true h).1)] at es
      simp (disch := omega) only [go_sem, Nat.reduceAdd, Nat.reduceLeDiff, v17l0, h2.q, h2.n, h2.under, seR, hlt', hk, wr, es]
      repeat' first | (refine And.intro ?_ ?_) | intro _
      all_goals omega
  · have hlt' : decide ((i : Int) < (r.f.length : Int)) = false := by simpa using hlt
    have hil : i = r.f.length := by omega
    subst hil
    rw [tf_end (Nat.le_refl _)]
    simp (disch := omega) only [go_sem, Nat.reduceAdd, Nat.reduceLeDiff, v17l0, h2.n, hlt']
    refine CallQ.fz (vf := v36) rfl rfl rfl (bD_fzL rfl) ((ref36 (imD_sl rfl _ _) (daysL_len l2)).mono ?_)
    rintro rr ⟨q', ⟨e1, ⟨ml, e3, e2⟩, rfl⟩ | ⟨e1, rfl, rfl⟩⟩ H
    · simp only [go_sem, tuFz e2.flat]
      exact ⟨q', .inl ⟨e1, ⟨ml, e3, e2⟩, rfl⟩⟩
    · simp only [go_sem, Nat.reduceAdd]
      exact ⟨.nil, .inr ⟨e1, rfl, rfl⟩⟩

/-- law 25's spans: the same list. -/
theorem spans20 {a b : List (Int × Int)} {x y : D} (ha : Sl 2 (a.map spR) x) (hb : Sl 2 (b.map spR) y) (hl : a.length ≤ 1000000) (hab : a = b) : PRet V 20 [x, y] (.b true) := by
  subst hab
  refine .body (vf := v20) rfl rfl ?_
  have hne : decide ((a.length : Int) = (a.length : Int)) = true := by simp
  simp only [go_sem, Nat.reduceSub, v20, ha.n, hb.n]
  refine Run.up (fun i s => ∃ a4 a5 a8, s = ⟨[x, y, .b false, .b false, a4, a5, .i .i64 i, .i .i64 a.length, a8], []⟩) a.length ⟨.u, .u, .u, rfl⟩ ?_
  rintro i s hi ⟨a4, a5, a8, rfl⟩
  have heq : ∀ (u v : Int), eqvD true (.st [1, 1]) (.ag [.i .i64 u, .i .i64 v]) (.ag [.i .i64 u, .i .i64 v]) = some (.b false) := fun u v => by
    simp [eqvD, deq, cellsEq, kindIs, cellEq]
  simp (disch := omega) only [go_sem, Nat.reduceAdd, v20l0, ha.q, hb.q, ha.under, hb.under, spR, wr, heq]
  grind
end Go.Proofs.Ytkogdbgccjmaoaa.Dv
