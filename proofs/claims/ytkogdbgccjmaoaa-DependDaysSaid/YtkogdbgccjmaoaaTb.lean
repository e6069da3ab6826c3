/-
  Layer 25 over the machine: clauses, rows, keys, days.
-/
import Derived.Test.YtkogdbgccjmaoaaTa
namespace Go.Proofs.Ytkogdbgccjmaoaa.Dv
open Go.Dm

/-! ### Clauses -/
def touchC (nm : List UInt8) (fr to : Int) (x : List UInt8 × Int) : Bool := decide (x.1 = nm ∧ fr ≤ x.2 ∧ x.2 < to)
def keyP (p : List UInt8 × Int) : D := .ag [.s p.1, .i .i64 p.2]
theorem c33 {nm : List UInt8} {fr to : Int} {lb : D} {cs : List D} (x : List UInt8 × Int) (K : CR → Prop) : CallQ V 33 [keyP x, .hp 0 0] [.bx (.s nm :: lb :: .i .i64 fr :: .i .i64 to :: cs)] K ↔ K (.ret (.b (touchC nm fr to x)) [.bx (.s nm :: lb :: .i .i64 fr :: .i .i64 to :: cs)]) := by
  refine CallQ_ret (Ret.iff_q.2 (.body (vf := v33) rfl rfl rfl ?_))
  simp only [go_sem, Nat.reduceAdd, Nat.reduceSub, Nat.reduceLeDiff, v33, keyP, touchC]
  grind
def clauseD (nm lb : List UInt8) (fr to kn : Int) (cs : List D) : List D := .s nm :: .s lb :: .i .i64 fr :: .i .i64 to :: .i .i64 kn :: cs
theorem clause12 {r : Rd} {d : D} (h : IsRd r d) (hl : r.le 1000000) (nm lb : List UInt8) (fr to kn known : Int) (cs : List D) (hc : cs.length = 19) : PRet V 12 [d, .ag (clauseD nm lb fr to kn cs), .i .i64 known] (.b (decide (kn ≤ known) && r.p.any (touchC nm fr to))) := by
  obtain ⟨x, y, q, rfl, h1, h2, h3⟩ := h
  obtain ⟨l1, l2, l3⟩ := hl
  refine .body (vf := v12) rfl rfl ?_
  have c32 : ∀ K, CallQ V 32 [x, .fn (.func 33) [] [.hp 0 0]] [.bx (.s nm :: .s lb :: .i .i64 fr :: .i .i64 to :: .i .i64 kn :: cs)] K ↔ K (.ret (.b (r.p.any (touchC nm fr to))) [.bx (.s nm :: .s lb :: .i .i64 fr :: .i .i64 to :: .i .i64 kn :: cs)]) :=
    fun K => cf_q (h := 58) (w := 2) (agg := true) rfl rfl h1 (by omega) (fun _ => rfl) (fun _ => rfl) (fun a K => c33 a K)
  simp only [go_sem, Nat.reduceAdd, Nat.reduceSub, Nat.reduceLeDiff, v12, clauseD, c32, hc]
  grind
theorem ref13 {r : Rd} {d : D} (h : IsRd r d) (hl : r.le 1000000) (nm lb : List UInt8) (fr to kn known : Int) (cs : List D) (hc : cs.length = 19) : PRet V 13 [d, .ag (clauseD nm lb fr to kn cs), .i .i64 known] (.b (decide (kn ≤ known) && r.p.any (touchC nm fr to))) := by
  obtain ⟨x, y, q, rfl, h1, h2, h3⟩ := h
  obtain ⟨l1, l2, l3⟩ := hl
  refine .body (vf := v13) rfl rfl ?_
  simp only [go_sem, Nat.reduceAdd, Nat.reduceSub, Nat.reduceLeDiff, v13, clauseD, hc]
  refine ⟨fun hk => by simp; omega, fun hk => ?_⟩
  refine Run.up (fun i s => noneTo (touchC nm fr to) r.p i ∧ ∃ a5 a6 b, s = ⟨[.ag [x, y, q], b, .i .i64 known, .b false, .b (decide (known < kn)), a5, a6, .bx (clauseD nm lb fr to kn cs), .i .i64 i, .bx [x, y, q]], []⟩) r.p.length ⟨nt_zero, .u, .u, _, rfl⟩ ?_
  rintro i s hi ⟨hv, a5, a6, b, rfl⟩
  simp (disch := omega) only [go_sem, Nat.reduceAdd, Nat.reduceLeDiff, v13l0, h1.q, h1.n, h1.under, seP, clauseD, wr, nt_succ, hv, hc]
  have e1 := @nt_end _ _ (touchC nm fr to) r.p
  have e2 : i < r.p.length → touchC nm fr to r.p[i]! = true → r.p.any (touchC nm fr to) = true := nt_hit
  repeat' first | (refine And.intro ?_ ?_) | intro _
  all_goals first | omega | grind [touchC]

/-! ### Rows -/
theorem index59 {l : List (List UInt8)} {x : D} (h : Sl 1 (l.map seS) x) (hl : l.length < 1099511627776) (s : List UInt8) : PurQ V 59 [x, .s s] (fun r => ∃ i : Int, r = .ret (.i .i64 i) ∧ decide (0 ≤ i) = l.any (fun a => decide (s = a))) := by
  refine .body (vf := v59) rfl rfl ?_
  simp only [go_sem, Nat.reduceSub, Int.reduceNeg, v59, h.n]
  refine Run.up (fun i st => noneTo (fun a => decide (s = a)) l i ∧ ∃ a3 a4 a7, st = ⟨[x, .s s, .i .i64 0, a3, a4, .i .i64 i, .i .i64 l.length, a7], []⟩) l.length ⟨nt_zero, .u, .u, .u, rfl⟩ ?_
  rintro i st hi ⟨hv, a3, a4, a7, rfl⟩
  simp (disch := omega) only [go_sem, Int.reduceLE, Int.reduceNeg, v59l0, h.q, seS, wr, nt_succ, hv]
  have e1 := @nt_end _ _ (fun a => decide (s = a)) l
  have e2 : i < l.length → s = l[i]! → l.any (fun a => decide (s = a)) = true := fun a b => nt_hit a (by simpa using b)
  repeat' first | (refine And.intro ?_ ?_) | intro _
  all_goals first | omega | grind
theorem contains34 {l : List (List UInt8)} {x : D} (h : Sl 1 (l.map seS) x) (hl : l.length < 1099511627776) (s : List UInt8) : PRet V 34 [x, .s s] (.b (l.any (fun a => decide (s = a)))) := by
  refine .body (vf := v34) rfl rfl ?_
  have hp := index59 h hl s
  simp only [go_sem, Nat.reduceSub, v34]
  refine CallQ.pure (vf := v59) rfl rfl (plain_freezeL (by simp [plain_s, h.pl])) (hp.mono ?_)
  rintro r ⟨i, rfl, hi⟩
  simp only [go_sem, Int.reduceNeg, PlaceK, v59, hi]
theorem row14 {r : Rd} {d : D} (h : IsRd r d) (hl : r.le 1000000) (nm : List UInt8) (a0 a1 : D) (kn known : Int) (cs : List D) (hc : cs.length = 4) : PRet V 14 [d, .s nm, .ag (a0 :: a1 :: .i .i64 kn :: cs), .i .i64 known] (.b (decide (kn ≤ known) && r.t.any (fun a => decide (nm = a)))) := by
  obtain ⟨x, y, q, rfl, h1, h2, h3⟩ := h
  obtain ⟨l1, l2, l3⟩ := hl
  refine .body (vf := v14) rfl rfl ?_
  have c34 : ∀ H K, CallQ V 34 [q, .s nm] H K ↔ K (.ret (.b (r.t.any (fun a => decide (nm = a)))) H) := fun H K => (contains34 h3 (by omega) nm).c (vf := v34) rfl rfl (by simp only [go_sem, h3.pl]) (.inl rfl)
  simp only [go_sem, Nat.reduceAdd, Nat.reduceSub, Nat.reduceLeDiff, v14, c34, hc]
  grind
theorem ref15 {r : Rd} {d : D} (h : IsRd r d) (hl : r.le 1000000) (nm : List UInt8) (a0 a1 : D) (kn known : Int) (cs : List D) (hc : cs.length = 4) : PRet V 15 [d, .s nm, .ag (a0 :: a1 :: .i .i64 kn :: cs), .i .i64 known] (.b (decide (kn ≤ known) && r.t.any (fun a => decide (nm = a)))) := by
  obtain ⟨x, y, q, rfl, h1, h2, h3⟩ := h
  obtain ⟨l1, l2, l3⟩ := hl
  refine .body (vf := v15) rfl rfl ?_
  simp only [go_sem, Nat.reduceAdd, Nat.reduceSub, v15, hc]
  refine Run.up (fun i s => (kn ≤ known → noneTo (fun a => decide (nm = a)) r.t i) ∧ ∃ a5 a6 b, s = ⟨[.ag [x, y, q], .s nm, b, .i .i64 known, .b false, a5, a6, .i .i64 i, .bx [x, y, q], .bx (a0 :: a1 :: .i .i64 kn :: cs)], []⟩) r.t.length ⟨fun _ => nt_zero, .u, .u, _, rfl⟩ ?_
  rintro i s hi ⟨hv, a5, a6, b, rfl⟩
  simp (disch := omega) only [go_sem, Nat.reduceAdd, Nat.reduceLeDiff, v15l0, h3.q, h3.n, seS, wr, nt_succ]
  have e1 := @nt_end _ _ (fun a => decide (nm = a)) r.t
  have e2 : i < r.t.length → nm = r.t[i]! → r.t.any (fun a => decide (nm = a)) = true := fun a b => nt_hit a (by simpa using b)
  repeat' first | (refine And.intro ?_ ?_) | intro _
  all_goals first | omega | grind
end Go.Proofs.Ytkogdbgccjmaoaa.Dv
