/-
  Layer 25 over the machine: facts, clauses, rows; spans.
-/
import Derived.Test.YtkogdbgccjmaoaaTs
namespace Go.Proofs.Ytkogdbgccjmaoaa.Dv
open Go.Dm

def seS (s : List UInt8) : List D := [.s s]
def seP (p : List UInt8 × Int) : List D := [.s p.1, .i .i64 p.2]
def seR (p : List UInt8 × Int × Int) : List D := [.s p.1, .i .i64 p.2.1, .i .i64 p.2.2]

/-- What was examined. -/
structure Rd where
  p : List (List UInt8 × Int)
  f : List (List UInt8 × Int × Int)
  t : List (List UInt8)
def IsRd (r : Rd) (d : D) : Prop := ∃ x y q, d = .ag [x, y, q] ∧ Sl 2 (r.p.map seP) x ∧ Sl 3 (r.f.map seR) y ∧ Sl 1 (r.t.map seS) q
def Rd.le (r : Rd) (n : Nat) : Prop := r.p.length ≤ n ∧ r.f.length ≤ n ∧ r.t.length ≤ n
theorem IsRd.plain {r : Rd} {d : D} (h : IsRd r d) : d.plain = true := by
  obtain ⟨x, y, q, rfl, h1, h2, h3⟩ := h
  simp [D.plain, h1.flat, h2.flat, h3.flat]

/-! ### Spans -/
def isSp (x y : Int) : Bool := decide (0 ≤ x ∧ x ≤ y ∧ y ≤ 65536)
theorem isSpan60 (x y : Int) : PRet V 60 [.ag [.i .i64 x, .i .i64 y]] (.b (isSp x y)) := by
  refine .body (vf := v60) rfl rfl ?_
  simp only [go_sem, Nat.reduceAdd, Nat.reduceSub, Nat.reduceLeDiff, v60, isSp]
  grind
@[go_sem] theorem c60 {x y : Int} {H : Heap} {K : CR → Prop} : CallQ V 60 [.ag [.i .i64 x, .i .i64 y]] H K ↔ K (.ret (.b (isSp x y)) H) :=
  (isSpan60 x y).c (vf := v60) rfl rfl rfl (.inl rfl)
theorem right64 (x y : Int) : PRet V 64 [.ag [.i .i64 x, .i .i64 y]] (.b (isSp x y)) := by
  refine .body (vf := v64) rfl rfl ?_
  simp only [go_sem, Nat.reduceAdd, Nat.reduceSub, Nat.reduceLeDiff, v64, isSp]
  grind
@[go_sem] theorem c64 {x y : Int} {H : Heap} {K : CR → Prop} : CallQ V 64 [.ag [.i .i64 x, .i .i64 y]] H K ↔ K (.ret (.b (isSp x y)) H) :=
  (right64 x y).c (vf := v64) rfl rfl rfl (.inl rfl)

structure okAt (l : List (Int × Int)) (k : Nat) : Prop where
  r : isSp l[k]!.1 l[k]!.2 = true
  n : l[k]!.1 ≠ l[k]!.2
  b : 0 < k → l[k - 1]!.2 < l[k]!.1
/-- The first i spans are right and lie behind each other. -/
structure validTo (l : List (Int × Int)) (i : Nat) : Prop where
  h : ∀ k, k < i → okAt l k
theorem vt_succ {l : List (Int × Int)} {i : Nat} : validTo l (i + 1) ↔ validTo l i ∧ okAt l i := by
  refine ⟨fun h => ⟨⟨fun k hk => h.h k (by omega)⟩, h.h i (by omega)⟩, fun h => ⟨fun k hk => ?_⟩⟩
  by_cases e : k = i
  · subst e; exact h.2
  · exact h.1.h k (by omega)
def validL (l : List (Int × Int)) : Prop := validTo l l.length
noncomputable instance (l : List (Int × Int)) : Decidable (validL l) := Classical.propDecidable _

theorem valid55 {l : List (Int × Int)} {d : D} (h : Sl 2 (l.map spR) d) (hl : l.length < 1099511627776) : PRet V 55 [d] (.b (decide (validL l))) := by
  refine .body (vf := v55) rfl rfl ?_
  simp only [go_sem, Nat.reduceSub, v55, h.n]
  refine Run.up (fun i s => validTo l i ∧ ∃ a2 a3 a7 a8, s = ⟨[d, .b false, a2, a3, .i .i64 i, .i .i64 l.length, d, a7, a8], []⟩) l.length ⟨⟨fun k hk => by omega⟩, .u, .u, .u, .u, rfl⟩ ?_
  rintro i s hi ⟨hv, a2, a3, a7, a8, rfl⟩
  simp (disch := omega) only [go_sem, Nat.reduceAdd, Nat.reduceLeDiff, v55l0, h.q, h.under, spR, wr, vt_succ, hv]
  have e2 : i < l.length → validL l → okAt l i := fun hi h => h.h i hi
  have e3 : i = l.length → validL l := fun e => by subst e; exact hv
  repeat' first | (refine And.intro ?_ ?_) | intro _
  all_goals first | omega | grind [okAt.r, okAt.n, okAt.b, okAt]

/-! ### Facts -/
def touchF (key : List UInt8) (fr to : Int) (x : List UInt8 × Int × Int) : Bool := decide (x.1 = key ∧ max x.2.1 fr < min x.2.2 to)
def keyR (p : List UInt8 × Int × Int) : D := .ag [.s p.1, .i .i64 p.2.1, .i .i64 p.2.2]
theorem c31 {key : List UInt8} {fr to : Int} {cs : List D} (x : List UInt8 × Int × Int) (K : CR → Prop) : CallQ V 31 [keyR x, .hp 0 0] [.bx (.s key :: .i .i64 fr :: .i .i64 to :: cs)] K ↔ K (.ret (.b (touchF key fr to x)) [.bx (.s key :: .i .i64 fr :: .i .i64 to :: cs)]) := by
  refine CallQ_ret (Ret.iff_q.2 (.body (vf := v31) rfl rfl rfl ?_))
  simp only [go_sem, Nat.reduceAdd, Nat.reduceSub, Nat.reduceLeDiff, v31, keyR, touchF]
  grind
def factD (key : List UInt8) (fr to kn : Int) (c4 c5 c6 c7 c8 c9 c10 : D) : List D := [.s key, .i .i64 fr, .i .i64 to, .i .i64 kn, c4, c5, c6, c7, c8, c9, c10]
theorem fact10 {r : Rd} {d : D} (h : IsRd r d) (hl : r.le 1000000) (key : List UInt8) (fr to kn known : Int) (c4 c5 c6 c7 c8 c9 c10 : D) : PRet V 10 [d, .ag (factD key fr to kn c4 c5 c6 c7 c8 c9 c10), .i .i64 known] (.b (decide (kn ≤ known) && r.f.any (touchF key fr to))) := by
  obtain ⟨x, y, q, rfl, h1, h2, h3⟩ := h
  obtain ⟨l1, l2, l3⟩ := hl
  refine .body (vf := v10) rfl rfl ?_
  have c30 : ∀ K, CallQ V 30 [y, .fn (.func 31) [] [.hp 0 0]] [.bx (.s key :: .i .i64 fr :: .i .i64 to :: [.i .i64 kn, c4, c5, c6, c7, c8, c9, c10])] K ↔ K (.ret (.b (r.f.any (touchF key fr to))) [.bx (.s key :: .i .i64 fr :: .i .i64 to :: [.i .i64 kn, c4, c5, c6, c7, c8, c9, c10])]) :=
    fun K => cf_q (h := 57) (w := 3) (agg := true) rfl rfl h2 (by omega) (fun _ => rfl) (fun _ => rfl) (fun a K => c31 a K)
  simp only [go_sem, Nat.reduceAdd, Nat.reduceSub, Nat.reduceLeDiff, v10, factD, c30]
  grind
theorem ref11 {r : Rd} {d : D} (h : IsRd r d) (hl : r.le 1000000) (key : List UInt8) (fr to kn known : Int) (c4 c5 c6 c7 c8 c9 c10 : D) : PRet V 11 [d, .ag (factD key fr to kn c4 c5 c6 c7 c8 c9 c10), .i .i64 known] (.b (decide (kn ≤ known) && r.f.any (touchF key fr to))) := by
  obtain ⟨x, y, q, rfl, h1, h2, h3⟩ := h
  obtain ⟨l1, l2, l3⟩ := hl
  refine .body (vf := v11) rfl rfl ?_
  simp only [go_sem, Nat.reduceAdd, Nat.reduceSub, Nat.reduceLeDiff, v11, factD]
  refine ⟨fun hk => by simp; omega, fun hk => ?_⟩
  refine Run.up (fun i s => noneTo (touchF key fr to) r.f i ∧ ∃ a5 a6 a7 a11 a12 b, s = ⟨[.ag [x, y, q], b, .i .i64 known, .b false, .b (decide (known < kn)), a5, a6, a7, .bx (factD key fr to kn c4 c5 c6 c7 c8 c9 c10), .i .i64 i, .bx [x, y, q], a11, a12], []⟩) r.f.length ⟨nt_zero, .u, .u, .u, .u, .u, _, rfl⟩ ?_
  rintro i s hi ⟨hv, a5, a6, a7, a11, a12, b, rfl⟩
  simp (disch := omega) only [go_sem, Nat.reduceAdd, Nat.reduceLeDiff, v11l0, h2.q, h2.n, seR, factD, wr, nt_succ, hv]
  have e1 := @nt_end _ _ (touchF key fr to) r.f
  have e2 : i < r.f.length → touchF key fr to r.f[i]! = true → r.f.any (touchF key fr to) = true := nt_hit
  repeat' first | (refine And.intro ?_ ?_) | intro _
  all_goals first | omega | grind [touchF]
end Go.Proofs.Ytkogdbgccjmaoaa.Dv
