/-
  Law 25 over the machine: small reads, the reads of the reference.
-/
import Derived.Test.YtkogdbgccjmaoaaTf
namespace Go.Proofs.Ytkogdbgccjmaoaa.Dv
open Go.Dm

def fewB (r : Rd) : Bool := decide (r.p.length ≤ 40 ∧ r.f.length ≤ 40 ∧ r.t.length ≤ 40)
theorem few7 {r : Rd} {d : D} (h : IsRd r d) : PRet V 7 [d] (.b (fewB r)) := by
  obtain ⟨x, y, q, rfl, h1, h2, h3⟩ := h
  refine .body (vf := v7) rfl rfl ?_
  simp only [go_sem, Nat.reduceAdd, Nat.reduceSub, Nat.reduceLeDiff, v7, h1.n, h2.n, h3.n, fewB]
  grind
theorem snoc_p {l : List (List UInt8 × Int)} {a : List UInt8} {b : Int} : l.map seP ++ [[.s a, .i .i64 b]] = (l ++ [(a, b)]).map seP := by simp [seP]
theorem snoc_r {l : List (List UInt8 × Int × Int)} {a : List UInt8} {b c : Int} : l.map seR ++ [[.s a, .i .i64 b, .i .i64 c]] = (l ++ [(a, b, c)]).map seR := by simp [seR]
theorem peta3 {α β γ : Type} (p : α × β × γ) : (p.1, p.2.1, p.2.2) = p := rfl
theorem three_frz (r : Rd) : frzR (bH (bH (bH [] 1 (r.t.map seS)) 2 (r.p.map seP)) 3 (r.f.map seR)) (.ag [bD (bH [] 1 (r.t.map seS)) .nil (r.p.map seP), bD (bH (bH [] 1 (r.t.map seS)) 2 (r.p.map seP)) .nil (r.f.map seR), bD [] .z (r.t.map seS)]) =
    some (.ag [imD .nil 2 (r.p.map seP), imD .nil 3 (r.f.map seR), imD .z 1 (r.t.map seS)]) := by
  obtain ⟨p, f, t⟩ := r
  cases t <;> cases p <;> cases f <;> simp [go_sem, bD, bH, imD, List.take_of_length_le]
theorem take_snoc {α : Type} [Inhabited α] {l : List α} {i : Nat} (hi : i < l.length) : l.take (i + 1) = l.take i ++ [l[i]!] := by
  rw [List.take_succ_eq_append_getElem hi, getElem!_pos l i hi]
theorem conv9 {r : Rd} {d : D} (h : IsRd r d) (hl : r.le 1000000) : PurQ V 9 [d] (fun s => ∃ d', IsRd r d' ∧ s = .ret d') := by
  obtain ⟨x, y, q, rfl, h1, h2, h3⟩ := h
  obtain ⟨l1, l2, l3⟩ := hl
  refine .body (vf := v9) rfl rfl ?_
  have ha := fun H => app_all (H := H) (w := 1) (bytes := 16) (x0 := .z) rfl h3 (fun _ => rfl) (by omega) (by omega)
  simp only [go_sem, Nat.reduceAdd, Nat.reduceSub, Nat.reduceLeDiff, v9, h1.n, ha]
  refine Run.up (fun i s => ∃ a2 a3 a9 a10 a11 a12 a13, s = ⟨[.ag [x, y, q], .bx [.nil, .nil, .nil], a2, a3, .bx [x, y, q], .i .i64 i, .i .i64 r.p.length, x, .bx [bD (bH [] 1 (r.t.map seS)) .nil ((r.p.take i).map seP), .nil, bD [] .z (r.t.map seS)], a9, a10, a11, a12, a13], bH (bH [] 1 (r.t.map seS)) 2 ((r.p.take i).map seP)⟩) r.p.length ⟨.u, .u, .u, .u, .u, .u, .u, rfl⟩ ?_
  rintro i s hi ⟨a2, a3, a9, a10, a11, a12, a13, rfl⟩
  have hm : (r.p.take i).length = i := by simp; omega
  by_cases hlt : i < r.p.length
  · have hlt' : decide ((i : Int) < (r.p.length : Int)) = true := by simpa using hlt
    rw [take_snoc hlt]
    generalize r.p.take i = A at hm
    simp (disch := omega) only [go_sem, Nat.reduceAdd, Nat.reduceLeDiff, Nat.reduceLT, v9l0, h1.q, seP, hlt', wr, app_n, snoc_p, peta]
    omega
  · have hlt' : decide ((i : Int) < (r.p.length : Int)) = false := by simpa using hlt
    have hil : i = r.p.length := by omega
    subst hil
    rw [List.take_length]
    simp (disch := omega) only [go_sem, Nat.reduceAdd, Nat.reduceLeDiff, v9l0, hlt', h2.n]
    refine Run.up (fun i s => ∃ a3 a13, s = ⟨[.ag [x, y, q], .bx [.nil, .nil, .nil], .b false, a3, .bx [x, y, q], .i .i64 r.p.length, .i .i64 r.p.length, x, .bx [bD (bH [] 1 (r.t.map seS)) .nil (r.p.map seP), bD (bH (bH [] 1 (r.t.map seS)) 2 (r.p.map seP)) .nil ((r.f.take i).map seR), bD [] .z (r.t.map seS)], a9, .i .i64 i, .i .i64 r.f.length, y, a13], bH (bH (bH [] 1 (r.t.map seS)) 2 (r.p.map seP)) 3 ((r.f.take i).map seR)⟩) r.f.length ⟨_, _, rfl⟩ ?_
    rintro i s hi ⟨a3, a13, rfl⟩
    have hm : (r.f.take i).length = i := by simp; omega
    by_cases hlt : i < r.f.length
    · have hlt' : decide ((i : Int) < (r.f.length : Int)) = true := by simpa using hlt
      rw [take_snoc hlt]
      generalize r.f.take i = A at hm
      simp (disch := omega) only [go_sem, Nat.reduceAdd, Nat.reduceLeDiff, Nat.reduceLT, v9l1, h2.q, seR, hlt', wr, app_n, snoc_r, peta3]
      omega
    · have hlt' : decide ((i : Int) < (r.f.length : Int)) = false := by simpa using hlt
      have hil : i = r.f.length := by omega
      subst hil
      rw [List.take_length]
      simp (disch := omega) only [go_sem, Nat.reduceAdd, v9l1, hlt']
      have hfr := three_frz r
      simp only [go_sem] at hfr
      rw [hfr]
      exact ⟨_, rfl, _, _, _, rfl, imD_sl rfl _ _, imD_sl rfl _ _, imD_sl rfl _ _⟩
end Go.Proofs.Ytkogdbgccjmaoaa.Dv
