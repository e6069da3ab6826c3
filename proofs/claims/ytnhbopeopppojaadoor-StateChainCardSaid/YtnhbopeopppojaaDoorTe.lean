/-
  Layer 35's states over the machine: the reference's Valid.
-/
import Derived.Test.YtnhbopeopppojaaDoorTd
namespace Go.Proofs.YtnhbopeopppojaaDoor.Dv
open Go.Dm Go.Proofs

/-- Where the postings and the months before a slip end. -/
structure PrevS (ss : List Sp) (i : Nat) (m k t : Int) : Prop where
  zz : i = 0 → m = -1 ∧ k = -1 ∧ t = 0
  s : 0 < i → m = ss[i - 1]!.m ∧ k = ss[i - 1]!.nu ∧ t = ss[i - 1]!.t
  b : -1 ≤ m ∧ -1 ≤ k ∧ 0 ≤ t
set_option maxRecDepth 100000 in
theorem valid65 {s : RSt} {d : D} (h : IsR s d) (h1 : s.l.due.length < 1099511627776) (h2 : s.sl.length < 1099511627776) : PRet VS 65 [d] (.b (validR s)) := by
  obtain ⟨⟨x, y, zz, rfl, hx, hy, hz⟩⟩ := h
  have e82 := fun {H K} => c82 (isLed_of hx hy) h1 (H := H) (K := K)
  simp only [ledD] at e82
  refine .body (vf := v65) rfl rfl ?_
  by_cases hh : headR s = true
  case neg =>
    have hv : validR s = false := by simp only [validR, Bool.eq_false_iff.2 hh, Bool.false_and]
    have hh' : headR s = false := Bool.eq_false_iff.2 hh
    rw [hv]
    simp only [headR, amt, taxy] at hh'
    simp (disch := omega) only [go_sem, Nat.reduceAdd, Nat.reduceSub, Nat.reduceLeDiff, Int.reduceNeg, v65, rsD, hz.n, e82]
    grind
  · have hv : validR s = slipsF s.l.po.length s.sl (-1) (-1) 0 := by simp only [validR, hh, Bool.true_and]
    rw [hv]
    simp only [headR, amt, taxy, Bool.and_eq_true, decide_eq_true_eq] at hh
    obtain ⟨⟨⟨⟨⟨g1, g2⟩, g3⟩, g4⟩, g5, g6⟩, g7, g8⟩ := hh
    have b1 : decide (s.sm < 0) = false := decide_eq_false (by omega)
    have b2 : decide (s.sm > 2153) = false := decide_eq_false (by omega)
    have b3 : decide (s.sg < 0) = false := decide_eq_false (by omega)
    have b4 : decide (s.sg > 1099511627776) = false := decide_eq_false (by omega)
    have b5 : decide (s.sx < -1099511627776) = false := decide_eq_false (by omega)
    have b6 : decide (s.sx > 1099511627776) = false := decide_eq_false (by omega)
    have b7 : decide ((s.sl.length : Int) > 1200) = false := decide_eq_false (by omega)
    simp (disch := omega) only [go_sem, Nat.reduceAdd, Nat.reduceSub, Nat.reduceLeDiff, Int.reduceNeg, v65, rsD, hz.n, e82, g1, b1, b2, b3, b4, b5, b6, b7]
    refine Run.up (fun i st => ∃ m k t a2 a3 a4 a5 a8, slTo s.l.po.length s.sl i m k t ∧ PrevS s.sl i m k t ∧ st = ⟨[rsD s x y zz, .b false, a2, a3, a4, a5, .bx [.i .i64 s.l.st, x, y, .i .i64 s.sm, .i .i64 s.sg, .i .i64 s.sx, zz], .i .i64 i, a8], []⟩) s.sl.length ⟨-1, -1, 0, _, .u, .u, .u, .u, ⟨rfl⟩, ⟨fun _ => ⟨rfl, rfl, rfl⟩, fun h => absurd h (by omega), by omega⟩, rfl⟩ ?_
    rintro i st hi ⟨m, k, t, a2, a3, a4, a5, a8, hto, hp, rfl⟩
    by_cases hlt : i < s.sl.length
    · have hlt' : decide ((i : Int) < (s.sl.length : Int)) = true := by simpa using hlt
      have hve := hto.cons hlt
      obtain ⟨p0, p1, p2, p3, p4⟩ := hp
      have no : slipF s.l.po.length s.sl[i]! m k t = false → slipsF s.l.po.length s.sl (-1) (-1) 0 = false := fun hf => by rw [hve, hf]; rfl
      have hnext : slipF s.l.po.length s.sl[i]! m k t = true → i < s.sl.length ∧ ∃ m' k' t', slTo s.l.po.length s.sl (i + 1) m' k' t' ∧ PrevS s.sl (i + 1) m' k' t' := fun hf => by
        refine ⟨hlt, s.sl[i]!.m, s.sl[i]!.nu, s.sl[i]!.t, ⟨by rw [hve, hf]; rfl⟩, ⟨fun hz => absurd hz (by omega), fun _ => by rw [Nat.add_sub_cancel]; exact ⟨rfl, rfl, rfl⟩, ?_⟩⟩
        simp only [slipF, Bool.and_eq_true, decide_eq_true_eq] at hf
        omega
      simp only [slipF, amt, taxy, Bool.and_eq_true, decide_eq_true_eq] at hnext
      have no' : ¬ (s.sl[i]!.m > m ∧ s.sl[i]!.nu > k ∧ t ≤ s.sl[i]!.f ∧ s.sl[i]!.f ≤ s.sl[i]!.t ∧ s.sl[i]!.t ≤ s.l.po.length ∧ 0 ≤ s.sl[i]!.g ∧ s.sl[i]!.g ≤ 1099511627776 ∧ -1099511627776 ≤ s.sl[i]!.x ∧ s.sl[i]!.x ≤ 1099511627776) → false = slipsF s.l.po.length s.sl (-1) (-1) 0 := fun hn => by
        refine (no (Bool.eq_false_iff.2 fun hf => hn ?_)).symm
        simp only [slipF, amt, taxy, Bool.and_eq_true, decide_eq_true_eq] at hf
        omega
      rcases Nat.eq_zero_or_pos i with rfl | hpos
      · obtain ⟨rfl, rfl, rfl⟩ := p0 rfl
        simp (disch := omega) only [go_sem, Nat.reduceAdd, Nat.reduceLeDiff, Int.reduceLE, Int.reduceLT, Int.reduceNeg, v65l0, rsD, hz.q, hz.n, hy.n, spR, wr]
        repeat' first | (refine And.intro ?_ ?_) | intro _
        all_goals first | omega | exact no' (by omega) | exact (hnext (by omega)).2
      · have hpos' : decide ((i : Int) > 0) = true := by simpa using hpos
        obtain ⟨rfl, rfl, rfl⟩ := p1 hpos
        simp (disch := omega) only [go_sem, Nat.reduceAdd, Nat.reduceLeDiff, Int.reduceNeg, v65l0, rsD, hz.q, hz.n, hz.under, hy.n, spR, wr, hlt', hpos']
        repeat' first | (refine And.intro ?_ ?_) | intro _
        all_goals first | omega | exact no' (by omega) | exact (hnext (by omega)).2
    · have : i = s.sl.length := by omega
      subst this
      have hve := hto.e
      rw [List.drop_length, slipsF] at hve
      have hlt' : decide ((s.sl.length : Int) < (s.sl.length : Int)) = false := by simp
      simp (disch := omega) only [go_sem, Nat.reduceAdd, Int.reduceNeg, v65l0, hz.n, hlt']
      rw [hve]
theorem c65 {s : RSt} {d : D} (h : IsR s d) (h1 : s.l.due.length < 1099511627776) (h2 : s.sl.length < 1099511627776) {H : Heap} {K : CR → Prop} : CallQ VS 65 [d] H K ↔ K (.ret (.b (validR s)) H) :=
  (valid65 h h1 h2).c (vf := v65) rfl rfl (by simp [h.plain]) (.inl rfl)
end Go.Proofs.YtnhbopeopppojaaDoor.Dv
