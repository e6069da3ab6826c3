/-
  The reference's ledger over the machine: Has, Right, Posts, Valid.
-/
import Derived.Test.YtnhbopeopppojaaDoorTa
namespace Go.Proofs.YtnhbopeopppojaaDoor.Dv
open Go.Dm Go.Proofs

theorem has67 {l : Led} {d : D} (h : IsLed l d) (r : LedR l) {m : Int} : PRet VS 67 [d, .i .i64 m] (.b (hasL l m)) := by
  obtain ⟨⟨x, y, rfl, hx, hy⟩⟩ := h
  have h1 := r.st
  have h2 := r.n
  refine .body (vf := v67) rfl rfl ?_
  simp (disch := omega) only [go_sem, Nat.reduceAdd, Nat.reduceSub, v67, ledD]
  refine Run.up (fun i st => (∀ k : Nat, k < i → l.st + k ≠ m) ∧ ∃ a3 a4, st = ⟨[.ag [.i .i64 l.st, x, y], .i .i64 m, .b false, a3, a4, .i .i64 i, .bx [.i .i64 l.st, x, y]], []⟩) l.due.length ⟨fun k hk => absurd hk (Nat.not_lt_zero k), .u, .u, rfl⟩ ?_
  rintro i st hi ⟨hv, a3, a4, rfl⟩
  have hyes : (i : Int) < l.due.length → l.st + i = m → hasL l m = true := fun a b => by
    simp only [hasL, Bool.and_eq_true, decide_eq_true_eq]; omega
  have hno : ¬ (i : Int) < l.due.length → hasL l m = false := fun a => by
    simp only [hasL, Bool.and_eq_false_iff, decide_eq_false_iff_not]
    by_cases hm : l.st ≤ m ∧ m < l.st + l.due.length
    · have := hv (m - l.st).toNat (by omega)
      omega
    · omega
  simp (disch := omega) only [go_sem, Nat.reduceAdd, Nat.reduceLeDiff, v67l0, hx.n, wr]
  refine ⟨fun a => ⟨fun b => (hyes a b).symm, fun b => ⟨by omega, fun k hk => ?_⟩⟩, fun a => (hno a).symm⟩
  by_cases e : k = i
  · subst e; exact b
  · exact hv k (by omega)
theorem c67 {l : Led} {d : D} (h : IsLed l d) (r : LedR l) {m : Int} {H : Heap} {K : CR → Prop} : CallQ VS 67 [d, .i .i64 m] H K ↔ K (.ret (.b (hasL l m)) H) :=
  (has67 h r).c (vf := v67) rfl rfl (by simp [h.plain]; rfl) (.inl rfl)
set_option maxRecDepth 100000 in
theorem right102 {l : Led} {d : D} (h : IsLed l d) (r : LedR l) {p : Po} : PRet VS 102 [d, .ag (poR p)] (.b (fitsP l p)) := by
  have e67 := fun {H K} => c67 h r (m := p.m) (H := H) (K := K)
  obtain ⟨⟨x, y, rfl, hx, hy⟩⟩ := h
  refine .body (vf := v102) rfl rfl ?_
  simp only [ledD] at e67
  obtain ⟨day, m, k, a⟩ := p
  simp only at e67
  rcases (by omega : k = 1 ∨ k = 2 ∨ k = 3 ∨ k = 4 ∨ k = 5 ∨ k = 6 ∨ (k ≠ 1 ∧ k ≠ 2 ∧ k ≠ 3 ∧ k ≠ 4 ∧ k ≠ 5 ∧ k ≠ 6)) with rfl | rfl | rfl | rfl | rfl | rfl | ⟨n1, n2, n3, n4, n5, n6⟩
  case inr.inr.inr.inr.inr.inr =>
    simp (disch := omega) only [go_sem, Nat.reduceAdd, Nat.reduceSub, Nat.reduceLeDiff, Int.reduceNeg, v102, ledD, poR, e67, fitsP, kPlus, kMinus, decide_eq_false n1, decide_eq_false n2, decide_eq_false n3, decide_eq_false n4, decide_eq_false n5, decide_eq_false n6]
    repeat' first | (refine And.intro ?_ ?_) | intro _
    all_goals first | omega | grind
  all_goals
    simp (disch := omega) only [go_sem, Nat.reduceAdd, Nat.reduceSub, Nat.reduceLeDiff, Int.reduceLE, Int.reduceLT, Int.reduceEq, Int.reduceNeg, v102, ledD, poR, e67, fitsP, kPlus, kMinus]
    repeat' first | (refine And.intro ?_ ?_) | intro _
    all_goals first | omega | grind
theorem c102 {l : Led} {d : D} (h : IsLed l d) (r : LedR l) {p : Po} {H : Heap} {K : CR → Prop} : CallQ VS 102 [d, .ag (poR p)] H K ↔ K (.ret (.b (fitsP l p)) H) :=
  (right102 h r).c (vf := v102) rfl rfl (by simp [h.plain]; rfl) (.inl rfl)
theorem fitsP_day {l : Led} {p : Po} (h : fitsP l p = true) : 0 ≤ p.day := by
  simp only [fitsP, Bool.and_eq_true, decide_eq_true_eq] at h
  exact h.1.1.1
theorem posts94 {l : Led} {d y : D} {ps : List Po} (h : IsLed l d) (r : LedR l) (hy : Sl 4 (ps.map poR) y) (hn : ps.length ≤ 1000000) : PRet VS 94 [d, y] (.b (followP l ps 0)) := by
  have e102 := fun {p H K} => c102 h r (p := p) (H := H) (K := K)
  obtain ⟨⟨x, z1, rfl, hx, hz⟩⟩ := h
  refine .body (vf := v94) rfl rfl ?_
  simp only [ledD] at e102
  simp (disch := omega) only [go_sem, Nat.reduceAdd, Nat.reduceSub, v94, ledD]
  refine Run.up (fun i st => ∃ a3 a4, folTo l ps 0 i (if i = 0 then 0 else ps[i - 1]!.day) ∧ st = ⟨[.ag [.i .i64 l.st, x, z1], y, .b false, a3, a4, .i .i64 i, .bx [.i .i64 l.st, x, z1]], []⟩) ps.length ⟨.u, .u, ⟨rfl⟩, rfl⟩ ?_
  rintro i st hi ⟨a3, a4, hv, rfl⟩
  by_cases hlt : i < ps.length
  · have hlt' : decide ((i : Int) < (ps.length : Int)) = true := by simpa using hlt
    have e102i := fun {H K} => e102 (p := ps[i]!) (H := H) (K := K)
    have hd : ps.drop i = ps[i]! :: ps.drop (i + 1) := by rw [List.drop_eq_getElem_cons hlt, getElem!_pos ps i hlt]
    have hve := hv.e
    rw [hd, followP] at hve
    have hfd := @fitsP_day l ps[i]!
    simp only [poR] at e102i
    have hs : (if i + 1 = 0 then 0 else ps[i + 1 - 1]!.day) = ps[i]!.day := by rw [if_neg (by omega), Nat.add_sub_cancel]
    rcases Nat.eq_zero_or_pos i with rfl | hpos
    · rw [if_pos rfl] at hve
      simp (disch := omega) only [go_sem, Nat.reduceAdd, Nat.reduceSub, Int.reduceLE, Int.reduceLT, reduceCtorEq, v94l0, hy.q, hy.n, hy.under, poR, wr, e102i]
      refine ⟨fun _ => ⟨by omega, fun hf => ?_, fun hf => ⟨hlt, ⟨?_⟩⟩⟩, fun hn => absurd (by omega) hn⟩
      · rw [hve, hf]; rfl
      · rw [hve, hf, decide_eq_true (hfd hf)]; rfl
    · have hpos' : decide ((i : Int) > 0) = true := by simpa using hpos
      rw [if_neg (by omega)] at hve
      simp (disch := omega) only [go_sem, Nat.reduceAdd, Nat.reduceLeDiff, reduceCtorEq, v94l0, hy.q, hy.n, hy.under, poR, wr, hlt', e102i, hpos']
      refine ⟨⟨by omega, by omega⟩, fun hf => ?_, fun hf => ⟨⟨by omega, by omega⟩, ⟨by omega, by omega⟩, fun hc => ?_, fun hc => ⟨hlt, ⟨?_⟩⟩⟩⟩
      · rw [hve, hf]; rfl
      · rw [hve, hf, decide_eq_false (by omega)]; rfl
      · rw [hve, hf, decide_eq_true (by omega), Nat.add_sub_cancel]; rfl
  · have : i = ps.length := by omega
    subst this
    have hve := hv.e
    rw [List.drop_length, followP] at hve
    have hlt' : decide ((ps.length : Int) < (ps.length : Int)) = false := by simp
    simp (disch := omega) only [go_sem, reduceCtorEq, v94l0, hy.n, hlt']
    rw [hve]
theorem c94 {l : Led} {d y : D} {ps : List Po} (h : IsLed l d) (r : LedR l) (hy : Sl 4 (ps.map poR) y) (hn : ps.length ≤ 1000000) {H : Heap} {K : CR → Prop} : CallQ VS 94 [d, y] H K ↔ K (.ret (.b (followP l ps 0)) H) :=
  (posts94 h r hy hn).c (vf := v94) rfl rfl (by simp [h.plain, hy.pl]) (.inl rfl)
structure dueTo (l : List Int) (i : Nat) : Prop where
  h : ∀ k, k < i → 0 ≤ l[k]! ∧ l[k]! ≤ 1099511627776
theorem valid82 {l : Led} {d : D} (h : IsLed l d) (h1 : l.due.length < 1099511627776) : PRet VS 82 [d] (.b (validL l)) := by
  by_cases hh : 0 ≤ l.st ∧ l.st ≤ 2400 ∧ l.due.length ≤ 1200 ∧ l.st + l.due.length ≤ 2400 ∧ l.po.length ≤ 4000
  case neg =>
    obtain ⟨⟨x, y, rfl, hx, hy⟩⟩ := h
    refine .body (vf := v82) rfl rfl ?_
    have hv : validL l = false := by
      simp only [validL]
      grind
    rw [hv]
    by_cases h3 : 0 ≤ l.st ∧ l.st ≤ 2400
    · simp (disch := omega) only [go_sem, Nat.reduceAdd, Nat.reduceSub, Nat.reduceLeDiff, v82, ledD, hx.n, hy.n, wr]
      grind
    · simp only [go_sem, Nat.reduceAdd, Nat.reduceSub, Nat.reduceLeDiff, v82, ledD, hx.n]
      grind
  · have r : LedR l := ⟨⟨hh.1, hh.2.1⟩, hh.2.2.1⟩
    obtain ⟨s1, s2, s3, s4, s5⟩ := hh
    have e94 := fun {y H K} (hy : Sl 4 (l.po.map poR) y) => c94 h r hy (by omega) (H := H) (K := K)
    obtain ⟨⟨x, y, rfl, hx, hy⟩⟩ := h
    have e94 := fun {H K} => e94 hy (H := H) (K := K)
    simp only [ledD] at e94
    refine .body (vf := v82) rfl rfl ?_
    have b1 : decide (l.st < 0) = false := decide_eq_false (by omega)
    have b2 : decide (l.st > 2400) = false := decide_eq_false (by omega)
    have b3 : decide ((l.due.length : Int) > 1200) = false := decide_eq_false (by omega)
    have b4 : decide (l.st + (l.due.length : Int) > 2400) = false := decide_eq_false (by omega)
    have b5 : decide ((l.po.length : Int) > 4000) = false := decide_eq_false (by omega)
    simp (disch := omega) only [go_sem, Nat.reduceAdd, Nat.reduceSub, Nat.reduceLeDiff, v82, ledD, hx.n, hy.n, wr, b1, b2, b3, b4, b5]
    have hbad : ∀ k, k < l.due.length → (l.due[k]! < 0 ∨ 1099511627776 < l.due[k]!) → validL l = false := fun k hk hb => by
      have : (l.due.any fun n => decide (n < 0) || decide (1099511627776 < n)) = true := List.any_eq_true.2 ⟨l.due[k]!, by rw [getElem!_pos l.due k hk]; exact List.getElem_mem _, by simpa using hb⟩
      simp only [validL, this, Bool.not_true, Bool.and_false, Bool.false_and]
    refine Run.up (fun i st => dueTo l.due i ∧ ∃ a2 a3 a4, st = ⟨[.ag [.i .i64 l.st, x, y], .b false, a2, a3, a4, .bx [.i .i64 l.st, x, y], .i .i64 i], []⟩) l.due.length ⟨⟨fun k hk => absurd hk (Nat.not_lt_zero k)⟩, .b false, .u, .u, rfl⟩ ?_
    rintro i st hi ⟨hv, a2, a3, a4, rfl⟩
    by_cases hlt : i < l.due.length
    · have hlt' : decide ((i : Int) < (l.due.length : Int)) = true := by simpa using hlt
      simp (disch := omega) only [go_sem, Nat.reduceAdd, Nat.reduceLeDiff, v82l0, hx.q, hx.n, iR, wr, hlt']
      refine ⟨by omega, fun hb => (hbad i hlt (.inl hb)).symm, fun hb => ⟨by omega, fun hc => (hbad i hlt (.inr hc)).symm, fun hc => ⟨hlt, ⟨fun k hk => ?_⟩⟩⟩⟩
      by_cases e : k = i
      · subst e; omega
      · exact hv.h k (by omega)
    · have : i = l.due.length := by omega
      subst this
      have hlt' : decide ((l.due.length : Int) < (l.due.length : Int)) = false := by simp
      have hany : (l.due.any fun n => decide (n < 0) || decide (1099511627776 < n)) = false := List.any_eq_false.2 fun n hn => by
        obtain ⟨k, hk, rfl⟩ := List.mem_iff_getElem.1 hn
        have := hv.h k hk
        rw [getElem!_pos l.due k hk] at this
        simp; omega
      have hval : validL l = followP l l.po 0 := by
        simp only [validL, hany, decide_eq_true s1, decide_eq_true s2, decide_eq_true s3, decide_eq_true s4, decide_eq_true s5, Bool.not_false, Bool.true_and, Bool.and_true]
      simp (disch := omega) only [go_sem, Nat.reduceAdd, Nat.reduceLeDiff, v82l0, hx.n, hlt', e94]
      rw [hval]
theorem c82 {l : Led} {d : D} (h : IsLed l d) (h1 : l.due.length < 1099511627776) {H : Heap} {K : CR → Prop} : CallQ VS 82 [d] H K ↔ K (.ret (.b (validL l)) H) :=
  (valid82 h h1).c (vf := v82) rfl rfl (by simp [h.plain]) (.inl rfl)
end Go.Proofs.YtnhbopeopppojaaDoor.Dv
