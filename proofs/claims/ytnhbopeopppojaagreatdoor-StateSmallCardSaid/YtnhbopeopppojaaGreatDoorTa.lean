/-
  Ledgers.
-/
import Derived.Test.YtnhbopeopppojaaGreatDoorSc
namespace Go.Proofs.YtnhbopeopppojaaGreatDoor.Dv
open Go.Dm Go.Proofs
structure Po where
  day : Int
  m : Int
  k : Int
  a : Int
  deriving DecidableEq, Inhabited
def poR (p : Po) : List D := [.i .i64 p.day, .i .i64 p.m, .i .u8 p.k, .i .i64 p.a]
structure Led where
  st : Int
  due : List Int
  po : List Po
  deriving DecidableEq, Inhabited
def ledD (l : Led) (x y : D) : D := .ag [.i .i64 l.st, x, y]
structure IsLed (l : Led) (d : D) : Prop where
  h : ∃ x y, d = ledD l x y ∧ Sl 1 (l.due.map iR) x ∧ Sl 4 (l.po.map poR) y
theorem IsLed.plain {l : Led} {d : D} (h : IsLed l d) : d.plain = true := by
  obtain ⟨⟨x, y, rfl, hx, hy⟩⟩ := h
  simp only [ledD, plain_ag, List.all_cons, List.all_nil, flat_i, hx.flat, hy.flat, Bool.and_self]
structure LedR (l : Led) : Prop where
  st : 0 ≤ l.st ∧ l.st ≤ 2400
  n : l.due.length ≤ 1200
def hasL (l : Led) (m : Int) : Bool := decide (l.st ≤ m) && decide (m < l.st + l.due.length)
theorem has54 {l : Led} {d : D} (h : IsLed l d) (r : LedR l) {m : Int} : PRet VS 64 [d, .i .i64 m] (.b (hasL l m)) := by
  obtain ⟨⟨x, y, rfl, hx, hy⟩⟩ := h
  have h1 := r.st
  have h2 := r.n
  refine .body (vf := v64) rfl rfl ?_
  simp (disch := omega) only [go_sem, Nat.reduceAdd, Nat.reduceSub, Nat.reduceLeDiff, v64, ledD, hx.n, wr, hasL]
  grind
theorem c54 {l : Led} {d : D} (h : IsLed l d) (r : LedR l) {m : Int} {H : Heap} {K : CR → Prop} : CallQ VS 64 [d, .i .i64 m] H K ↔ K (.ret (.b (hasL l m)) H) :=
  (has54 h r).c (vf := v64) rfl rfl (by simp [h.plain]; rfl) (.inl rfl)
def kPlus (k : Int) : Bool := decide (k = 1) || decide (k = 2) || decide (k = 3) || decide (k = 6)
def kMinus (k : Int) : Bool := decide (k = 4) || decide (k = 5)
def fitsP (l : Led) (p : Po) : Bool := decide (0 ≤ p.day) && decide (p.day < 65536) && hasL l p.m && (kPlus p.k && decide (0 ≤ p.a) && decide (p.a ≤ 1099511627776) || kMinus p.k && decide (-1099511627776 ≤ p.a) && decide (p.a ≤ 0))
set_option maxRecDepth 100000 in
theorem fits93 {l : Led} {d : D} (h : IsLed l d) (r : LedR l) {p : Po} : PRet VS 109 [d, .ag (poR p)] (.b (fitsP l p)) := by
  have e54 := fun {H K} => c54 h r (m := p.m) (H := H) (K := K)
  obtain ⟨⟨x, y, rfl, hx, hy⟩⟩ := h
  refine .body (vf := v109) rfl rfl ?_
  simp only [ledD] at e54
  obtain ⟨day, m, k, a⟩ := p
  simp only at e54
  rcases (by omega : k = 1 ∨ k = 2 ∨ k = 3 ∨ k = 4 ∨ k = 5 ∨ k = 6 ∨ (k ≠ 1 ∧ k ≠ 2 ∧ k ≠ 3 ∧ k ≠ 4 ∧ k ≠ 5 ∧ k ≠ 6)) with rfl | rfl | rfl | rfl | rfl | rfl | ⟨n1, n2, n3, n4, n5, n6⟩
  case inr.inr.inr.inr.inr.inr =>
    simp (disch := omega) only [go_sem, Nat.reduceAdd, Nat.reduceSub, Nat.reduceLeDiff, Int.reduceNeg, v109, ledD, poR, e54, fitsP, kPlus, kMinus, decide_eq_false n1, decide_eq_false n2, decide_eq_false n3, decide_eq_false n4, decide_eq_false n5, decide_eq_false n6]
    repeat' first | (refine And.intro ?_ ?_) | intro _
    all_goals grind
  all_goals
    simp (disch := omega) only [go_sem, Nat.reduceAdd, Nat.reduceSub, Nat.reduceLeDiff, Int.reduceEq, Int.reduceNeg, v109, ledD, poR, e54, fitsP, kPlus, kMinus]
    repeat' first | (refine And.intro ?_ ?_) | intro _
    all_goals grind
theorem c93 {l : Led} {d : D} (h : IsLed l d) (r : LedR l) {p : Po} {H : Heap} {K : CR → Prop} : CallQ VS 109 [d, .ag (poR p)] H K ↔ K (.ret (.b (fitsP l p)) H) :=
  (fits93 h r).c (vf := v109) rfl rfl (by simp [h.plain]; rfl) (.inl rfl)
def followP (l : Led) : List Po → Int → Bool
  | [], _ => true
  | p :: ps, day => fitsP l p && decide (day ≤ p.day) && followP l ps p.day
structure folTo (l : Led) (ps : List Po) (day : Int) (i : Nat) (cur : Int) : Prop where
  e : followP l ps day = followP l (ps.drop i) cur
theorem follow80 {l : Led} {d y : D} {ps : List Po} (h : IsLed l d) (r : LedR l) (hy : Sl 4 (ps.map poR) y) (hn : ps.length ≤ 1000000) {day : Int} : PRet VS 97 [d, y, .i .i64 day] (.b (followP l ps day)) := by
  have e93 := fun {p H K} => c93 h r (p := p) (H := H) (K := K)
  obtain ⟨⟨x, z1, rfl, hx, hz⟩⟩ := h
  refine .body (vf := v97) rfl rfl ?_
  simp only [ledD] at e93
  simp (disch := omega) only [go_sem, Nat.reduceAdd, Nat.reduceSub, v97, ledD, hy.n]
  refine Run.up (fun i st => ∃ cur a4 a5 a10, folTo l ps day i cur ∧ st = ⟨[.ag [.i .i64 l.st, x, z1], y, .i .i64 cur, .b false, a4, a5, .i .i64 i, .i .i64 ps.length, y, .bx [.i .i64 l.st, x, z1], a10], []⟩) ps.length ⟨day, .u, .u, .u, ⟨rfl⟩, rfl⟩ ?_
  rintro i st hi ⟨cur, a4, a5, a10, hv, rfl⟩
  by_cases hlt : i < ps.length
  · have hlt' : decide ((i : Int) < (ps.length : Int)) = true := by simpa using hlt
    have e93i := fun {H K} => e93 (p := ps[i]!) (H := H) (K := K)
    have hd : ps.drop i = ps[i]! :: ps.drop (i + 1) := by rw [List.drop_eq_getElem_cons hlt, getElem!_pos ps i hlt]
    have hve := hv.e
    rw [hd, followP] at hve
    simp only [poR] at e93i
    simp (disch := omega) only [go_sem, Nat.reduceAdd, Nat.reduceLeDiff, v97l0, hy.q, poR, wr, hlt', e93i]
    refine ⟨⟨by omega, by omega⟩, fun hf => ?_, fun hf => ⟨fun hc => ?_, fun hc => ⟨hlt, ⟨?_⟩⟩⟩⟩
    · rw [hve, hf]; rfl
    · rw [hve, hf, decide_eq_false (by omega)]; rfl
    · rw [hve, hf, decide_eq_true (by omega)]; rfl
  · have : i = ps.length := by omega
    subst this
    have hve := hv.e
    rw [List.drop_length, followP] at hve
    have hlt' : decide ((ps.length : Int) < (ps.length : Int)) = false := by simp
    simp (disch := omega) only [go_sem, v97l0, hlt']
    rw [hve]
theorem c80 {l : Led} {d y : D} {ps : List Po} (h : IsLed l d) (r : LedR l) (hy : Sl 4 (ps.map poR) y) (hn : ps.length ≤ 1000000) {day : Int} {H : Heap} {K : CR → Prop} : CallQ VS 97 [d, y, .i .i64 day] H K ↔ K (.ret (.b (followP l ps day)) H) :=
  (follow80 h r hy hn).c (vf := v97) rfl rfl (by simp [h.plain, hy.pl]; rfl) (.inl rfl)
theorem due79 {n : Int} : PRet VS 96 [.i .i64 n] (.b (decide (n < 0) || decide (1099511627776 < n))) := by
  refine .body (vf := v96) rfl rfl ?_
  simp (disch := omega) only [go_sem, Nat.reduceSub, v96]
  grind
theorem c79 (n : Int) {H : Heap} (K : CR → Prop) : CallQ VS 96 [.i .i64 n] H K ↔ K (.ret (.b (decide (n < 0) || decide (1099511627776 < n))) H) :=
  (due79 (n := n)).c (vf := v96) rfl rfl rfl (.inl rfl)
theorem c78 {l : List Int} {x : D} (h : Sl 1 (l.map iR) x) (hl : l.length < 1099511627776) {H : Heap} {K : CR → Prop} : CallQ VS 95 [x, .fn (.func 96) [] []] H K ↔ K (.ret (.b (l.any fun n => decide (n < 0) || decide (1099511627776 < n))) H) :=
  cf_q (V := VS) (f := 95) (h := 108) (w := 1) (agg := false) (key := fun n => .i .i64 n) (g := 96) (cp := []) rfl rfl h hl (fun _ => rfl) (fun _ => rfl) (fun a K => c79 a K)
def validL (l : Led) : Bool := decide (0 ≤ l.st) && decide (l.st ≤ 2400) && decide (l.due.length ≤ 1200) && decide (l.st + l.due.length ≤ 2400) && !(l.due.any fun n => decide (n < 0) || decide (1099511627776 < n)) && decide (l.po.length ≤ 4000) && followP l l.po 0
theorem valid44 {l : Led} {d : D} (h : IsLed l d) (h1 : l.due.length < 1099511627776) : PRet VS 56 [d] (.b (validL l)) := by
  by_cases hh : 0 ≤ l.st ∧ l.st ≤ 2400 ∧ l.due.length ≤ 1200
  case neg =>
    obtain ⟨⟨x, y, rfl, hx, hy⟩⟩ := h
    refine .body (vf := v56) rfl rfl ?_
    have hv : validL l = false := by
      simp only [validL]
      grind
    rw [hv]
    simp only [go_sem, Nat.reduceAdd, Nat.reduceSub, Nat.reduceLeDiff, v56, ledD, hx.n]
    grind
  · have r : LedR l := ⟨⟨hh.1, hh.2.1⟩, hh.2.2⟩
    by_cases hp : l.po.length ≤ 4000
    · have e80 := fun {y H K} (hy : Sl 4 (l.po.map poR) y) => c80 h r hy (by omega) (day := 0) (H := H) (K := K)
      obtain ⟨⟨x, y, rfl, hx, hy⟩⟩ := h
      have e78 := fun {H K} => c78 hx h1 (H := H) (K := K)
      have e80 := fun {H K} => e80 hy (H := H) (K := K)
      simp only [ledD] at e80
      refine .body (vf := v56) rfl rfl ?_
      have hp' : decide ((l.po.length : Int) ≤ 4000) = true := decide_eq_true (by omega)
      simp (disch := omega) only [go_sem, Nat.reduceAdd, Nat.reduceSub, Nat.reduceLeDiff, v56, ledD, hx.n, hy.n, wr, e78, e80, hp', validL]
      grind
    · obtain ⟨⟨x, y, rfl, hx, hy⟩⟩ := h
      have e78 := fun {H K} => c78 hx h1 (H := H) (K := K)
      refine .body (vf := v56) rfl rfl ?_
      have hp' : decide ((l.po.length : Int) ≤ 4000) = false := decide_eq_false (by omega)
      simp (disch := omega) only [go_sem, Nat.reduceAdd, Nat.reduceSub, Nat.reduceLeDiff, v56, ledD, hx.n, hy.n, wr, e78, hp', validL]
      grind
theorem c44 {l : Led} {d : D} (h : IsLed l d) (h1 : l.due.length < 1099511627776) {H : Heap} {K : CR → Prop} : CallQ VS 56 [d] H K ↔ K (.ret (.b (validL l)) H) :=
  (valid44 h h1).c (vf := v56) rfl rfl (by simp [h.plain]) (.inl rfl)
open Go.Dm Go.Proofs
theorem has67 {l : Led} {d : D} (h : IsLed l d) (r : LedR l) {m : Int} : PRet VS 76 [d, .i .i64 m] (.b (hasL l m)) := by
  obtain ⟨⟨x, y, rfl, hx, hy⟩⟩ := h
  have h1 := r.st
  have h2 := r.n
  refine .body (vf := v76) rfl rfl ?_
  simp (disch := omega) only [go_sem, Nat.reduceAdd, Nat.reduceSub, v76, ledD]
  refine Run.up (fun i st => (∀ k : Nat, k < i → l.st + k ≠ m) ∧ ∃ a3 a4, st = ⟨[.ag [.i .i64 l.st, x, y], .i .i64 m, .b false, a3, a4, .i .i64 i, .bx [.i .i64 l.st, x, y]], []⟩) l.due.length ⟨fun k hk => absurd hk (Nat.not_lt_zero k), .u, .u, rfl⟩ ?_
  rintro i st hi ⟨hv, a3, a4, rfl⟩
  have hyes : (i : Int) < l.due.length → l.st + i = m → hasL l m = true := fun a b => by
    simp only [hasL, Bool.and_eq_true, decide_eq_true_eq]; omega
  have hno : ¬ (i : Int) < l.due.length → hasL l m = false := fun a => by
    simp only [hasL, Bool.and_eq_false_iff, decide_eq_false_iff_not]
    by_cases hm : l.st ≤ m ∧ m < l.st + l.due.length
    · have := hv (m - l.st).toNat (by omega)
      omega
    · omega
  simp (disch := omega) only [go_sem, Nat.reduceAdd, Nat.reduceLeDiff, v76l0, hx.n, wr]
  refine ⟨fun a => ⟨fun b => (hyes a b).symm, fun b => ⟨by omega, fun k hk => ?_⟩⟩, fun a => (hno a).symm⟩
  by_cases e : k = i
  · subst e; exact b
  · exact hv k (by omega)
theorem c67 {l : Led} {d : D} (h : IsLed l d) (r : LedR l) {m : Int} {H : Heap} {K : CR → Prop} : CallQ VS 76 [d, .i .i64 m] H K ↔ K (.ret (.b (hasL l m)) H) :=
  (has67 h r).c (vf := v76) rfl rfl (by simp [h.plain]; rfl) (.inl rfl)
set_option maxRecDepth 100000 in
theorem right102 {l : Led} {d : D} (h : IsLed l d) (r : LedR l) {p : Po} : PRet VS 120 [d, .ag (poR p)] (.b (fitsP l p)) := by
  have e67 := fun {H K} => c67 h r (m := p.m) (H := H) (K := K)
  obtain ⟨⟨x, y, rfl, hx, hy⟩⟩ := h
  refine .body (vf := v120) rfl rfl ?_
  simp only [ledD] at e67
  obtain ⟨day, m, k, a⟩ := p
  simp only at e67
  rcases (by omega : k = 1 ∨ k = 2 ∨ k = 3 ∨ k = 4 ∨ k = 5 ∨ k = 6 ∨ (k ≠ 1 ∧ k ≠ 2 ∧ k ≠ 3 ∧ k ≠ 4 ∧ k ≠ 5 ∧ k ≠ 6)) with rfl | rfl | rfl | rfl | rfl | rfl | ⟨n1, n2, n3, n4, n5, n6⟩
  case inr.inr.inr.inr.inr.inr =>
    simp (disch := omega) only [go_sem, Nat.reduceAdd, Nat.reduceSub, Nat.reduceLeDiff, Int.reduceNeg, v120, ledD, poR, e67, fitsP, kPlus, kMinus, decide_eq_false n1, decide_eq_false n2, decide_eq_false n3, decide_eq_false n4, decide_eq_false n5, decide_eq_false n6]
    repeat' first | (refine And.intro ?_ ?_) | intro _
    all_goals first | omega | grind
  all_goals
    simp (disch := omega) only [go_sem, Nat.reduceAdd, Nat.reduceSub, Nat.reduceLeDiff, Int.reduceLE, Int.reduceLT, Int.reduceEq, Int.reduceNeg, v120, ledD, poR, e67, fitsP, kPlus, kMinus]
    repeat' first | (refine And.intro ?_ ?_) | intro _
    all_goals first | omega | grind
theorem c102 {l : Led} {d : D} (h : IsLed l d) (r : LedR l) {p : Po} {H : Heap} {K : CR → Prop} : CallQ VS 120 [d, .ag (poR p)] H K ↔ K (.ret (.b (fitsP l p)) H) :=
  (right102 h r).c (vf := v120) rfl rfl (by simp [h.plain]; rfl) (.inl rfl)
theorem fitsP_day {l : Led} {p : Po} (h : fitsP l p = true) : 0 ≤ p.day := by
  simp only [fitsP, Bool.and_eq_true, decide_eq_true_eq] at h
  exact h.1.1.1
theorem posts94 {l : Led} {d y : D} {ps : List Po} (h : IsLed l d) (r : LedR l) (hy : Sl 4 (ps.map poR) y) (hn : ps.length ≤ 1000000) : PRet VS 112 [d, y] (.b (followP l ps 0)) := by
  have e102 := fun {p H K} => c102 h r (p := p) (H := H) (K := K)
  obtain ⟨⟨x, z1, rfl, hx, hz⟩⟩ := h
  refine .body (vf := v112) rfl rfl ?_
  simp only [ledD] at e102
  simp (disch := omega) only [go_sem, Nat.reduceAdd, Nat.reduceSub, v112, ledD]
  refine Run.up (fun i st => ∃ a3 a4, folTo l ps 0 i (if i = 0 then 0 else ps[i - 1]!.day) ∧ st = ⟨[.ag [.i .i64 l.st, x, z1], y, .b false, a3, a4, .i .i64 i, .bx [.i .i64 l.st, x, z1]], []⟩) ps.length ⟨.u, .u, ⟨rfl⟩, rfl⟩ ?_
  rintro i st hi ⟨a3, a4, hv, rfl⟩
  by_cases hlt : i < ps.length
  · have hlt' : decide ((i : Int) < (ps.length : Int)) = true := by simpa using hlt
    have e102i := fun {H K} => e102 (p := ps[i]!) (H := H) (K := K)
    have hd : ps.drop i = ps[i]! :: ps.drop (i + 1) := by rw [List.drop_eq_getElem_cons hlt, getElem!_pos ps i hlt]
    have hve := hv.e
    rw [hd, followP] at hve
    have hfd := @fitsP_day l ps[i]!
    simp only [poR] at e102i
    have hs : (if i + 1 = 0 then 0 else ps[i + 1 - 1]!.day) = ps[i]!.day := by rw [if_neg (by omega), Nat.add_sub_cancel]
    rcases Nat.eq_zero_or_pos i with rfl | hpos
    · rw [if_pos rfl] at hve
      simp (disch := omega) only [go_sem, Nat.reduceAdd, Nat.reduceSub, Int.reduceLE, Int.reduceLT, reduceCtorEq, v112l0, hy.q, hy.n, hy.under, poR, wr, e102i]
      refine ⟨fun _ => ⟨by omega, fun hf => ?_, fun hf => ⟨hlt, ⟨?_⟩⟩⟩, fun hn => absurd (by omega) hn⟩
      · rw [hve, hf]; rfl
      · rw [hve, hf, decide_eq_true (hfd hf)]; rfl
    · have hpos' : decide ((i : Int) > 0) = true := by simpa using hpos
      rw [if_neg (by omega)] at hve
      simp (disch := omega) only [go_sem, Nat.reduceAdd, Nat.reduceLeDiff, reduceCtorEq, v112l0, hy.q, hy.n, hy.under, poR, wr, hlt', e102i, hpos']
      refine ⟨⟨by omega, by omega⟩, fun hf => ?_, fun hf => ⟨⟨by omega, by omega⟩, ⟨by omega, by omega⟩, fun hc => ?_, fun hc => ⟨hlt, ⟨?_⟩⟩⟩⟩
      · rw [hve, hf]; rfl
      · rw [hve, hf, decide_eq_false (by omega)]; rfl
      · rw [hve, hf, decide_eq_true (by omega), Nat.add_sub_cancel]; rfl
  · have : i = ps.length := by omega
    subst this
    have hve := hv.e
    rw [List.drop_length, followP] at hve
    have hlt' : decide ((ps.length : Int) < (ps.length : Int)) = false := by simp
    simp (disch := omega) only [go_sem, reduceCtorEq, v112l0, hy.n, hlt']
    rw [hve]
theorem c94 {l : Led} {d y : D} {ps : List Po} (h : IsLed l d) (r : LedR l) (hy : Sl 4 (ps.map poR) y) (hn : ps.length ≤ 1000000) {H : Heap} {K : CR → Prop} : CallQ VS 112 [d, y] H K ↔ K (.ret (.b (followP l ps 0)) H) :=
  (posts94 h r hy hn).c (vf := v112) rfl rfl (by simp [h.plain, hy.pl]) (.inl rfl)
structure dueTo (l : List Int) (i : Nat) : Prop where
  h : ∀ k, k < i → 0 ≤ l[k]! ∧ l[k]! ≤ 1099511627776
theorem valid82 {l : Led} {d : D} (h : IsLed l d) (h1 : l.due.length < 1099511627776) : PRet VS 102 [d] (.b (validL l)) := by
  by_cases hh : 0 ≤ l.st ∧ l.st ≤ 2400 ∧ l.due.length ≤ 1200 ∧ l.st + l.due.length ≤ 2400 ∧ l.po.length ≤ 4000
  case neg =>
    obtain ⟨⟨x, y, rfl, hx, hy⟩⟩ := h
    refine .body (vf := v102) rfl rfl ?_
    have hv : validL l = false := by
      simp only [validL]
      grind
    rw [hv]
    by_cases h3 : 0 ≤ l.st ∧ l.st ≤ 2400
    · simp (disch := omega) only [go_sem, Nat.reduceAdd, Nat.reduceSub, Nat.reduceLeDiff, v102, ledD, hx.n, hy.n, wr]
      grind
    · simp only [go_sem, Nat.reduceAdd, Nat.reduceSub, Nat.reduceLeDiff, v102, ledD, hx.n]
      grind
  · have r : LedR l := ⟨⟨hh.1, hh.2.1⟩, hh.2.2.1⟩
    obtain ⟨s1, s2, s3, s4, s5⟩ := hh
    have e94 := fun {y H K} (hy : Sl 4 (l.po.map poR) y) => c94 h r hy (by omega) (H := H) (K := K)
    obtain ⟨⟨x, y, rfl, hx, hy⟩⟩ := h
    have e94 := fun {H K} => e94 hy (H := H) (K := K)
    simp only [ledD] at e94
    refine .body (vf := v102) rfl rfl ?_
    have b1 : decide (l.st < 0) = false := decide_eq_false (by omega)
    have b2 : decide (l.st > 2400) = false := decide_eq_false (by omega)
    have b3 : decide ((l.due.length : Int) > 1200) = false := decide_eq_false (by omega)
    have b4 : decide (l.st + (l.due.length : Int) > 2400) = false := decide_eq_false (by omega)
    have b5 : decide ((l.po.length : Int) > 4000) = false := decide_eq_false (by omega)
    simp (disch := omega) only [go_sem, Nat.reduceAdd, Nat.reduceSub, Nat.reduceLeDiff, v102, ledD, hx.n, hy.n, wr, b1, b2, b3, b4, b5]
    have hbad : ∀ k, k < l.due.length → (l.due[k]! < 0 ∨ 1099511627776 < l.due[k]!) → validL l = false := fun k hk hb => by
      have : (l.due.any fun n => decide (n < 0) || decide (1099511627776 < n)) = true := List.any_eq_true.2 ⟨l.due[k]!, by rw [getElem!_pos l.due k hk]; exact List.getElem_mem _, by simpa using hb⟩
      simp only [validL, this, Bool.not_true, Bool.and_false, Bool.false_and]
    refine Run.up (fun i st => dueTo l.due i ∧ ∃ a2 a3 a4, st = ⟨[.ag [.i .i64 l.st, x, y], .b false, a2, a3, a4, .bx [.i .i64 l.st, x, y], .i .i64 i], []⟩) l.due.length ⟨⟨fun k hk => absurd hk (Nat.not_lt_zero k)⟩, .b false, .u, .u, rfl⟩ ?_
    rintro i st hi ⟨hv, a2, a3, a4, rfl⟩
    by_cases hlt : i < l.due.length
    · have hlt' : decide ((i : Int) < (l.due.length : Int)) = true := by simpa using hlt
      simp (disch := omega) only [go_sem, Nat.reduceAdd, Nat.reduceLeDiff, v102l0, hx.q, hx.n, iR, wr, hlt']
      refine ⟨by omega, fun hb => (hbad i hlt (.inl hb)).symm, fun hb => ⟨by omega, fun hc => (hbad i hlt (.inr hc)).symm, fun hc => ⟨hlt, ⟨fun k hk => ?_⟩⟩⟩⟩
      by_cases e : k = i
      · subst e; omega
      · exact hv.h k (by omega)
    · have : i = l.due.length := by omega
      subst this
      have hlt' : decide ((l.due.length : Int) < (l.due.length : Int)) = false := by simp
      have hany : (l.due.any fun n => decide (n < 0) || decide (1099511627776 < n)) = false := List.any_eq_false.2 fun n hn => by
        obtain ⟨k, hk, rfl⟩ := List.mem_iff_getElem.1 hn
        have := hv.h k hk
        rw [getElem!_pos l.due k hk] at this
        simp; omega
      have hval : validL l = followP l l.po 0 := by
        simp only [validL, hany, decide_eq_true s1, decide_eq_true s2, decide_eq_true s3, decide_eq_true s4, decide_eq_true s5, Bool.not_false, Bool.true_and, Bool.and_true]
      simp (disch := omega) only [go_sem, Nat.reduceAdd, Nat.reduceLeDiff, v102l0, hx.n, hlt', e94]
      rw [hval]
theorem c82 {l : Led} {d : D} (h : IsLed l d) (h1 : l.due.length < 1099511627776) {H : Heap} {K : CR → Prop} : CallQ VS 102 [d] H K ↔ K (.ret (.b (validL l)) H) :=
  (valid82 h h1).c (vf := v102) rfl rfl (by simp [h.plain]) (.inl rfl)
open Go.Dm Go.Proofs
def sw {α : Type} [Inhabited α] (w : α → Int) (l : List α) : Nat → Int
  | 0 => 0
  | i + 1 => sw w l i + w l[i]!
theorem sw_b {α : Type} [Inhabited α] {w : α → Int} {l : List α} {B : Int} (hB : ∀ x ∈ l, -B ≤ w x ∧ w x ≤ B) : ∀ i : Nat, i ≤ l.length → -(B * i) ≤ sw w l i ∧ sw w l i ≤ B * i
  | 0, _ => by simp [sw]
  | i + 1, h => by
    have ih := sw_b hB i (by omega)
    have hx := hB l[i]! (by rw [getElem!_pos l i (by omega)]; exact List.getElem_mem _)
    have e : B * ((i + 1 : Nat) : Int) = B * (i : Int) + B := by rw [Int.natCast_succ, Int.mul_add, Int.mul_one]
    rw [sw, e]
    omega
theorem sum60 {ps : List Po} {y : D} (hy : Sl 4 (ps.map poR) y) (hn : ps.length ≤ 4000) {w : Po → Int} (hw : ∀ p ∈ ps, -1099511627776 ≤ w p ∧ w p ≤ 1099511627776) {g : FuncId} {cp : List D} {H : Heap}
    (hg : ∀ p K, CallQ VS g (.ag (poR p) :: cp) H K ↔ K (.ret (.i .i64 (w p)) H)) {K : CR → Prop} : CallQ VS 61 [y, .fn (.func g) [] cp] H K ↔ K (.ret (.i .i64 (sw w ps ps.length)) H) := by
  refine CallQ_ret (Ret.iff_q.2 (.body (vf := v61) rfl rfl rfl ?_))
  simp only [go_sem, Nat.reduceSub, v61, hy.n]
  refine Run.up (fun i s => ∃ a3 a8, s = ⟨[y, .fn (.func g) [] cp, .i .i64 0, a3, .i .i64 (sw w ps i), .i .i64 i, .i .i64 ps.length, y, a8], H⟩) ps.length ⟨.u, .u, rfl⟩ ?_
  rintro i s hi ⟨a3, a8, rfl⟩
  have hb := fun j hj => sw_b hw j hj
  by_cases hlt : i < ps.length
  · have hlt' : decide ((i : Int) < (ps.length : Int)) = true := by simpa using hlt
    have h1 := hb (i + 1) (by omega)
    have hgi := hg ps[i]!
    simp only [sw] at h1
    simp only [poR] at hgi
    simp (disch := omega) only [go_sem, Nat.reduceAdd, v61l0, hy.q, poR, wr, hlt', sw, hgi]
    omega
  · have hlt' : decide ((i : Int) < (ps.length : Int)) = false := by simpa using hlt
    have : i = ps.length := by omega
    subst this
    simp (disch := omega) only [go_sem, v61l0, hlt']
def prin (p : Po) : Int := if p.k = 3 then 0 else p.a
theorem prin62 {p : Po} : PRet VS 63 [.ag (poR p)] (.i .i64 (prin p)) := by
  refine .body (vf := v63) rfl rfl ?_
  simp only [go_sem, Nat.reduceAdd, Nat.reduceSub, Nat.reduceLeDiff, v63, poR, prin]
  grind
theorem c62 {p : Po} {H : Heap} {K : CR → Prop} : CallQ VS 63 [.ag (poR p)] H K ↔ K (.ret (.i .i64 (prin p)) H) :=
  prin62.c (vf := v63) rfl rfl rfl (.inl rfl)
def postM (m : Int) (p : Po) : Int := if p.m = m then prin p else 0
theorem post81 {p : Po} {m : Int} {K : CR → Prop} : CallQ VS 98 [.ag (poR p), .hp 0 0] [.hb 3 [.i .i64 m]] K ↔ K (.ret (.i .i64 (postM m p)) [.hb 3 [.i .i64 m]]) := by
  have e62 := fun {H K} => c62 (p := p) (H := H) (K := K)
  simp only [poR] at e62
  refine CallQ_ret (Ret.iff_q.2 (.body (vf := v98) rfl rfl rfl ?_))
  simp only [go_sem, Nat.reduceAdd, Nat.reduceSub, Nat.reduceLeDiff, v98, poR, e62, postM]
  exact ⟨fun h => by rw [if_neg h], fun h => by rw [if_pos h]⟩
def postedL (l : Led) (m : Int) : Int := sw (postM m) l.po l.po.length
theorem prin_b {p : Po} (h : -1099511627776 ≤ p.a ∧ p.a ≤ 1099511627776) (m : Int) : -1099511627776 ≤ postM m p ∧ postM m p ≤ 1099511627776 := by
  unfold postM prin
  split <;> (try split) <;> omega
theorem posted55 {l : Led} {d : D} (h : IsLed l d) (hn : l.po.length ≤ 4000) (hw : ∀ p ∈ l.po, -1099511627776 ≤ p.a ∧ p.a ≤ 1099511627776) {m : Int} : PRet VS 65 [d, .i .i64 m] (.i .i64 (postedL l m)) := by
  obtain ⟨⟨x, y, rfl, hx, hy⟩⟩ := h
  refine .body (vf := v65) rfl rfl ?_
  have e60 := fun {K} => sum60 hy hn (w := postM m) (fun p hp => prin_b (hw p hp) m) (g := 98) (cp := [.hp 0 0]) (H := [.hb 3 [.i .i64 m]]) (fun p K => post81) (K := K)
  simp only [go_sem, Nat.reduceAdd, Nat.reduceSub, v65, ledD, e60, postedL]
theorem c55 {l : Led} {d : D} (h : IsLed l d) (hn : l.po.length ≤ 4000) (hw : ∀ p ∈ l.po, -1099511627776 ≤ p.a ∧ p.a ≤ 1099511627776) {m : Int} {H : Heap} {K : CR → Prop} : CallQ VS 65 [d, .i .i64 m] H K ↔ K (.ret (.i .i64 (postedL l m)) H) :=
  (posted55 h hn hw).c (vf := v65) rfl rfl (by simp [h.plain]; rfl) (.inl rfl)
theorem follow_b {l : Led} : ∀ {ps : List Po} {day : Int}, followP l ps day = true → ∀ p ∈ ps, fitsP l p = true
  | [], _, _, p, hp => by cases hp
  | q :: ps, day, h, p, hp => by
    simp only [followP, Bool.and_eq_true] at h
    rcases List.mem_cons.1 hp with rfl | hp
    · exact h.1.1
    · exact follow_b h.2 p hp
theorem fitsP_a {l : Led} {p : Po} (h : fitsP l p = true) : -1099511627776 ≤ p.a ∧ p.a ≤ 1099511627776 := by
  simp only [fitsP, Bool.and_eq_true, Bool.or_eq_true, decide_eq_true_eq] at h
  omega
structure ValL (l : Led) : Prop where
  r : LedR l
  n : l.st + l.due.length ≤ 2400
  p : l.po.length ≤ 4000
  due : ∀ x ∈ l.due, 0 ≤ x ∧ x ≤ 1099511627776
  po : ∀ p ∈ l.po, fitsP l p = true
theorem validL_v {l : Led} (h : validL l = true) : ValL l := by
  simp only [validL, Bool.and_eq_true, decide_eq_true_eq, Bool.not_eq_true'] at h
  obtain ⟨⟨⟨⟨⟨⟨h1, h2⟩, h3⟩, h4⟩, h5⟩, h6⟩, h7⟩ := h
  refine ⟨⟨⟨h1, h2⟩, h3⟩, h4, h6, fun x hx => ?_, follow_b h7⟩
  have := List.any_eq_false.1 h5 x hx
  simp only [Bool.or_eq_true, decide_eq_true_eq] at this
  omega
theorem ValL.a {l : Led} (h : ValL l) : ∀ p ∈ l.po, -1099511627776 ≤ p.a ∧ p.a ≤ 1099511627776 := fun p hp => fitsP_a (h.po p hp)
theorem posted47 {l : Led} {d : D} (h : IsLed l d) (h1 : l.due.length < 1099511627776) (hv : validL l = true) {m : Int} (hm : hasL l m = true) : PRet VS 28 [d, .i .i64 m] (.tu [.i .i64 (postedL l m), .i .i64 0]) := by
  have v := validL_v hv
  have e44 := fun {H K} => c44 h h1 (H := H) (K := K)
  have e54 := fun {H K} => c54 h v.r (m := m) (H := H) (K := K)
  have e55 := fun {H K} => c55 h v.p v.a (m := m) (H := H) (K := K)
  obtain ⟨⟨x, y, rfl, hx, hy⟩⟩ := h
  refine .body (vf := v28) rfl rfl ?_
  simp only [ledD] at e44 e54 e55
  simp only [go_sem, Nat.reduceAdd, Nat.reduceSub, v28, ledD, e44, e54, e55, hv, hm]
theorem posted_b {l : Led} (v : ValL l) (m : Int) : -4398046511104000 ≤ postedL l m ∧ postedL l m ≤ 4398046511104000 := by
  have h := sw_b (w := postM m) (l := l.po) (B := 1099511627776) (fun p hp => prin_b (v.a p hp) m) l.po.length (Nat.le_refl _)
  have := v.p
  unfold postedL
  omega
end Go.Proofs.YtnhbopeopppojaaGreatDoor.Dv
