/-
  Layer 27 (ledger) over the machine: has, fits, follow, Valid.
-/
import Derived.Test.YtnhbopeopppojaaDoorSh
namespace Go.Proofs.YtnhbopeopppojaaDoor.Dv
open Go.Dm Go.Proofs

/-- A posting. -/
structure Po where
  day : Int
  m : Int
  k : Int
  a : Int
  deriving DecidableEq, Inhabited
def poR (p : Po) : List D := [.i .i64 p.day, .i .i64 p.m, .i .u8 p.k, .i .i64 p.a]
structure Led where
  st : Int
  due : List Int
  po : List Po
  deriving DecidableEq, Inhabited
def ledD (l : Led) (x y : D) : D := .ag [.i .i64 l.st, x, y]
structure IsLed (l : Led) (d : D) : Prop where
  h : ∃ x y, d = ledD l x y ∧ Sl 1 (l.due.map iR) x ∧ Sl 4 (l.po.map poR) y
theorem IsLed.plain {l : Led} {d : D} (h : IsLed l d) : d.plain = true := by
  obtain ⟨⟨x, y, rfl, hx, hy⟩⟩ := h
  simp only [ledD, plain_ag, List.all_cons, List.all_nil, flat_i, hx.flat, hy.flat, Bool.and_self]
/-- The start is in range, the months are few. -/
structure LedR (l : Led) : Prop where
  st : 0 ≤ l.st ∧ l.st ≤ 2400
  n : l.due.length ≤ 1200
def hasL (l : Led) (m : Int) : Bool := decide (l.st ≤ m) && decide (m < l.st + l.due.length)
theorem has54 {l : Led} {d : D} (h : IsLed l d) (r : LedR l) {m : Int} : PRet VS 54 [d, .i .i64 m] (.b (hasL l m)) := by
  obtain ⟨⟨x, y, rfl, hx, hy⟩⟩ := h
  have h1 := r.st
  have h2 := r.n
  refine .body (vf := v54) rfl rfl ?_
  simp (disch := omega) only [go_sem, Nat.reduceAdd, Nat.reduceSub, Nat.reduceLeDiff, v54, ledD, hx.n, wr, hasL]
  grind
theorem c54 {l : Led} {d : D} (h : IsLed l d) (r : LedR l) {m : Int} {H : Heap} {K : CR → Prop} : CallQ VS 54 [d, .i .i64 m] H K ↔ K (.ret (.b (hasL l m)) H) :=
  (has54 h r).c (vf := v54) rfl rfl (by simp [h.plain]; rfl) (.inl rfl)
def kPlus (k : Int) : Bool := decide (k = 1) || decide (k = 2) || decide (k = 3) || decide (k = 6)
def kMinus (k : Int) : Bool := decide (k = 4) || decide (k = 5)
def fitsP (l : Led) (p : Po) : Bool := decide (0 ≤ p.day) && decide (p.day < 65536) && hasL l p.m && (kPlus p.k && decide (0 ≤ p.a) && decide (p.a ≤ 1099511627776) || kMinus p.k && decide (-1099511627776 ≤ p.a) && decide (p.a ≤ 0))
set_option maxRecDepth 100000 in
theorem fits93 {l : Led} {d : D} (h : IsLed l d) (r : LedR l) {p : Po} : PRet VS 93 [d, .ag (poR p)] (.b (fitsP l p)) := by
  have e54 := fun {H K} => c54 h r (m := p.m) (H := H) (K := K)
  obtain ⟨⟨x, y, rfl, hx, hy⟩⟩ := h
  refine .body (vf := v93) rfl rfl ?_
  simp only [ledD] at e54
  obtain ⟨day, m, k, a⟩ := p
  simp only at e54
  rcases (by omega : k = 1 ∨ k = 2 ∨ k = 3 ∨ k = 4 ∨ k = 5 ∨ k = 6 ∨ (k ≠ 1 ∧ k ≠ 2 ∧ k ≠ 3 ∧ k ≠ 4 ∧ k ≠ 5 ∧ k ≠ 6)) with rfl | rfl | rfl | rfl | rfl | rfl | ⟨n1, n2, n3, n4, n5, n6⟩
  case inr.inr.inr.inr.inr.inr =>
    simp (disch := omega) only [go_sem, Nat.reduceAdd, Nat.reduceSub, Nat.reduceLeDiff, Int.reduceNeg, v93, ledD, poR, e54, fitsP, kPlus, kMinus, decide_eq_false n1, decide_eq_false n2, decide_eq_false n3, decide_eq_false n4, decide_eq_false n5, decide_eq_false n6]
    repeat' first | (refine And.intro ?_ ?_) | intro _
    all_goals grind
  all_goals
    simp (disch := omega) only [go_sem, Nat.reduceAdd, Nat.reduceSub, Nat.reduceLeDiff, Int.reduceEq, Int.reduceNeg, v93, ledD, poR, e54, fitsP, kPlus, kMinus]
    repeat' first | (refine And.intro ?_ ?_) | intro _
    all_goals grind
theorem c93 {l : Led} {d : D} (h : IsLed l d) (r : LedR l) {p : Po} {H : Heap} {K : CR → Prop} : CallQ VS 93 [d, .ag (poR p)] H K ↔ K (.ret (.b (fitsP l p)) H) :=
  (fits93 h r).c (vf := v93) rfl rfl (by simp [h.plain]; rfl) (.inl rfl)
/-- Postings fit, and their days don't decrease. -/
def followP (l : Led) : List Po → Int → Bool
  | [], _ => true
  | p :: ps, day => fitsP l p && decide (day ≤ p.day) && followP l ps p.day
structure folTo (l : Led) (ps : List Po) (day : Int) (i : Nat) (cur : Int) : Prop where
  e : followP l ps day = followP l (ps.drop i) cur
theorem follow80 {l : Led} {d y : D} {ps : List Po} (h : IsLed l d) (r : LedR l) (hy : Sl 4 (ps.map poR) y) (hn : ps.length ≤ 1000000) {day : Int} : PRet VS 80 [d, y, .i .i64 day] (.b (followP l ps day)) := by
  have e93 := fun {p H K} => c93 h r (p := p) (H := H) (K := K)
  obtain ⟨⟨x, z1, rfl, hx, hz⟩⟩ := h
  refine .body (vf := v80) rfl rfl ?_
  simp only [ledD] at e93
  simp (disch := omega) only [go_sem, Nat.reduceAdd, Nat.reduceSub, v80, ledD, hy.n]
  refine Run.up (fun i st => ∃ cur a4 a5 a10, folTo l ps day i cur ∧ st = ⟨[.ag [.i .i64 l.st, x, z1], y, .i .i64 cur, .b false, a4, a5, .i .i64 i, .i .i64 ps.length, y, .bx [.i .i64 l.st, x, z1], a10], []⟩) ps.length ⟨day, .u, .u, .u, ⟨rfl⟩, rfl⟩ ?_
  rintro i st hi ⟨cur, a4, a5, a10, hv, rfl⟩
  by_cases hlt : i < ps.length
  · have hlt' : decide ((i : Int) < (ps.length : Int)) = true := by simpa using hlt
    have e93i := fun {H K} => e93 (p := ps[i]!) (H := H) (K := K)
    have hd : ps.drop i = ps[i]! :: ps.drop (i + 1) := by rw [List.drop_eq_getElem_cons hlt, getElem!_pos ps i hlt]
    have hve := hv.e
    rw [hd, followP] at hve
    simp only [poR] at e93i
    simp (disch := omega) only [go_sem, Nat.reduceAdd, Nat.reduceLeDiff, v80l0, hy.q, poR, wr, hlt', e93i]
    refine ⟨⟨by omega, by omega⟩, fun hf => ?_, fun hf => ⟨fun hc => ?_, fun hc => ⟨hlt, ⟨?_⟩⟩⟩⟩
    · rw [hve, hf]; rfl
    · rw [hve, hf, decide_eq_false (by omega)]; rfl
    · rw [hve, hf, decide_eq_true (by omega)]; rfl
  · have : i = ps.length := by omega
    subst this
    have hve := hv.e
    rw [List.drop_length, followP] at hve
    have hlt' : decide ((ps.length : Int) < (ps.length : Int)) = false := by simp
    simp (disch := omega) only [go_sem, v80l0, hlt']
    rw [hve]
theorem c80 {l : Led} {d y : D} {ps : List Po} (h : IsLed l d) (r : LedR l) (hy : Sl 4 (ps.map poR) y) (hn : ps.length ≤ 1000000) {day : Int} {H : Heap} {K : CR → Prop} : CallQ VS 80 [d, y, .i .i64 day] H K ↔ K (.ret (.b (followP l ps day)) H) :=
  (follow80 h r hy hn).c (vf := v80) rfl rfl (by simp [h.plain, hy.pl]; rfl) (.inl rfl)
theorem due79 {n : Int} : PRet VS 79 [.i .i64 n] (.b (decide (n < 0) || decide (1099511627776 < n))) := by
  refine .body (vf := v79) rfl rfl ?_
  simp (disch := omega) only [go_sem, Nat.reduceSub, v79]
  grind
theorem c79 (n : Int) {H : Heap} (K : CR → Prop) : CallQ VS 79 [.i .i64 n] H K ↔ K (.ret (.b (decide (n < 0) || decide (1099511627776 < n))) H) :=
  (due79 (n := n)).c (vf := v79) rfl rfl rfl (.inl rfl)
theorem c78 {l : List Int} {x : D} (h : Sl 1 (l.map iR) x) (hl : l.length < 1099511627776) {H : Heap} {K : CR → Prop} : CallQ VS 78 [x, .fn (.func 79) [] []] H K ↔ K (.ret (.b (l.any fun n => decide (n < 0) || decide (1099511627776 < n))) H) :=
  cf_q (V := VS) (f := 78) (h := 92) (w := 1) (agg := false) (key := fun n => .i .i64 n) (g := 79) (cp := []) rfl rfl h hl (fun _ => rfl) (fun _ => rfl) (fun a K => c79 a K)
def validL (l : Led) : Bool := decide (0 ≤ l.st) && decide (l.st ≤ 2400) && decide (l.due.length ≤ 1200) && decide (l.st + l.due.length ≤ 2400) && !(l.due.any fun n => decide (n < 0) || decide (1099511627776 < n)) && decide (l.po.length ≤ 4000) && followP l l.po 0
theorem valid44 {l : Led} {d : D} (h : IsLed l d) (h1 : l.due.length < 1099511627776) : PRet VS 44 [d] (.b (validL l)) := by
  by_cases hh : 0 ≤ l.st ∧ l.st ≤ 2400 ∧ l.due.length ≤ 1200
  case neg =>
    obtain ⟨⟨x, y, rfl, hx, hy⟩⟩ := h
    refine .body (vf := v44) rfl rfl ?_
    have hv : validL l = false := by
      simp only [validL]
      grind
    rw [hv]
    simp only [go_sem, Nat.reduceAdd, Nat.reduceSub, Nat.reduceLeDiff, v44, ledD, hx.n]
    grind
  · have r : LedR l := ⟨⟨hh.1, hh.2.1⟩, hh.2.2⟩
    by_cases hp : l.po.length ≤ 4000
    · have e80 := fun {y H K} (hy : Sl 4 (l.po.map poR) y) => c80 h r hy (by omega) (day := 0) (H := H) (K := K)
      obtain ⟨⟨x, y, rfl, hx, hy⟩⟩ := h
      have e78 := fun {H K} => c78 hx h1 (H := H) (K := K)
      have e80 := fun {H K} => e80 hy (H := H) (K := K)
      simp only [ledD] at e80
      refine .body (vf := v44) rfl rfl ?_
      have hp' : decide ((l.po.length : Int) ≤ 4000) = true := decide_eq_true (by omega)
      simp (disch := omega) only [go_sem, Nat.reduceAdd, Nat.reduceSub, Nat.reduceLeDiff, v44, ledD, hx.n, hy.n, wr, e78, e80, hp', validL]
      grind
    · obtain ⟨⟨x, y, rfl, hx, hy⟩⟩ := h
      have e78 := fun {H K} => c78 hx h1 (H := H) (K := K)
      refine .body (vf := v44) rfl rfl ?_
      have hp' : decide ((l.po.length : Int) ≤ 4000) = false := decide_eq_false (by omega)
      simp (disch := omega) only [go_sem, Nat.reduceAdd, Nat.reduceSub, Nat.reduceLeDiff, v44, ledD, hx.n, hy.n, wr, e78, hp', validL]
      grind
theorem c44 {l : Led} {d : D} (h : IsLed l d) (h1 : l.due.length < 1099511627776) {H : Heap} {K : CR → Prop} : CallQ VS 44 [d] H K ↔ K (.ret (.b (validL l)) H) :=
  (valid44 h h1).c (vf := v44) rfl rfl (by simp [h.plain]) (.inl rfl)
end Go.Proofs.YtnhbopeopppojaaDoor.Dv
