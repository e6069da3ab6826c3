/-
  Layer 35's states over the machine: run.Valid and its reference.
-/
import Derived.Test.YtnhbopeopppojaaDoorTc
namespace Go.Proofs.YtnhbopeopppojaaDoor.Dv
open Go.Dm Go.Proofs

/-- A slip. -/
structure Sp where
  m : Int
  dy : Int
  f : Int
  t : Int
  nu : Int
  ac : Int
  g : Int
  x : Int
  ne : Int
  gone : Bool
  deriving DecidableEq, Inhabited
def spR (s : Sp) : List D := [.i .i64 s.m, .i .i64 s.dy, .i .i64 s.f, .i .i64 s.t, .i .i64 s.nu, .i .i64 s.ac, .i .i64 s.g, .i .i64 s.x, .i .i64 s.ne, .b s.gone]
structure RSt where
  l : Led
  sm : Int
  sg : Int
  sx : Int
  sl : List Sp
  deriving DecidableEq, Inhabited
def rsD (s : RSt) (x y zz : D) : D := .ag [.i .i64 s.l.st, x, y, .i .i64 s.sm, .i .i64 s.sg, .i .i64 s.sx, zz]
structure IsR (s : RSt) (d : D) : Prop where
  h : ∃ x y zz, d = rsD s x y zz ∧ Sl 1 (s.l.due.map iR) x ∧ Sl 4 (s.l.po.map poR) y ∧ Sl 10 (s.sl.map spR) zz
theorem IsR.plain {s : RSt} {d : D} (h : IsR s d) : d.plain = true := by
  obtain ⟨⟨x, y, zz, rfl, hx, hy, hz⟩⟩ := h
  simp only [rsD, plain_ag, List.all_cons, List.all_nil, flat_i, hx.flat, hy.flat, hz.flat, Bool.and_self]
theorem isLed_of {l : Led} {x y : D} (hx : Sl 1 (l.due.map iR) x) (hy : Sl 4 (l.po.map poR) y) : IsLed l (ledD l x y) := ⟨⟨x, y, rfl, hx, hy⟩⟩

def amt (n : Int) : Bool := decide (0 ≤ n) && decide (n ≤ 1099511627776)
def taxy (n : Int) : Bool := decide (-1099511627776 ≤ n) && decide (n ≤ 1099511627776)
@[go_sem] theorem c45 {n : Int} {H : Heap} {K : CR → Prop} : CallQ VS 45 [.i .i64 n] H K ↔ K (.ret (.b (amt n)) H) := by
  have h : PRet VS 45 [.i .i64 n] (.b (amt n)) := by
    refine .body (vf := v45) rfl rfl ?_
    simp only [go_sem, Nat.reduceSub, v45, amt]
    grind
  exact h.c (vf := v45) rfl rfl rfl (.inl rfl)
@[go_sem] theorem c46 {n : Int} {H : Heap} {K : CR → Prop} : CallQ VS 46 [.i .i64 n] H K ↔ K (.ret (.b (taxy n)) H) := by
  have h : PRet VS 46 [.i .i64 n] (.b (taxy n)) := by
    refine .body (vf := v46) rfl rfl ?_
    simp only [go_sem, Nat.reduceSub, Int.reduceNeg, v46, taxy]
    grind
  exact h.c (vf := v46) rfl rfl rfl (.inl rfl)

/-- A slip fits behind a month, a number, a place. -/
def slipF (n : Nat) (x : Sp) (m k t : Int) : Bool := decide (m < x.m) && decide (k < x.nu) && decide (t ≤ x.f) && decide (x.f ≤ x.t) && decide (x.t ≤ n) && amt x.g && taxy x.x
def slipsF (n : Nat) : List Sp → Int → Int → Int → Bool
  | [], _, _, _ => true
  | x :: xs, m, k, t => slipF n x m k t && slipsF n xs x.m x.nu x.t
def headR (s : RSt) : Bool := validL s.l && decide (s.sl.length ≤ 1200) && decide (0 ≤ s.sm) && decide (s.sm ≤ 2153) && amt s.sg && taxy s.sx
def validR (s : RSt) : Bool := headR s && slipsF s.l.po.length s.sl (-1) (-1) 0
structure slTo (n : Nat) (ss : List Sp) (i : Nat) (m k t : Int) : Prop where
  e : slipsF n ss (-1) (-1) 0 = slipsF n (ss.drop i) m k t
theorem slTo.cons {n : Nat} {ss : List Sp} {i : Nat} {m k t : Int} (h : slTo n ss i m k t) (hi : i < ss.length) : slipsF n ss (-1) (-1) 0 = (slipF n ss[i]! m k t && slipsF n (ss.drop (i + 1)) ss[i]!.m ss[i]!.nu ss[i]!.t) := by
  have hd : ss.drop i = ss[i]! :: ss.drop (i + 1) := by rw [List.drop_eq_getElem_cons hi, getElem!_pos ss i hi]
  rw [h.e, hd, slipsF]
set_option maxRecDepth 100000 in
theorem valid22 {s : RSt} {d : D} (h : IsR s d) (h1 : s.l.due.length < 1099511627776) (h2 : s.sl.length < 1099511627776) : PRet VS 22 [d] (.b (validR s)) := by
  obtain ⟨⟨x, y, zz, rfl, hx, hy, hz⟩⟩ := h
  have e44 := fun {H K} => c44 (isLed_of hx hy) h1 (H := H) (K := K)
  simp only [ledD] at e44
  refine .body (vf := v22) rfl rfl ?_
  by_cases hh : headR s = true
  case neg =>
    have hv : validR s = false := by simp only [validR, Bool.eq_false_iff.2 hh, Bool.false_and]
    have hh' : headR s = false := Bool.eq_false_iff.2 hh
    rw [hv]
    simp only [headR] at hh'
    simp (disch := omega) only [go_sem, Nat.reduceAdd, Nat.reduceSub, Nat.reduceLeDiff, Int.reduceNeg, v22, rsD, hz.n, e44]
    grind
  · have hv : validR s = slipsF s.l.po.length s.sl (-1) (-1) 0 := by simp only [validR, hh, Bool.true_and]
    rw [hv]
    simp only [headR, Bool.and_eq_true] at hh
    obtain ⟨⟨⟨⟨⟨g1, g2⟩, g3⟩, g4⟩, g5⟩, g6⟩ := hh
    have g2' : decide ((s.sl.length : Int) > 1200) = false := decide_eq_false (by have := of_decide_eq_true g2; omega)
    have g3' : decide (s.sm < 0) = false := decide_eq_false (by have := of_decide_eq_true g3; omega)
    have g4' : decide (s.sm > 2153) = false := decide_eq_false (by have := of_decide_eq_true g4; omega)
    simp (disch := omega) only [go_sem, Nat.reduceAdd, Nat.reduceSub, Nat.reduceLeDiff, Int.reduceNeg, v22, rsD, hz.n, e44, g1, g2', g3', g4', g5, g6]
    refine Run.up (fun i st => ∃ m k t a2 a3 a4 a5 a6 a7 a15, slTo s.l.po.length s.sl i m k t ∧ st = ⟨[rsD s x y zz, .b false, a2, a3, a4, a5, a6, a7, .bx [.i .i64 s.l.st, x, y, .i .i64 s.sm, .i .i64 s.sg, .i .i64 s.sx, zz], .i .i64 m, .i .i64 k, .i .i64 t, .i .i64 i, .i .i64 s.sl.length, zz, a15], []⟩) s.sl.length ⟨-1, -1, 0, _, _, .u, .u, .u, .u, .u, ⟨rfl⟩, rfl⟩ ?_
    rintro i st hi ⟨m, k, t, a2, a3, a4, a5, a6, a7, a15, hto, rfl⟩
    by_cases hlt : i < s.sl.length
    · have hlt' : decide ((i : Int) < (s.sl.length : Int)) = true := by simpa using hlt
      have hve := hto.cons hlt
      have nx : slTo s.l.po.length s.sl i m k t → slipF s.l.po.length s.sl[i]! m k t = true → slTo s.l.po.length s.sl (i + 1) s.sl[i]!.m s.sl[i]!.nu s.sl[i]!.t := fun _ hf => ⟨by rw [hve, hf]; rfl⟩
      have no : slipF s.l.po.length s.sl[i]! m k t = false → slipsF s.l.po.length s.sl (-1) (-1) 0 = false := fun hf => by rw [hve, hf]; rfl
      simp only [slipF] at nx no
      simp (disch := omega) only [go_sem, Nat.reduceAdd, Nat.reduceLeDiff, Int.reduceNeg, v22l0, rsD, hz.q, hy.n, spR, wr, hlt']
      repeat' first | (refine And.intro ?_ ?_) | intro _
      all_goals first | omega | grind
    · have : i = s.sl.length := by omega
      subst this
      have hve := hto.e
      rw [List.drop_length, slipsF] at hve
      have hlt' : decide ((s.sl.length : Int) < (s.sl.length : Int)) = false := by simp
      simp (disch := omega) only [go_sem, Int.reduceNeg, v22l0, hlt']
      rw [hve]
theorem c22 {s : RSt} {d : D} (h : IsR s d) (h1 : s.l.due.length < 1099511627776) (h2 : s.sl.length < 1099511627776) {H : Heap} {K : CR → Prop} : CallQ VS 22 [d] H K ↔ K (.ret (.b (validR s)) H) :=
  (valid22 h h1 h2).c (vf := v22) rfl rfl (by simp [h.plain]) (.inl rfl)
end Go.Proofs.YtnhbopeopppojaaDoor.Dv
