/-
  Runs; balances.
-/
import Derived.Test.YtnhbopeopppojaaGreatDoorTa
namespace Go.Proofs.YtnhbopeopppojaaGreatDoor.Dv
open Go.Dm Go.Proofs
structure Sp where
  m : Int
  dy : Int
  f : Int
  t : Int
  nu : Int
  ac : Int
  g : Int
  x : Int
  ne : Int
  gone : Bool
  deriving DecidableEq, Inhabited
def spR (s : Sp) : List D := [.i .i64 s.m, .i .i64 s.dy, .i .i64 s.f, .i .i64 s.t, .i .i64 s.nu, .i .i64 s.ac, .i .i64 s.g, .i .i64 s.x, .i .i64 s.ne, .b s.gone]
structure RSt where
  l : Led
  sm : Int
  sg : Int
  sx : Int
  sl : List Sp
  deriving DecidableEq, Inhabited
def rsD (s : RSt) (x y zz : D) : D := .ag [.i .i64 s.l.st, x, y, .i .i64 s.sm, .i .i64 s.sg, .i .i64 s.sx, zz]
structure IsR (s : RSt) (d : D) : Prop where
  h : ∃ x y zz, d = rsD s x y zz ∧ Sl 1 (s.l.due.map iR) x ∧ Sl 4 (s.l.po.map poR) y ∧ Sl 10 (s.sl.map spR) zz
theorem IsR.plain {s : RSt} {d : D} (h : IsR s d) : d.plain = true := by
  obtain ⟨⟨x, y, zz, rfl, hx, hy, hz⟩⟩ := h
  simp only [rsD, plain_ag, List.all_cons, List.all_nil, flat_i, hx.flat, hy.flat, hz.flat, Bool.and_self]
theorem isLed_of {l : Led} {x y : D} (hx : Sl 1 (l.due.map iR) x) (hy : Sl 4 (l.po.map poR) y) : IsLed l (ledD l x y) := ⟨⟨x, y, rfl, hx, hy⟩⟩
def amt (n : Int) : Bool := decide (0 ≤ n) && decide (n ≤ 1099511627776)
def taxy (n : Int) : Bool := decide (-1099511627776 ≤ n) && decide (n ≤ 1099511627776)
@[go_sem] theorem c45 {n : Int} {H : Heap} {K : CR → Prop} : CallQ VS 57 [.i .i64 n] H K ↔ K (.ret (.b (amt n)) H) := by
  have h : PRet VS 57 [.i .i64 n] (.b (amt n)) := by
    refine .body (vf := v57) rfl rfl ?_
    simp only [go_sem, Nat.reduceSub, v57, amt]
    grind
  exact h.c (vf := v57) rfl rfl rfl (.inl rfl)
@[go_sem] theorem c46 {n : Int} {H : Heap} {K : CR → Prop} : CallQ VS 58 [.i .i64 n] H K ↔ K (.ret (.b (taxy n)) H) := by
  have h : PRet VS 58 [.i .i64 n] (.b (taxy n)) := by
    refine .body (vf := v58) rfl rfl ?_
    simp only [go_sem, Nat.reduceSub, Int.reduceNeg, v58, taxy]
    grind
  exact h.c (vf := v58) rfl rfl rfl (.inl rfl)
def slipF (n : Nat) (x : Sp) (m k t : Int) : Bool := decide (m < x.m) && decide (k < x.nu) && decide (t ≤ x.f) && decide (x.f ≤ x.t) && decide (x.t ≤ n) && amt x.g && taxy x.x
def slipsF (n : Nat) : List Sp → Int → Int → Int → Bool
  | [], _, _, _ => true
  | x :: xs, m, k, t => slipF n x m k t && slipsF n xs x.m x.nu x.t
def headR (s : RSt) : Bool := validL s.l && decide (s.sl.length ≤ 1200) && decide (0 ≤ s.sm) && decide (s.sm ≤ 2153) && amt s.sg && taxy s.sx
def validR (s : RSt) : Bool := headR s && slipsF s.l.po.length s.sl (-1) (-1) 0
structure slTo (n : Nat) (ss : List Sp) (i : Nat) (m k t : Int) : Prop where
  e : slipsF n ss (-1) (-1) 0 = slipsF n (ss.drop i) m k t
theorem slTo.cons {n : Nat} {ss : List Sp} {i : Nat} {m k t : Int} (h : slTo n ss i m k t) (hi : i < ss.length) : slipsF n ss (-1) (-1) 0 = (slipF n ss[i]! m k t && slipsF n (ss.drop (i + 1)) ss[i]!.m ss[i]!.nu ss[i]!.t) := by
  have hd : ss.drop i = ss[i]! :: ss.drop (i + 1) := by rw [List.drop_eq_getElem_cons hi, getElem!_pos ss i hi]
  rw [h.e, hd, slipsF]
set_option maxRecDepth 100000 in
theorem valid22 {s : RSt} {d : D} (h : IsR s d) (h1 : s.l.due.length < 1099511627776) (h2 : s.sl.length < 1099511627776) : PRet VS 25 [d] (.b (validR s)) := by
  obtain ⟨⟨x, y, zz, rfl, hx, hy, hz⟩⟩ := h
  have e44 := fun {H K} => c44 (isLed_of hx hy) h1 (H := H) (K := K)
  simp only [ledD] at e44
  refine .body (vf := v25) rfl rfl ?_
  by_cases hh : headR s = true
  case neg =>
    have hv : validR s = false := by simp only [validR, Bool.eq_false_iff.2 hh, Bool.false_and]
    have hh' : headR s = false := Bool.eq_false_iff.2 hh
    rw [hv]
    simp only [headR] at hh'
    simp (disch := omega) only [go_sem, Nat.reduceAdd, Nat.reduceSub, Nat.reduceLeDiff, Int.reduceNeg, v25, rsD, hz.n, e44]
    grind
  · have hv : validR s = slipsF s.l.po.length s.sl (-1) (-1) 0 := by simp only [validR, hh, Bool.true_and]
    rw [hv]
    simp only [headR, Bool.and_eq_true] at hh
    obtain ⟨⟨⟨⟨⟨g1, g2⟩, g3⟩, g4⟩, g5⟩, g6⟩ := hh
    have g2' : decide ((s.sl.length : Int) > 1200) = false := decide_eq_false (by have := of_decide_eq_true g2; omega)
    have g3' : decide (s.sm < 0) = false := decide_eq_false (by have := of_decide_eq_true g3; omega)
    have g4' : decide (s.sm > 2153) = false := decide_eq_false (by have := of_decide_eq_true g4; omega)
    simp (disch := omega) only [go_sem, Nat.reduceAdd, Nat.reduceSub, Nat.reduceLeDiff, Int.reduceNeg, v25, rsD, hz.n, e44, g1, g2', g3', g4', g5, g6]
    refine Run.up (fun i st => ∃ m k t a2 a3 a4 a5 a6 a7 a15, slTo s.l.po.length s.sl i m k t ∧ st = ⟨[rsD s x y zz, .b false, a2, a3, a4, a5, a6, a7, .bx [.i .i64 s.l.st, x, y, .i .i64 s.sm, .i .i64 s.sg, .i .i64 s.sx, zz], .i .i64 m, .i .i64 k, .i .i64 t, .i .i64 i, .i .i64 s.sl.length, zz, a15], []⟩) s.sl.length ⟨-1, -1, 0, _, _, .u, .u, .u, .u, .u, ⟨rfl⟩, rfl⟩ ?_
    rintro i st hi ⟨m, k, t, a2, a3, a4, a5, a6, a7, a15, hto, rfl⟩
    by_cases hlt : i < s.sl.length
    · have hlt' : decide ((i : Int) < (s.sl.length : Int)) = true := by simpa using hlt
      have hve := hto.cons hlt
      have nx : slTo s.l.po.length s.sl i m k t → slipF s.l.po.length s.sl[i]! m k t = true → slTo s.l.po.length s.sl (i + 1) s.sl[i]!.m s.sl[i]!.nu s.sl[i]!.t := fun _ hf => ⟨by rw [hve, hf]; rfl⟩
      have no : slipF s.l.po.length s.sl[i]! m k t = false → slipsF s.l.po.length s.sl (-1) (-1) 0 = false := fun hf => by rw [hve, hf]; rfl
      simp only [slipF] at nx no
      simp (disch := omega) only [go_sem, Nat.reduceAdd, Nat.reduceLeDiff, Int.reduceNeg, v25l0, rsD, hz.q, hy.n, spR, wr, hlt']
      repeat' first | (refine And.intro ?_ ?_) | intro _
      all_goals first | omega | grind
    · have : i = s.sl.length := by omega
      subst this
      have hve := hto.e
      rw [List.drop_length, slipsF] at hve
      have hlt' : decide ((s.sl.length : Int) < (s.sl.length : Int)) = false := by simp
      simp (disch := omega) only [go_sem, Int.reduceNeg, v25l0, hlt']
      rw [hve]
theorem c22 {s : RSt} {d : D} (h : IsR s d) (h1 : s.l.due.length < 1099511627776) (h2 : s.sl.length < 1099511627776) {H : Heap} {K : CR → Prop} : CallQ VS 25 [d] H K ↔ K (.ret (.b (validR s)) H) :=
  (valid22 h h1 h2).c (vf := v25) rfl rfl (by simp [h.plain]) (.inl rfl)
open Go.Dm Go.Proofs
structure PrevS (ss : List Sp) (i : Nat) (m k t : Int) : Prop where
  zz : i = 0 → m = -1 ∧ k = -1 ∧ t = 0
  s : 0 < i → m = ss[i - 1]!.m ∧ k = ss[i - 1]!.nu ∧ t = ss[i - 1]!.t
  b : -1 ≤ m ∧ -1 ≤ k ∧ 0 ≤ t
set_option maxHeartbeats 1000000 in
set_option maxRecDepth 100000 in
theorem valid65 {s : RSt} {d : D} (h : IsR s d) (h1 : s.l.due.length < 1099511627776) (h2 : s.sl.length < 1099511627776) : PRet VS 74 [d] (.b (validR s)) := by
  obtain ⟨⟨x, y, zz, rfl, hx, hy, hz⟩⟩ := h
  have e82 := fun {H K} => c82 (isLed_of hx hy) h1 (H := H) (K := K)
  simp only [ledD] at e82
  refine .body (vf := v74) rfl rfl ?_
  by_cases hh : headR s = true
  case neg =>
    have hv : validR s = false := by simp only [validR, Bool.eq_false_iff.2 hh, Bool.false_and]
    have hh' : headR s = false := Bool.eq_false_iff.2 hh
    rw [hv]
    simp only [headR, amt, taxy] at hh'
    simp (disch := omega) only [go_sem, Nat.reduceAdd, Nat.reduceSub, Nat.reduceLeDiff, Int.reduceNeg, v74, rsD, hz.n, e82]
    grind
  · have hv : validR s = slipsF s.l.po.length s.sl (-1) (-1) 0 := by simp only [validR, hh, Bool.true_and]
    rw [hv]
    simp only [headR, amt, taxy, Bool.and_eq_true, decide_eq_true_eq] at hh
    obtain ⟨⟨⟨⟨⟨g1, g2⟩, g3⟩, g4⟩, g5, g6⟩, g7, g8⟩ := hh
    have b1 : decide (s.sm < 0) = false := decide_eq_false (by omega)
    have b2 : decide (s.sm > 2153) = false := decide_eq_false (by omega)
    have b3 : decide (s.sg < 0) = false := decide_eq_false (by omega)
    have b4 : decide (s.sg > 1099511627776) = false := decide_eq_false (by omega)
    have b5 : decide (s.sx < -1099511627776) = false := decide_eq_false (by omega)
    have b6 : decide (s.sx > 1099511627776) = false := decide_eq_false (by omega)
    have b7 : decide ((s.sl.length : Int) > 1200) = false := decide_eq_false (by omega)
    simp (disch := omega) only [go_sem, Nat.reduceAdd, Nat.reduceSub, Nat.reduceLeDiff, Int.reduceNeg, v74, rsD, hz.n, e82, g1, b1, b2, b3, b4, b5, b6, b7]
    refine Run.up (fun i st => ∃ m k t a2 a3 a4 a5 a8, slTo s.l.po.length s.sl i m k t ∧ PrevS s.sl i m k t ∧ st = ⟨[rsD s x y zz, .b false, a2, a3, a4, a5, .bx [.i .i64 s.l.st, x, y, .i .i64 s.sm, .i .i64 s.sg, .i .i64 s.sx, zz], .i .i64 i, a8], []⟩) s.sl.length ⟨-1, -1, 0, _, .u, .u, .u, .u, ⟨rfl⟩, ⟨fun _ => ⟨rfl, rfl, rfl⟩, fun h => absurd h (by omega), by omega⟩, rfl⟩ ?_
    rintro i st hi ⟨m, k, t, a2, a3, a4, a5, a8, hto, hp, rfl⟩
    by_cases hlt : i < s.sl.length
    · have hlt' : decide ((i : Int) < (s.sl.length : Int)) = true := by simpa using hlt
      have hve := hto.cons hlt
      obtain ⟨p0, p1, p2, p3, p4⟩ := hp
      have no : slipF s.l.po.length s.sl[i]! m k t = false → slipsF s.l.po.length s.sl (-1) (-1) 0 = false := fun hf => by rw [hve, hf]; rfl
      have hnext : slipF s.l.po.length s.sl[i]! m k t = true → i < s.sl.length ∧ ∃ m' k' t', slTo s.l.po.length s.sl (i + 1) m' k' t' ∧ PrevS s.sl (i + 1) m' k' t' := fun hf => by
        refine ⟨hlt, s.sl[i]!.m, s.sl[i]!.nu, s.sl[i]!.t, ⟨by rw [hve, hf]; rfl⟩, ⟨fun hz => absurd hz (by omega), fun _ => by rw [Nat.add_sub_cancel]; exact ⟨rfl, rfl, rfl⟩, ?_⟩⟩
        simp only [slipF, Bool.and_eq_true, decide_eq_true_eq] at hf
        omega
      simp only [slipF, amt, taxy, Bool.and_eq_true, decide_eq_true_eq] at hnext
      have no' : ¬ (s.sl[i]!.m > m ∧ s.sl[i]!.nu > k ∧ t ≤ s.sl[i]!.f ∧ s.sl[i]!.f ≤ s.sl[i]!.t ∧ s.sl[i]!.t ≤ s.l.po.length ∧ 0 ≤ s.sl[i]!.g ∧ s.sl[i]!.g ≤ 1099511627776 ∧ -1099511627776 ≤ s.sl[i]!.x ∧ s.sl[i]!.x ≤ 1099511627776) → false = slipsF s.l.po.length s.sl (-1) (-1) 0 := fun hn => by
        refine (no (Bool.eq_false_iff.2 fun hf => hn ?_)).symm
        simp only [slipF, amt, taxy, Bool.and_eq_true, decide_eq_true_eq] at hf
        omega
      rcases Nat.eq_zero_or_pos i with rfl | hpos
      · obtain ⟨rfl, rfl, rfl⟩ := p0 rfl
        simp (disch := omega) only [go_sem, Nat.reduceAdd, Nat.reduceLeDiff, Int.reduceLE, Int.reduceLT, Int.reduceNeg, v74l0, rsD, hz.q, hz.n, hy.n, spR, wr]
        repeat' first | (refine And.intro ?_ ?_) | intro _
        all_goals first | omega | exact no' (by omega) | exact (hnext (by omega)).2
      · have hpos' : decide ((i : Int) > 0) = true := by simpa using hpos
        obtain ⟨rfl, rfl, rfl⟩ := p1 hpos
        simp (disch := omega) only [go_sem, Nat.reduceAdd, Nat.reduceLeDiff, Int.reduceNeg, v74l0, rsD, hz.q, hz.n, hz.under, hy.n, spR, wr, hlt', hpos']
        repeat' first | (refine And.intro ?_ ?_) | intro _
        all_goals first | omega | exact no' (by omega) | exact (hnext (by omega)).2
    · have : i = s.sl.length := by omega
      subst this
      have hve := hto.e
      rw [List.drop_length, slipsF] at hve
      have hlt' : decide ((s.sl.length : Int) < (s.sl.length : Int)) = false := by simp
      simp (disch := omega) only [go_sem, Nat.reduceAdd, Int.reduceNeg, v74l0, hz.n, hlt']
      rw [hve]
theorem c65 {s : RSt} {d : D} (h : IsR s d) (h1 : s.l.due.length < 1099511627776) (h2 : s.sl.length < 1099511627776) {H : Heap} {K : CR → Prop} : CallQ VS 74 [d] H K ↔ K (.ret (.b (validR s)) H) :=
  (valid65 h h1 h2).c (vf := v74) rfl rfl (by simp [h.plain]) (.inl rfl)
open Go.Dm Go.Proofs
def prtD (k h : Nat) : D → D
  | .im w rows => .im w ((rows.drop k).take (h - k))
  | d => d
theorem prtD_sl {α : Type} {enc : α → List D} {l : List α} {w : Nat} {d : D} (hd : Sl w (l.map enc) d) (k h : Nat) : Sl w (((l.drop k).take (h - k)).map enc) (prtD k h d) := by
  rw [List.map_take, List.map_drop]
  cases hd with
  | nil e => rw [e]; simp only [List.drop_nil, List.take_nil]; exact .nil rfl
  | z e => rw [e]; simp only [List.drop_nil, List.take_nil]; exact .z rfl
  | im => exact .im
theorem sl_to {α : Type} {enc : α → List D} {l : List α} {w : Nat} {d : D} (hd : Sl w (l.map enc) d) {H : Heap} {k : IntKind} {b : Int} (h1 : 0 ≤ b) (h2 : b ≤ l.length) : sliceD H w d none (some (.i k b)) none = some (prtD 0 b.toNat d) := by
  cases hd with
  | nil e =>
    have : l = [] := by simpa using e
    subst this
    have : b = 0 := by simp only [List.length_nil] at h2; omega
    subst this; rfl
  | z e =>
    have : l = [] := by simpa using e
    subst this
    have : b = 0 := by simp only [List.length_nil] at h2; omega
    subst this; rfl
  | im =>
    have e : 0 ≤ b ∧ b ≤ ((l.map enc).length : Int) := by rw [List.length_map]; exact ⟨h1, h2⟩
    simp only [sliceD, bounds, bound, bdOf, e, and_self, if_true, decide_true, prtD]
theorem sl_part {α : Type} {enc : α → List D} {l : List α} {w : Nat} {d : D} (hd : Sl w (l.map enc) d) {H : Heap} {k k' : IntKind} {a b : Int} (h0 : 0 ≤ a) (h1 : a ≤ b) (h2 : b ≤ l.length) : sliceD H w d (some (.i k a)) (some (.i k' b)) none = some (prtD a.toNat b.toNat d) := by
  cases hd with
  | nil e =>
    have : l = [] := by simpa using e
    subst this
    have hb : b = 0 := by simp only [List.length_nil] at h2; omega
    have ha : a = 0 := by omega
    subst hb; subst ha; rfl
  | z e =>
    have : l = [] := by simpa using e
    subst this
    have hb : b = 0 := by simp only [List.length_nil] at h2; omega
    have ha : a = 0 := by omega
    subst hb; subst ha; rfl
  | im =>
    have e : 0 ≤ b ∧ b ≤ ((l.map enc).length : Int) := by rw [List.length_map]; omega
    have e2 : 0 ≤ a ∧ a ≤ ((b.toNat : Nat) : Int) := by omega
    simp only [sliceD, bounds, bound, bdOf, e, e2, and_self, if_true, decide_true, prtD]
section
variable {α : Type} [Inhabited α]
theorem sw_congr {f g : α → Int} {l : List α} (h : ∀ x ∈ l, f x = g x) : ∀ i : Nat, i ≤ l.length → sw f l i = sw g l i
  | 0, _ => rfl
  | i + 1, hi => by
    rw [sw, sw, sw_congr h i (by omega), h _ (by rw [getElem!_pos l i (by omega)]; exact List.getElem_mem _)]
theorem sw_add {f g : α → Int} {l : List α} : ∀ i : Nat, sw f l i + sw g l i = sw (fun x => f x + g x) l i
  | 0 => rfl
  | i + 1 => by
    have := sw_add (f := f) (g := g) (l := l) i
    simp only [sw]; omega
theorem sw_zero {f : α → Int} {l : List α} (h : ∀ x ∈ l, f x = 0) : ∀ i : Nat, i ≤ l.length → sw f l i = 0
  | 0, _ => rfl
  | i + 1, hi => by
    rw [sw, sw_zero h i (by omega), h _ (by rw [getElem!_pos l i (by omega)]; exact List.getElem_mem _)]; rfl
theorem sw_part {f : α → Int} {l : List α} (k n : Nat) : ∀ i : Nat, k + i ≤ l.length → i ≤ n → sw f ((l.drop k).take n) i = sw f l (k + i) - sw f l k
  | 0, _, _ => by simp [sw]
  | i + 1, hi, hn => by
    have e : ((l.drop k).take n)[i]! = l[k + i]! := by
      rw [getElem!_pos _ i (by rw [List.length_take, List.length_drop]; omega), getElem!_pos l (k + i) (by omega), List.getElem_take, List.getElem_drop]
    have := sw_part (f := f) (l := l) k n i (by omega) (by omega)
    rw [sw, this, e, ← Nat.add_assoc, sw]
    omega
end
theorem c59 {n : Int} {H : Heap} {K : CR → Prop} : CallQ VS 60 [.i .i64 n] H K ↔ K (.ret (.i .i64 n) H) := by
  have h : PRet VS 60 [.i .i64 n] (.i .i64 n) := by
    refine .body (vf := v60) rfl rfl ?_
    simp only [go_sem, Nat.reduceSub, v60]
  exact h.c (vf := v60) rfl rfl rfl (.inl rfl)
def idw (n : Int) : Int := n
theorem sum58 {l : List Int} {x : D} (hx : Sl 1 (l.map iR) x) (hn : l.length ≤ 4000) (hw : ∀ n ∈ l, -1099511627776 ≤ n ∧ n ≤ 1099511627776) {H : Heap} {K : CR → Prop} : CallQ VS 59 [x, .fn (.func 60) [] []] H K ↔ K (.ret (.i .i64 (sw idw l l.length)) H) := by
  refine CallQ_ret (Ret.iff_q.2 (.body (vf := v59) rfl rfl rfl ?_))
  simp only [go_sem, Nat.reduceSub, v59, hx.n]
  refine Run.up (fun i s => ∃ a3 a8, s = ⟨[x, .fn (.func 60) [] [], .i .i64 0, a3, .i .i64 (sw idw l i), .i .i64 i, .i .i64 l.length, x, a8], H⟩) l.length ⟨.u, .u, rfl⟩ ?_
  rintro i s hi ⟨a3, a8, rfl⟩
  have hb := fun j hj => sw_b (w := idw) hw j hj
  by_cases hlt : i < l.length
  · have hlt' : decide ((i : Int) < (l.length : Int)) = true := by simpa using hlt
    have h1 := hb (i + 1) (by omega)
    simp only [sw, idw] at h1
    simp (disch := omega) only [go_sem, v59l0, hx.q, iR, wr, hlt', sw, c59, idw]
    omega
  · have hlt' : decide ((i : Int) < (l.length : Int)) = false := by simpa using hlt
    have : i = l.length := by omega
    subst this
    simp (disch := omega) only [go_sem, v59l0, hlt']
def postB (b : Int) (p : Po) : Int := if b ≤ p.m then 0 else prin p
theorem post61 {p : Po} {b : Int} {K : CR → Prop} : CallQ VS 62 [.ag (poR p), .hp 0 0] [.hb 3 [.i .i64 b]] K ↔ K (.ret (.i .i64 (postB b p)) [.hb 3 [.i .i64 b]]) := by
  have e62 := fun {H K} => c62 (p := p) (H := H) (K := K)
  simp only [poR] at e62
  refine CallQ_ret (Ret.iff_q.2 (.body (vf := v62) rfl rfl rfl ?_))
  simp only [go_sem, Nat.reduceAdd, Nat.reduceSub, Nat.reduceLeDiff, v62, poR, e62, postB]
  exact ⟨fun h => by rw [if_pos (by omega)], fun h => by rw [if_neg (by omega)]⟩
def cutN (l : Led) (b : Int) : Nat := (min (max b l.st) (l.st + l.due.length) - l.st).toNat
def balL (l : Led) (b : Int) : Int := sw idw l.due (cutN l b) - sw (postB b) l.po l.po.length
theorem postB_b {p : Po} (h : -1099511627776 ≤ p.a ∧ p.a ≤ 1099511627776) (b : Int) : -1099511627776 ≤ postB b p ∧ postB b p ≤ 1099511627776 := by
  unfold postB prin
  split <;> (try split) <;> omega
theorem ValL.d {l : Led} (h : ValL l) : ∀ n ∈ l.due, -1099511627776 ≤ n ∧ n ≤ 1099511627776 := fun n hn => by have := h.due n hn; omega
theorem balL_b {l : Led} (v : ValL l) (b : Int) : -5717460464435200 ≤ balL l b ∧ balL l b ≤ 5717460464435200 := by
  have h := sw_b (w := postB b) (l := l.po) (B := 1099511627776) (fun p hp => postB_b (v.a p hp) b) l.po.length (Nat.le_refl _)
  have hc : cutN l b ≤ l.due.length := by unfold cutN; omega
  have h2 := sw_b (w := idw) (l := l.due) (B := 1099511627776) v.d (cutN l b) hc
  have := v.p
  have := v.r.n
  unfold balL
  omega
theorem bal26 {l : Led} {d : D} (h : IsLed l d) (h1 : l.due.length < 1099511627776) (hv : validL l = true) {b : Int} : PRet VS 27 [d, .i .i64 b] (.tu [.i .i64 (balL l b), .i .i64 0]) := by
  have v := validL_v hv
  have e44 := fun {H K} => c44 h h1 (H := H) (K := K)
  obtain ⟨⟨x, y, rfl, hx, hy⟩⟩ := h
  have hr := v.r.st
  have hn := v.n
  have e60 := fun {K} => sum60 hy v.p (w := postB b) (fun p hp => postB_b (v.a p hp) b) (g := 62) (cp := [.hp 0 0]) (H := [.hb 3 [.i .i64 b]]) (fun p K => post61) (K := K)
  have hmx : (if l.st > b then l.st else b) = max b l.st := by simp only [Int.max_def]; split <;> split <;> omega
  have hmn : (if l.st + (l.due.length : Int) < max b l.st then l.st + (l.due.length : Int) else max b l.st) = min (max b l.st) (l.st + l.due.length) := by simp only [Int.min_def]; split <;> split <;> omega
  have hcut : min (max b l.st) (l.st + (l.due.length : Int)) - l.st = ((cutN l b : Nat) : Int) := by unfold cutN; omega
  have hc : cutN l b ≤ l.due.length := by unfold cutN; omega
  have hsl := prtD_sl hx 0 (cutN l b)
  have hlen : ((l.due.drop 0).take (cutN l b - 0)).length = cutN l b := by simp; omega
  have e58 := fun {H K} => sum58 hsl (by rw [hlen]; have := v.r.n; omega) (fun n hn => v.d n (List.mem_of_mem_drop (List.mem_of_mem_take hn))) (H := H) (K := K)
  rw [hlen, sw_part (f := idw) (l := l.due) 0 (cutN l b - 0) (cutN l b) (by omega) (by omega)] at e58
  have e0 : sw idw l.due (0 + cutN l b) - sw idw l.due 0 = sw idw l.due (cutN l b) := by rw [Nat.zero_add]; simp [sw]
  rw [e0] at e58
  have hb := balL_b v b
  unfold balL at hb
  refine .body (vf := v27) rfl rfl ?_
  simp only [ledD] at e44
  simp (disch := omega) only [go_sem, Nat.reduceAdd, Nat.reduceSub, Nat.reduceLeDiff, v27, ledD, e44, hv, hx.n, wr, hcut, sl_to hx, e58, e60, balL]
theorem c26 {l : Led} {d : D} (h : IsLed l d) (h1 : l.due.length < 1099511627776) (hv : validL l = true) {b : Int} {H : Heap} {K : CR → Prop} : CallQ VS 27 [d, .i .i64 b] H K ↔ K (.ret (.tu [.i .i64 (balL l b), .i .i64 0]) H) :=
  (bal26 h h1 hv).c (vf := v27) rfl rfl (by simp [h.plain]; rfl) (.inl rfl)
theorem posted68 {l : Led} {d : D} (h : IsLed l d) (v : ValL l) {m : Int} : PRet VS 77 [d, .i .i64 m] (.i .i64 (postedL l m)) := by
  obtain ⟨⟨x, y, rfl, hx, hy⟩⟩ := h
  refine .body (vf := v77) rfl rfl ?_
  simp (disch := omega) only [go_sem, Nat.reduceAdd, Nat.reduceSub, v77, ledD]
  refine Run.up (fun i st => ∃ a3 a4, st = ⟨[.ag [.i .i64 l.st, x, y], .i .i64 m, .i .i64 0, a3, a4, .i .i64 (sw (postM m) l.po i), .i .i64 i, .bx [.i .i64 l.st, x, y]], []⟩) l.po.length ⟨.u, .u, rfl⟩ ?_
  rintro i st hi ⟨a3, a4, rfl⟩
  have hp := v.p
  have hb := fun j hj => sw_b (w := postM m) (l := l.po) (B := 1099511627776) (fun p hp => prin_b (v.a p hp) m) j hj
  by_cases hlt : i < l.po.length
  · have hlt' : decide ((i : Int) < (l.po.length : Int)) = true := by simpa using hlt
    have h1 := hb (i + 1) (by omega)
    have h0 := hb i (by omega)
    have ha := v.a l.po[i]! (by rw [getElem!_pos l.po i hlt]; exact List.getElem_mem _)
    simp only [sw, postM, prin] at h1
    by_cases c1 : l.po[i]!.m = m
    · by_cases c2 : l.po[i]!.k = 3
      · simp (disch := omega) only [go_sem, Nat.reduceAdd, Nat.reduceLeDiff, v77l0, hy.q, hy.n, poR, wr, hlt', sw, postM, prin, c1, c2, if_pos]
        omega
      · have c2' : decide (l.po[i]!.k = 3) = false := decide_eq_false c2
        simp (disch := omega) only [go_sem, Nat.reduceAdd, Nat.reduceLeDiff, v77l0, hy.q, hy.n, poR, wr, hlt', sw, postM, prin, c1, c2]
        omega
    · have c1' : decide (l.po[i]!.m = m) = false := decide_eq_false c1
      simp (disch := omega) only [go_sem, Nat.reduceAdd, Nat.reduceLeDiff, v77l0, hy.q, hy.n, poR, wr, hlt', sw, postM, prin, c1]
      omega
  · have : i = l.po.length := by omega
    subst this
    have hlt' : decide ((l.po.length : Int) < (l.po.length : Int)) = false := by simp
    simp (disch := omega) only [go_sem, Nat.reduceAdd, v77l0, hy.n, hlt', postedL]
theorem c68 {l : Led} {d : D} (h : IsLed l d) (v : ValL l) {m : Int} {H : Heap} {K : CR → Prop} : CallQ VS 77 [d, .i .i64 m] H K ↔ K (.ret (.i .i64 (postedL l m)) H) :=
  (posted68 h v).c (vf := v77) rfl rfl (by simp [h.plain]; rfl) (.inl rfl)
def rb (l : Led) (b : Int) : Nat → Int
  | 0 => 0
  | i + 1 => if l.st + i < b then rb l b i + l.due[i]! - postedL l (l.st + i) else rb l b i
theorem rb_b {l : Led} (v : ValL l) (b : Int) : ∀ i : Nat, i ≤ l.due.length → -(4399146022731776 * (i : Int)) ≤ rb l b i ∧ rb l b i ≤ 4399146022731776 * (i : Int)
  | 0, _ => by simp [rb]
  | i + 1, h => by
    have ih := rb_b v b i (by omega)
    have hp := posted_b v (l.st + i)
    have hd := v.due l.due[i]! (by rw [getElem!_pos l.due i (by omega)]; exact List.getElem_mem _)
    rw [rb]
    split <;> omega
set_option maxRecDepth 100000 in
theorem bal66 {l : Led} {d : D} (h : IsLed l d) (v : ValL l) {b : Int} : PRet VS 75 [d, .i .i64 b] (.i .i64 (rb l b l.due.length)) := by
  have e68 := fun {m H K} => c68 h v (m := m) (H := H) (K := K)
  obtain ⟨⟨x, y, rfl, hx, hy⟩⟩ := h
  simp only [ledD] at e68
  refine .body (vf := v75) rfl rfl ?_
  simp (disch := omega) only [go_sem, Nat.reduceAdd, Nat.reduceSub, v75, ledD]
  refine Run.up (fun i st => ∃ a3 a4, st = ⟨[.ag [.i .i64 l.st, x, y], .i .i64 b, .i .i64 0, a3, a4, .i .i64 (rb l b i), .i .i64 i, .bx [.i .i64 l.st, x, y]], []⟩) l.due.length ⟨.u, .u, rfl⟩ ?_
  rintro i st hi ⟨a3, a4, rfl⟩
  have hr := v.r.st
  have hn := v.r.n
  by_cases hlt : i < l.due.length
  · have hlt' : decide ((i : Int) < (l.due.length : Int)) = true := by simpa using hlt
    have h0 := rb_b v b i (by omega)
    have hp := posted_b v (l.st + i)
    have hd := v.due l.due[i]! (by rw [getElem!_pos l.due i (by omega)]; exact List.getElem_mem _)
    by_cases c1 : l.st + (i : Int) < b
    · have c1' : decide (l.st + (i : Int) < b) = true := decide_eq_true c1
      simp (disch := omega) only [go_sem, Nat.reduceAdd, Nat.reduceLeDiff, v75l0, hx.q, hx.n, hx.under, iR, wr, hlt', c1', e68, rb, if_pos c1]
      omega
    · have c1' : decide (l.st + (i : Int) < b) = false := decide_eq_false c1
      simp (disch := omega) only [go_sem, Nat.reduceAdd, Nat.reduceLeDiff, v75l0, hx.n, wr, hlt', c1', rb, if_neg c1]
      omega
  · have : i = l.due.length := by omega
    subst this
    have hlt' : decide ((l.due.length : Int) < (l.due.length : Int)) = false := by simp
    simp (disch := omega) only [go_sem, Nat.reduceAdd, Nat.reduceLeDiff, v75l0, hx.n, hlt']
def postC (b c : Int) (p : Po) : Int := if p.m < b ∧ p.m < c then prin p else 0
theorem rb_eq {l : Led} (v : ValL l) (b : Int) : ∀ i : Nat, i ≤ l.due.length → rb l b i = sw idw l.due (min i (cutN l b)) - sw (postC b (l.st + i)) l.po l.po.length
  | 0, _ => by
    have : sw (postC b (l.st + (0 : Nat))) l.po l.po.length = 0 := sw_zero (fun p hp => by
      have := v.po p hp
      simp only [fitsP, hasL, Bool.and_eq_true, decide_eq_true_eq] at this
      unfold postC; rw [if_neg (by omega)]) _ (Nat.le_refl _)
    rw [this, rb, Nat.zero_min]; rfl
  | i + 1, h => by
    have ih := rb_eq v b i (by omega)
    rw [rb]
    by_cases c : l.st + (i : Int) < b
    · rw [if_pos c, ih, postedL]
      have hc : i < cutN l b := by unfold cutN; omega
      have e1 : min (i + 1) (cutN l b) = i + 1 := by omega
      have e2 : min i (cutN l b) = i := by omega
      have e3 : sw (postC b (l.st + ((i + 1 : Nat) : Int))) l.po l.po.length = sw (postC b (l.st + i)) l.po l.po.length + sw (postM (l.st + i)) l.po l.po.length := by
        rw [sw_add]
        refine sw_congr (fun p _ => ?_) _ (Nat.le_refl _)
        unfold postC postM
        by_cases q : p.m = l.st + i
        · rw [if_pos (by omega), if_neg (by omega), if_pos q]; omega
        · rw [if_neg q]
          by_cases r : p.m < b ∧ p.m < l.st + i
          · rw [if_pos (by omega), if_pos r]; omega
          · rw [if_neg (by omega), if_neg r]; omega
      rw [e1, e2, e3, sw, idw]; omega
    · rw [if_neg c, ih]
      have hc : cutN l b ≤ i := by unfold cutN; omega
      have e1 : min (i + 1) (cutN l b) = min i (cutN l b) := by omega
      rw [e1, sw_congr (f := postC b (l.st + ((i + 1 : Nat) : Int))) (g := postC b (l.st + i)) (fun p _ => by
        unfold postC
        by_cases r : p.m < b ∧ p.m < l.st + i
        · rw [if_pos (by omega), if_pos r]
        · rw [if_neg (by omega), if_neg r]) _ (Nat.le_refl _)]
theorem rb_bal {l : Led} (v : ValL l) (b : Int) : rb l b l.due.length = balL l b := by
  have hc : cutN l b ≤ l.due.length := by unfold cutN; omega
  rw [rb_eq v b _ (Nat.le_refl _), Nat.min_eq_right hc, balL]
  rw [sw_congr (f := postC b (l.st + (l.due.length : Int))) (g := postB b) (fun p hp => by
    have := v.po p hp
    simp only [fitsP, hasL, Bool.and_eq_true, decide_eq_true_eq] at this
    unfold postC postB
    by_cases r : b ≤ p.m
    · rw [if_neg (by omega), if_pos r]
    · rw [if_pos (by omega), if_neg r]) _ (Nat.le_refl _)]
theorem c66 {l : Led} {d : D} (h : IsLed l d) (v : ValL l) {b : Int} {H : Heap} {K : CR → Prop} : CallQ VS 75 [d, .i .i64 b] H K ↔ K (.ret (.i .i64 (balL l b)) H) := by
  rw [← rb_bal v b]
  exact (bal66 h v).c (vf := v75) rfl rfl (by simp [h.plain]; rfl) (.inl rfl)
end Go.Proofs.YtnhbopeopppojaaGreatDoor.Dv
