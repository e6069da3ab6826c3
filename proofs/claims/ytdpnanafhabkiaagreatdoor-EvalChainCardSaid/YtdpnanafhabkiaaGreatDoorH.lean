/-
  Whole numbers as integers.
-/
import Derived.Test.YtdpnanafhabkiaaGreatDoorG
namespace Go.Proofs.YtdpnanafhabkiaaGreatDoor.Dv
open Go.Dm
def cap (k : Nat) : Nat := 65536 ^ k
theorem cap_len {n k : Nat} : (ds 65536 n).length <= k ↔ n < cap k := ds_len h16
theorem cap_le {j k : Nat} (h : j <= k) : cap j <= cap k := Nat.pow_le_pow_right (by omega) h
theorem cap_mul {a b j k n : Nat} (ha : a < cap j) (hb : b < cap k) (hn : j + k <= n) : a * b < cap n := by
 refine Nat.lt_of_lt_of_le ?_ (cap_le hn)
 unfold cap; rw [Nat.pow_add]; exact Nat.mul_lt_mul'' ha hb
theorem cap_add {a b k n : Nat} (ha : a < cap k) (hb : b < cap k) (hn : k + 1 <= n) : a + b < cap n := by
 refine Nat.lt_of_lt_of_le ?_ (cap_le hn)
 have e : cap (k + 1) = cap k * 65536 := Nat.pow_succ ..
 omega
theorem cap_up {a j k : Nat} (h : a < cap j) (hk : j <= k) : a < cap k := Nat.lt_of_lt_of_le h (cap_le hk)
theorem cap_32 {n k : Nat} (h : n < cap (2 * k)) : (ds 4294967296 n).length <= k := by
 rw [ds_len h32, show (4294967296 : Nat) = 65536 ^ 2 from rfl, <- Nat.pow_mul]; exact h
theorem cap_big {n k : Nat} (h : n < cap k) (hk : k <= 4096) : (ds 4294967296 n).length < 1000000000 := by
 have := cap_32 (k := 2048) (Nat.lt_of_lt_of_le h (cap_le (by omega)))
 omega
theorem cap_b16 {n k : Nat} (h : n < cap k) (hk : k <= 4096) : (ds 65536 n).length < 1099511627776 := by
 have := cap_len.2 (Nat.lt_of_lt_of_le h (cap_le hk))
 omega
theorem cap_c16 {n k : Nat} (h : n < cap k) (hk : k <= 4096) : (ds 65536 n).length < 70368744177665 := Nat.lt_of_lt_of_le (cap_b16 h hk) (by decide)
def wvalid (neg : Bool) (l : List Nat) : Bool := match l with
 | [] => !neg
 | _ :: _ => decide (l.length <= 1024) && decide (l[l.length - 1]! ≠ 0)
theorem valid_q {neg : Bool} {l : List Nat} {x : D} (h : Sl 1 (l.map u16) x) (hn : l.length < 70368744177665) : PRet VS 129 [.ag [.b neg, x]] (.b (wvalid neg l)) := by
 refine .body (vf := v129) fn129 rfl ?_
 cases l with
 | nil => simp (disch := omega) only [go_sem, Nat.reduceAdd, Nat.reduceSub, Nat.reduceLeDiff, v129, h.n, List.length_nil, Int.natCast_zero, wvalid]
 | cons a l =>
  generalize hl : a :: l = m at *
  have hp : m.length ≠ 0 := by rw [<- hl]; simp
  have c1 : ¬ (m.length : Int) = 0 := by omega
  have wv : wvalid neg m = (decide (m.length <= 1024) && decide (m[m.length - 1]! ≠ 0)) := by subst hl; rfl
  rw [wv]
  by_cases h2 : m.length <= 1024
  ·have c2 : (m.length : Int) <= 1024 := by omega
   have tn : ((m.length : Int) - 1).toNat = m.length - 1 := by omega
   simp (disch := omega) only [go_sem, Nat.reduceAdd, Nat.reduceSub, v129, h.n, h.q, c1, c2, h2, wr, tn, u16]
   refine ⟨⟨by omega, by omega⟩, ?_⟩
   by_cases h3 : m[m.length - 1]! = 0 <;> simp [h3]
  ·have c2 : ¬ (m.length : Int) <= 1024 := by omega
   simp (disch := omega) only [go_sem, Nat.reduceAdd, Nat.reduceSub, v129, h.n, c1, c2, h2]
theorem wvalid_ds {neg : Bool} {n : Nat} (hn : n < cap 1024) (h0 : n = 0 -> neg = false) : wvalid neg (ds 65536 n) = true := by
 by_cases c : n = 0
 ·rw [c, ds_zero, h0 c]; rfl
 ·have h1 := ds_ne h16 c
  have h2 := tp_ds h16 n h1
  have h3 := cap_len.2 hn
  cases hd : ds 65536 n with
  | nil => exact absurd hd h1
  | cons a l => rw [hd] at h2 h3; simp only [wvalid, Bool.and_eq_true, decide_eq_true_eq]; exact ⟨h3, h2⟩
def wval (neg : Bool) (l : List Nat) : Int := if neg then -(vl 65536 l : Int) else vl 65536 l
theorem wvalid_wh {neg : Bool} {l : List Nat} {x : D} (h : Sl 1 (l.map u16) x) (hm : lm 65536 l) (hv : wvalid neg l = true) : Wh (wval neg l) (.ag [.b neg, x]) /\ (wval neg l).natAbs < cap 1024 /\ (wval neg l).natAbs = vl 65536 l /\ ds 65536 (vl 65536 l) = l := by
 have ha : (wval neg l).natAbs = vl 65536 l := by unfold wval; cases neg <;> simp
 have hd : ds 65536 (vl 65536 l) = l := ds_vl h16 hm (fun hne => by
  cases l with
  | nil => exact absurd rfl hne
  | cons a l => simp only [wvalid, Bool.and_eq_true, decide_eq_true_eq] at hv; exact hv.2)
 refine ⟨⟨x, ?_, ⟨by rw [ha, hd]; exact h⟩⟩, ?_, ha, hd⟩
 ·unfold wval
  cases neg with
  | false => simp
  | true =>
   have : vl 65536 l ≠ 0 := by
    intro h0
    rw [h0, ds_zero] at hd
    subst hd
    simp [wvalid] at hv
   simp; omega
 ·rw [ha, <- cap_len, hd]
  cases l with
  | nil => simp
  | cons a l => simp only [wvalid, Bool.and_eq_true, decide_eq_true_eq] at hv; exact hv.1
theorem Wh.pl {z : Int} {d : D} (h : Wh z d) : d.plain = true := by
 obtain ⟨y, rfl, hy⟩ := h.h
 simp [plain_ag, flat_b, hy.sl.flat]
theorem whvalid_q {z : Int} {y : D} (h : W16 z.natAbs y) (hz : z.natAbs < cap 1024) : PRet VS 129 [.ag [.b (decide (z < 0)), y]] (.b true) := by
 have := valid_q (neg := decide (z < 0)) h.sl (cap_c16 hz (by omega))
 rwa [wvalid_ds hz (fun h0 => by simp; omega)] at this
theorem av2_q {z1 z2 : Int} {y1 y2 : D} (h1 : W16 z1.natAbs y1) (h2 : W16 z2.natAbs y2) (b1 : z1.natAbs < cap 1024) (b2 : z2.natAbs < cap 1024) : PRet VS 174 [.im 2 [[.b (decide (z1 < 0)), y1], [.b (decide (z2 < 0)), y2]]] (.b true) := by
 have e1 := fun {H K} => (whvalid_q h1 b1).c (H := H) (K := K) fn129 rfl (by simp [plain_ag, flat_b, h1.sl.flat]) (.inl rfl)
 have e2 := fun {H K} => (whvalid_q h2 b2).c (H := H) (K := K) fn129 rfl (by simp [plain_ag, flat_b, h2.sl.flat]) (.inl rfl)
 have l0 : lenD [] 1 (.im 2 [[.b (decide (z1 < 0)), y1], [.b (decide (z2 < 0)), y2]]) = some (.i .i64 2) := rfl
 have i0 : iadD [] (.im 2 [[.b (decide (z1 < 0)), y1], [.b (decide (z2 < 0)), y2]]) (.i .i64 0) 2 = some (.ip [.b (decide (z1 < 0)), y1]) := rfl
 have i1 : iadD [] (.im 2 [[.b (decide (z1 < 0)), y1], [.b (decide (z2 < 0)), y2]]) (.i .i64 1) 2 = some (.ip [.b (decide (z2 < 0)), y2]) := rfl
 refine .body (vf := v174) fn174 rfl ?_
 simp (disch := omega) only [go_sem, Nat.reduceSub, v174, l0]
 rw [Run_loop]
 simp (disch := omega) only [go_sem, Nat.reduceAdd, Int.reduceLT, v174l0, i0, e1, wr]
 rw [Run_loop]
 simp (disch := omega) only [go_sem, Nat.reduceAdd, Int.reduceLT, Int.reduceAdd, i1, e2, wr]
 rw [Run_loop]
 simp (disch := omega) only [go_sem, Int.reduceLT]
theorem av2_c {z1 z2 : Int} {y1 y2 : D} (h1 : W16 z1.natAbs y1) (h2 : W16 z2.natAbs y2) (b1 : z1.natAbs < cap 1024) (b2 : z2.natAbs < cap 1024) {H : Heap} {K : CR -> Prop} : CallQ VS 174 [.sv 2 [[.b (decide (z1 < 0)), y1], [.b (decide (z2 < 0)), y2]]] H K ↔ K (.ret (.b true) H) := by
 have f1 := fun m H => flat_freeze h1.sl.flat m H
 have f2 := fun m H => flat_freeze h2.sl.flat m H
 rw [CallQ_p (vf := v174) (H1 := H) fn174 rfl (av2_q h1 h2 b1 b2) (by simp only [go_sem, Nat.reduceAdd, f1, f2])]
 exact Iff.rfl
open Go.Dm
theorem result_q {neg : Bool} {n : Nat} {x : D} (hx : W32 n x) (hn : n < cap 1024) : ∃ d, PRet VS 209 [.b neg, x] (.tu [d, .i .i64 0]) /\ Wh (if neg then -(n : Int) else n) d := by
 have hb := cap_big hn (by omega)
 obtain ⟨d, h1, h2⟩ := unpack_q (neg := neg) hx.sl (lm_ds h32 n) (by omega)
 rw [vl_ds h32] at h2
 have e1 := fun {H K} => h1.c (H := H) (K := K) fn214 rfl (by simp [hx.pl, plain_b]) (.inl rfl)
 obtain ⟨y, rfl, hy⟩ := h2.h
 have hz : (if neg = true then -(n : Int) else (n : Int)).natAbs = n := by cases neg <;> simp
 rw [hz] at hy
 have hl := cap_len.2 hn
 have c1 : ¬ (1024 : Int) < ((ds 65536 n).length : Int) := by omega
 have ef := fun m H => flat_freeze hy.sl.flat m H
 refine ⟨_, .body (vf := v209) fn209 rfl ?_, ⟨y, rfl, by rw [hz]; exact hy⟩⟩
 simp (disch := omega) only [go_sem, Nat.reduceAdd, Nat.reduceSub, v209, e1, hy.sl.n, c1, ef]
theorem sgn_mul (z1 z2 : Int) : (if ((decide (z1 < 0) == decide (z2 < 0)) != true) = true then -((z1.natAbs * z2.natAbs : Nat) : Int) else ((z1.natAbs * z2.natAbs : Nat) : Int)) = z1 * z2 := by
 rw [Int.natCast_mul]
 rcases Int.lt_or_le z1 0 with a | a <;> rcases Int.lt_or_le z2 0 with b | b
 ·rw [show ((z1.natAbs : Nat) : Int) = -z1 by omega, show ((z2.natAbs : Nat) : Int) = -z2 by omega]; simp [a, b]; try grind
 ·rw [show ((z1.natAbs : Nat) : Int) = -z1 by omega, show ((z2.natAbs : Nat) : Int) = z2 by omega]; simp [a, b]; try grind
 ·rw [show ((z1.natAbs : Nat) : Int) = z1 by omega, show ((z2.natAbs : Nat) : Int) = -z2 by omega]; simp [a, b]; try grind
 ·rw [show ((z1.natAbs : Nat) : Int) = z1 by omega, show ((z2.natAbs : Nat) : Int) = z2 by omega]; simp []; try grind
theorem mul_q {z1 z2 : Int} {d1 d2 : D} (h1 : Wh z1 d1) (h2 : Wh z2 d2) (b1 : z1.natAbs < cap 512) (b2 : z2.natAbs < cap 512) : ∃ d, PRet VS 177 [d1, d2] (.tu [d, .i .i64 0]) /\ Wh (z1 * z2) d := by
 obtain ⟨y1, rfl, g1⟩ := h1.h
 obtain ⟨y2, rfl, g2⟩ := h2.h
 have c1 := cap_up b1 (show 512 <= 1024 by omega)
 have c2 := cap_up b2 (show 512 <= 1024 by omega)
 have e0 := fun {H K} => av2_c g1 g2 c1 c2 (H := H) (K := K)
 obtain ⟨p1, p2, p3⟩ := pack_q g1 (cap_b16 b1 (by omega))
 obtain ⟨r1, r2, r3⟩ := pack_q g2 (cap_b16 b2 (by omega))
 have e1 := fun {H K} => p2.c (H := H) (K := K) fn176 rfl g1.p1 (.inl rfl)
 have e2 := fun {H K} => r2.c (H := H) (K := K) fn176 rfl g2.p1 (.inl rfl)
 obtain ⟨t1, t2, t3⟩ := times_q p3 r3 (cap_big b1 (by omega)) (cap_big b2 (by omega))
 have e3 := fun {H K} => t2.c (H := H) (K := K) fn210 rfl (by simp [p3.pl, r3.pl]) (.inl rfl)
 obtain ⟨s1, s2, s3⟩ := result_q (neg := (decide (z1 < 0) == decide (z2 < 0)) != true) t3 (cap_mul b1 b2 (by omega))
 have e4 := fun {H K} => s2.c (H := H) (K := K) fn209 rfl (by simp [t3.pl, plain_b]) (.inl rfl)
 have hs := sgn_mul z1 z2
 rw [hs] at s3
 obtain ⟨y, rfl, hy⟩ := s3.h
 have ef := fun m H => flat_freeze hy.sl.flat m H
 refine ⟨_, .body (vf := v177) fn177 rfl ?_, s3⟩
 simp (disch := omega) only [go_sem, Nat.reduceAdd, Nat.reduceSub, Nat.reduceLeDiff, Nat.reduceLT, v177, e0, e1, e2, e3, e4, ef]
theorem sum_q {z1 z2 : Int} {y1 y2 : D} (g1 : W32 z1.natAbs y1) (g2 : W32 z2.natAbs y2) (b1 : z1.natAbs < cap 1023) (b2 : z2.natAbs < cap 1023) : ∃ d, PRet VS 215 [.b (decide (z1 < 0)), y1, .b (decide (z2 < 0)), y2] (.tu [d, .i .i64 0]) /\ Wh (z1 + z2) d := by
 have l1 := cap_big b1 (by omega)
 have l2 := cap_big b2 (by omega)
 by_cases hs : decide (z1 < 0) = decide (z2 < 0)
 ·obtain ⟨t1, t2, t3⟩ := plus_q g1 g2 l1 l2
  have e3 := fun {H K} => t2.c (H := H) (K := K) fn212 rfl (by simp [g1.pl, g2.pl]) (.inl rfl)
  obtain ⟨s1, s2, s3⟩ := result_q (neg := decide (z1 < 0)) t3 (cap_add b1 b2 (by omega))
  have e4 := fun {H K} => s2.c (H := H) (K := K) fn209 rfl (by simp [t3.pl, plain_b]) (.inl rfl)
  have hz : (if decide (z1 < 0) = true then -((z1.natAbs + z2.natAbs : Nat) : Int) else ((z1.natAbs + z2.natAbs : Nat) : Int)) = z1 + z2 := by
   have := decide_eq_decide.1 hs
   by_cases a : z1 < 0 <;> simp [a] <;> omega
  rw [hz] at s3
  obtain ⟨y, rfl, hy⟩ := s3.h
  have ef := fun m H => flat_freeze hy.sl.flat m H
  have c1 : (decide (z1 < 0) == decide (z2 < 0)) = true := by rw [hs]; simp
  refine ⟨_, .body (vf := v215) fn215 rfl ?_, s3⟩
  simp (disch := omega) only [go_sem, Nat.reduceAdd, Nat.reduceSub, v215, c1, e3, e4, ef]
 ·have c1 : (decide (z1 < 0) == decide (z2 < 0)) = false := by simpa using hs
  have hne : ¬ (z1 < 0 ↔ z2 < 0) := fun h => hs (decide_eq_decide.2 h)
  have ec := fun {H K} => (compare_q g1 g2 (by omega) (by omega)).c (H := H) (K := K) fn175 rfl (by simp [g1.pl, g2.pl]) (.inl rfl)
  by_cases hc : z2.natAbs <= z1.natAbs
  ·have c2 : (0 : Int) <= sgn z1.natAbs z2.natAbs := by
    rcases Nat.lt_or_ge z2.natAbs z1.natAbs with c | c
    ·rw [sgn_gt c]; omega
    ·rw [sgn_eq (by omega)]; omega
   obtain ⟨t1, t2, t3⟩ := minus_q g1 g2 hc l1
   have e3 := fun {H K} => t2.c (H := H) (K := K) fn213 rfl (by simp [g1.pl, g2.pl]) (.inl rfl)
   obtain ⟨s1, s2, s3⟩ := result_q (neg := decide (z1 < 0)) t3 (Nat.lt_of_le_of_lt (Nat.sub_le _ _) (cap_up b1 (by omega)))
   have e4 := fun {H K} => s2.c (H := H) (K := K) fn209 rfl (by simp [t3.pl, plain_b]) (.inl rfl)
   have hz : (if decide (z1 < 0) = true then -((z1.natAbs - z2.natAbs : Nat) : Int) else ((z1.natAbs - z2.natAbs : Nat) : Int)) = z1 + z2 := by
    by_cases a : z1 < 0 <;> simp [a] <;> omega
   rw [hz] at s3
   obtain ⟨y, rfl, hy⟩ := s3.h
   have ef := fun m H => flat_freeze hy.sl.flat m H
   refine ⟨_, .body (vf := v215) fn215 rfl ?_, s3⟩
   simp (disch := omega) only [go_sem, Nat.reduceAdd, Nat.reduceSub, v215, c1, ec, c2, e3, e4, ef]
  ·have c2 : ¬ (0 : Int) <= sgn z1.natAbs z2.natAbs := by rw [sgn_lt (by omega)]; omega
   obtain ⟨t1, t2, t3⟩ := minus_q g2 g1 (by omega) l2
   have e3 := fun {H K} => t2.c (H := H) (K := K) fn213 rfl (by simp [g1.pl, g2.pl]) (.inl rfl)
   obtain ⟨s1, s2, s3⟩ := result_q (neg := decide (z2 < 0)) t3 (Nat.lt_of_le_of_lt (Nat.sub_le _ _) (cap_up b2 (by omega)))
   have e4 := fun {H K} => s2.c (H := H) (K := K) fn209 rfl (by simp [t3.pl, plain_b]) (.inl rfl)
   have hz : (if decide (z2 < 0) = true then -((z2.natAbs - z1.natAbs : Nat) : Int) else ((z2.natAbs - z1.natAbs : Nat) : Int)) = z1 + z2 := by
    by_cases a : z2 < 0 <;> simp [a] <;> omega
   rw [hz] at s3
   obtain ⟨y, rfl, hy⟩ := s3.h
   have ef := fun m H => flat_freeze hy.sl.flat m H
   refine ⟨_, .body (vf := v215) fn215 rfl ?_, s3⟩
   simp (disch := omega) only [go_sem, Nat.reduceAdd, Nat.reduceSub, v215, c1, ec, c2, e3, e4, ef]
theorem add_q {z1 z2 : Int} {d1 d2 : D} (h1 : Wh z1 d1) (h2 : Wh z2 d2) (b1 : z1.natAbs < cap 1023) (b2 : z2.natAbs < cap 1023) : ∃ d, PRet VS 179 [d1, d2] (.tu [d, .i .i64 0]) /\ Wh (z1 + z2) d := by
 obtain ⟨y1, rfl, g1⟩ := h1.h
 obtain ⟨y2, rfl, g2⟩ := h2.h
 have c1 := cap_up b1 (show 1023 <= 1024 by omega)
 have c2 := cap_up b2 (show 1023 <= 1024 by omega)
 have e0 := fun {H K} => av2_c g1 g2 c1 c2 (H := H) (K := K)
 obtain ⟨p1, p2, p3⟩ := pack_q g1 (cap_b16 b1 (by omega))
 obtain ⟨r1, r2, r3⟩ := pack_q g2 (cap_b16 b2 (by omega))
 have e1 := fun {H K} => p2.c (H := H) (K := K) fn176 rfl g1.p1 (.inl rfl)
 have e2 := fun {H K} => r2.c (H := H) (K := K) fn176 rfl g2.p1 (.inl rfl)
 obtain ⟨s1, s2, s3⟩ := sum_q p3 r3 b1 b2
 have e4 := fun {H K} => s2.c (H := H) (K := K) fn215 rfl (by simp [p3.pl, r3.pl, plain_b]) (.inl rfl)
 obtain ⟨y, rfl, hy⟩ := s3.h
 have ef := fun m H => flat_freeze hy.sl.flat m H
 refine ⟨_, .body (vf := v179) fn179 rfl ?_, s3⟩
 simp (disch := omega) only [go_sem, Nat.reduceAdd, Nat.reduceSub, Nat.reduceLeDiff, Nat.reduceLT, v179, e0, e1, e2, e4, ef]
theorem gcd_w {z1 z2 : Int} {d1 d2 : D} (h1 : Wh z1 d1) (h2 : Wh z2 d2) (b1 : z1.natAbs < cap 1024) (b2 : z2.natAbs < cap 1024) : ∃ d, PRet VS 188 [d1, d2] (.tu [d, .i .i64 0]) /\ Wh (Nat.gcd z1.natAbs z2.natAbs : Nat) d := by
 obtain ⟨y1, rfl, g1⟩ := h1.h
 obtain ⟨y2, rfl, g2⟩ := h2.h
 have e0 := fun {H K} => av2_c g1 g2 b1 b2 (H := H) (K := K)
 obtain ⟨p1, p2, p3⟩ := pack_q g1 (cap_b16 b1 (by omega))
 obtain ⟨r1, r2, r3⟩ := pack_q g2 (cap_b16 b2 (by omega))
 have e1 := fun {H K} => p2.c (H := H) (K := K) fn176 rfl g1.p1 (.inl rfl)
 have e2 := fun {H K} => r2.c (H := H) (K := K) fn176 rfl g2.p1 (.inl rfl)
 obtain ⟨t1, t2, t3⟩ := gcd_q p3 r3 (cap_big b1 (by omega)) (cap_big b2 (by omega))
 have e3 := fun {H K} => t2.c (H := H) (K := K) fn218 rfl (by simp [p3.pl, r3.pl]) (.inl rfl)
 have hb : (ds 4294967296 (Nat.gcd z1.natAbs z2.natAbs)).length < 1000000000 := by
  by_cases h0 : z1.natAbs = 0
  ·rw [h0, Nat.gcd_zero_left]; exact cap_big b2 (by omega)
  ·exact Nat.lt_of_le_of_lt (ds_mono h32 (Nat.gcd_le_left _ (by omega))) (cap_big b1 (by omega))
 obtain ⟨s1, s2, s3⟩ := unpack_q (neg := false) t3.sl (lm_ds h32 _) (by omega)
 rw [vl_ds h32] at s3
 have e4 := fun {H K} => s2.c (H := H) (K := K) fn214 rfl (by simp [t3.pl, plain_b]) (.inl rfl)
 simp only [Bool.false_eq_true, if_false] at s3
 obtain ⟨y, rfl, hy⟩ := s3.h
 have ef := fun m H => flat_freeze hy.sl.flat m H
 refine ⟨_, .body (vf := v188) fn188 rfl ?_, s3⟩
 simp (disch := omega) only [go_sem, Nat.reduceAdd, Nat.reduceSub, Nat.reduceLT, v188, e0, e1, e2, e3, e4, ef]
theorem divmod_q {z1 : Int} {n2 : Nat} {d1 d2 : D} (h1 : Wh z1 d1) (h2 : Wh (n2 : Int) d2) (h0 : n2 ≠ 0) (b1 : z1.natAbs < cap 1023) (b2 : n2 < cap 1024) : ∃ d e, PRet VS 178 [d1, d2] (.tu [d, e, .i .i64 0]) /\ Wh (z1 / n2) d /\ Wh (z1 % n2) e := by
 obtain ⟨y1, rfl, g1⟩ := h1.h
 obtain ⟨y2, rfl, g2⟩ := h2.h
 have e0 := fun {H K} => av2_c g1 g2 (cap_up b1 (by omega)) b2 (H := H) (K := K)
 obtain ⟨p1, p2, p3⟩ := pack_q g1 (cap_b16 b1 (by omega))
 obtain ⟨r1, r2, r3⟩ := pack_q g2 (cap_b16 b2 (by omega))
 have e1 := fun {H K} => p2.c (H := H) (K := K) fn176 rfl g1.p1 (.inl rfl)
 have e2 := fun {H K} => r2.c (H := H) (K := K) fn176 rfl g2.p1 (.inl rfl)
 have nn : ((n2 : Int)).natAbs = n2 := rfl
 have hn2 : decide ((n2 : Int) < 0) = false := by simp
 rw [nn] at r3 g2
 rw [hn2] at e0
 have hl2 : ¬ ((ds 65536 n2).length : Int) = 0 := by have := ds_pos h16 h0; omega
 obtain ⟨q, r, t2, hq, hr⟩ := divide_q p3 r3 h0 (cap_big b1 (by omega)) (cap_big b2 (by omega))
 have e3 := fun {H K} => t2.c (H := H) (K := K) fn211 rfl (by simp [p3.pl, r3.pl]) (.inl rfl)
 have em : z1 = (if z1 < 0 then -((z1.natAbs : Nat) : Int) else (z1.natAbs : Nat)) := by split <;> omega
 have dm := Nat.div_add_mod z1.natAbs n2
 have hml := Nat.mod_lt z1.natAbs (show 0 < n2 by omega)
 have hdl : z1.natAbs / n2 <= z1.natAbs := Nat.div_le_self _ _
 have hqb : (ds 4294967296 (z1.natAbs / n2)).length < 1000000000 := Nat.lt_of_le_of_lt (ds_mono h32 hdl) (cap_big b1 (by omega))
 have hrb : (ds 4294967296 (z1.natAbs % n2)).length < 1000000000 := Nat.lt_of_le_of_lt (ds_mono h32 (Nat.le_of_lt hml)) (cap_big b2 (by omega))
 obtain ⟨Q, hQ⟩ : ∃ Q, Q = z1.natAbs / n2 := ⟨_, rfl⟩
 obtain ⟨R, hR⟩ : ∃ R, R = z1.natAbs % n2 := ⟨_, rfl⟩
 rw [<- hQ, <- hR] at dm
 rw [<- hQ] at hq hqb hdl
 rw [<- hR] at hr hrb hml
 by_cases hz : z1 < 0
 ·have d1 : decide (z1 < 0) = true := by simp [hz]
  rw [d1] at e0
  rw [d1]
  by_cases hr0 : R = 0
  ·obtain ⟨s1, s2, s3⟩ := unpack_q (neg := true) hq.sl (lm_ds h32 _) (by omega)
   obtain ⟨t1, t2', t3⟩ := unpack_q (neg := false) hr.sl (lm_ds h32 _) (by omega)
   rw [vl_ds h32] at s3 t3
   have e4 := fun {H K} => s2.c (H := H) (K := K) fn214 rfl (by simp [hq.pl, plain_b]) (.inl rfl)
   have e5 := fun {H K} => t2'.c (H := H) (K := K) fn214 rfl (by simp [hr.pl, plain_b]) (.inl rfl)
   have f1 : (if true = true then -(Q : Int) else (Q : Int)) = z1 / n2 := by
    have : z1 = n2 * (-(Q : Int)) := by
     have : (z1.natAbs : Int) = n2 * Q := by rw [<- dm, hr0]; simp
     grind
    rw [this, Int.mul_ediv_cancel_left _ (by omega)]; simp
   have f2 : (if false = true then -(R : Int) else (R : Int)) = z1 % n2 := by
    have : z1 = n2 * (-(Q : Int)) := by
     have : (z1.natAbs : Int) = n2 * Q := by rw [<- dm, hr0]; simp
     grind
    rw [this, Int.mul_emod_right, hr0]; simp
   rw [f1] at s3
   rw [f2] at t3
   obtain ⟨w1, rfl, hw1⟩ := s3.h
   obtain ⟨w2, rfl, hw2⟩ := t3.h
   have ef := fun m H => flat_freeze hw1.sl.flat m H
   have eg := fun m H => flat_freeze hw2.sl.flat m H
   have hl3 : ((ds 4294967296 R).length : Int) = 0 := by rw [hr0, ds_zero]; rfl
   refine ⟨_, _, .body (vf := v178) fn178 rfl ?_, s3, t3⟩
   simp (disch := omega) only [go_sem, Nat.reduceAdd, Nat.reduceSub, Nat.reduceLeDiff, Nat.reduceLT, Int.reduceLT, v178, e0, e1, e2, e3, g2.sl.n, hr.sl.n, hl2, hl3, hn2, e4, e5, ef, eg]
  ·obtain ⟨a1, a2, a3⟩ := plus_q hq (b := 1) (y := .im 1 [[.i .u32 1]]) ⟨by rw [ds_step h32 (by omega)]; simp only [Nat.reduceMod, Nat.reduceDiv, ds_zero]; exact .im⟩ hqb (by rw [ds_step h32 (by omega)]; simp only [Nat.reduceMod, Nat.reduceDiv, ds_zero]; simp)
   have e6 := fun {H K} => CallQ_p (V := VS) (vf := v212) (args := [q, .sv 1 [[.i .u32 1]]]) (H := H) (H1 := H) (K := K) fn212 rfl a2 (by
    have eq := fun m H => flat_freeze hq.sl.flat m H
    simp only [go_sem, Nat.reduceAdd, eq])
   obtain ⟨m1, m2, m3⟩ := minus_q r3 hr (by omega) (cap_big b2 (by omega))
   have e7 := fun {H K} => m2.c (H := H) (K := K) fn213 rfl (by simp [r3.pl, hr.pl]) (.inl rfl)
   obtain ⟨s1, s2, s3⟩ := unpack_q (neg := true) a3.sl (lm_ds h32 _) (by
    have : (ds 4294967296 (Q + 1)).length <= 4096 := cap_32 (k := 4096) (cap_up (cap_add (n := 1024) (Nat.lt_of_le_of_lt hdl b1) (Nat.lt_of_lt_of_le (show 1 < 65536 ^ 1 by omega) (cap_le (show 1 <= 1023 by omega))) (by omega)) (by omega))
    omega)
   obtain ⟨t1, t2', t3⟩ := unpack_q (neg := false) m3.sl (lm_ds h32 _) (by have := ds_mono h32 (Nat.sub_le n2 R); have := cap_big b2 (by omega); omega)
   rw [vl_ds h32] at s3 t3
   have e4 := fun {H K} => s2.c (H := H) (K := K) fn214 rfl (by simp [a3.pl, plain_b]) (.inl rfl)
   have e5 := fun {H K} => t2'.c (H := H) (K := K) fn214 rfl (by simp [m3.pl, plain_b]) (.inl rfl)
   have ez : z1 = ((n2 - R : Nat) : Int) + n2 * (-((Q : Int) + 1)) := by
    have : (z1.natAbs : Int) = n2 * Q + R := by rw [<- dm]; simp
    have : ((n2 - R : Nat) : Int) = n2 - R := by omega
    grind
   have f1 : (if true = true then -((Q + 1 : Nat) : Int) else ((Q + 1 : Nat) : Int)) = z1 / n2 := by
    rw [ez, Int.add_mul_ediv_left _ _ (by omega), Int.ediv_eq_zero_of_lt (by omega) (by omega)]; simp
   have f2 : (if false = true then -((n2 - R : Nat) : Int) else ((n2 - R : Nat) : Int)) = z1 % n2 := by
    conv => rhs; rw [ez]
    rw [Int.add_mul_emod_self_left, Int.emod_eq_of_lt (by omega) (by omega)]; simp
   rw [f1] at s3
   rw [f2] at t3
   obtain ⟨w1, rfl, hw1⟩ := s3.h
   obtain ⟨w2, rfl, hw2⟩ := t3.h
   have ef := fun m H => flat_freeze hw1.sl.flat m H
   have eg := fun m H => flat_freeze hw2.sl.flat m H
   have hl3 : (0 : Int) < ((ds 4294967296 R).length : Int) := by have := ds_pos h32 hr0; omega
   refine ⟨_, _, .body (vf := v178) fn178 rfl ?_, s3, t3⟩
   simp (disch := omega) only [go_sem, Nat.reduceAdd, Nat.reduceSub, Nat.reduceLeDiff, Nat.reduceLT, v178, e0, e1, e2, e3, g2.sl.n, hr.sl.n, hl2, hl3, hn2, v212, e6, e7, e4, e5, ef, eg]
 ·have d1 : decide (z1 < 0) = false := by simp [hz]
  rw [d1] at e0
  rw [d1]
  obtain ⟨s1, s2, s3⟩ := unpack_q (neg := false) hq.sl (lm_ds h32 _) (by omega)
  obtain ⟨t1, t2', t3⟩ := unpack_q (neg := false) hr.sl (lm_ds h32 _) (by omega)
  rw [vl_ds h32] at s3 t3
  have e4 := fun {H K} => s2.c (H := H) (K := K) fn214 rfl (by simp [hq.pl, plain_b]) (.inl rfl)
  have e5 := fun {H K} => t2'.c (H := H) (K := K) fn214 rfl (by simp [hr.pl, plain_b]) (.inl rfl)
  have ez : z1 = ((z1.natAbs : Nat) : Int) := by omega
  have f1 : (if false = true then -(Q : Int) else (Q : Int)) = z1 / n2 := by
   rw [ez, hQ]; simp
  have f2 : (if false = true then -(R : Int) else (R : Int)) = z1 % n2 := by
   rw [ez, hR]; simp
  rw [f1] at s3
  rw [f2] at t3
  obtain ⟨w1, rfl, hw1⟩ := s3.h
  obtain ⟨w2, rfl, hw2⟩ := t3.h
  have ef := fun m H => flat_freeze hw1.sl.flat m H
  have eg := fun m H => flat_freeze hw2.sl.flat m H
  refine ⟨_, _, .body (vf := v178) fn178 rfl ?_, s3, t3⟩
  simp (disch := omega) only [go_sem, Nat.reduceAdd, Nat.reduceSub, Nat.reduceLeDiff, Nat.reduceLT, v178, e0, e1, e2, e3, g2.sl.n, hl2, hn2, e4, e5, ef, eg]
open Go.Dm
open Go.Dm
theorem equal16_q {l m : List Nat} {x y : D} (hx : Sl 1 (l.map u16) x) (hy : Sl 1 (m.map u16) y) (hn : l.length < 70368744177665) (hm : m.length < 70368744177665) : PRet VS 151 [x, y] (.b (decide (l = m))) := by
 refine .body (vf := v151) fn151 rfl ?_
 by_cases hl : l.length = m.length
 ·have c1 : (l.length : Int) = (m.length : Int) := by omega
  simp (disch := omega) only [go_sem, Nat.reduceSub, v151, hx.n, hy.n, c1]
  rw [<- c1]
  refine Run.up (fun i s => ∃ a4 a5 a8, (∀ k, k < i -> l[k]! = m[k]!) /\ s = ⟨[x, y, .b false, .b false, a4, a5, .i .i64 (i : Int), .i .i64 (l.length : Int), a8], []⟩) l.length ⟨_, _, _, fun k hk => by omega, rfl⟩ ?_
  rintro i s hi ⟨a4, a5, a8, he, rfl⟩
  by_cases hlt : i < l.length
  ·have c2 : (i : Int) < (l.length : Int) := by omega
   simp (disch := omega) only [go_sem, v151l0, hx.q, hy.q, hx.under, hy.under, u16, wr, c2]
   by_cases h0 : l[i]! = m[i]!
   ·have d1 : (l[i]! : Int) = (m[i]! : Int) := by omega
    simp (disch := omega) only [go_sem, d1]
    repeat' first | (refine And.intro ?_ ?_) | intro _
    all_goals try omega
    rename_i k hk
    by_cases hki : k = i
    ·rw [hki, h0]
    ·exact he k (by omega)
   ·have d1 : ¬ (l[i]! : Int) = (m[i]! : Int) := by omega
    have hne : l ≠ m := fun e => h0 (by rw [e])
    simp (disch := omega) only [go_sem, d1, hne]
    repeat' first | (refine And.intro ?_ ?_) | intro _
    all_goals omega
  ·have hil : i = l.length := by omega
   subst hil
   have heq : l = m := by
    refine List.ext_getElem hl fun k h1 h2 => ?_
    have := he k h1
    rwa [getElem!_pos l k h1, getElem!_pos m k h2] at this
   simp (disch := omega) only [go_sem, v151l0, Int.lt_irrefl, heq]
 ·have c1 : ¬ (l.length : Int) = (m.length : Int) := by omega
  have hne : l ≠ m := fun e => hl (by rw [e])
  simp (disch := omega) only [go_sem, Nat.reduceSub, v151, hx.n, hy.n, c1, hne]
theorem wsame_q {n1 n2 : Bool} {l m : List Nat} {x y : D} (hx : Sl 1 (l.map u16) x) (hy : Sl 1 (m.map u16) y) (hn : l.length < 70368744177665) (hm : m.length < 70368744177665) : PRet VS 109 [.ag [.b n1, x], .ag [.b n2, y]] (.b ((n1 == n2) && decide (l = m))) := by
 have e1 := fun {H K} => (equal16_q hx hy hn hm).c (H := H) (K := K) fn151 rfl (by simp [hx.pl, hy.pl]) (.inl rfl)
 refine .body (vf := v109) fn109 rfl ?_
 cases n1 <;> cases n2 <;> simp (disch := omega) only [go_sem, Nat.reduceAdd, Nat.reduceSub, Nat.reduceLeDiff, v109, e1]
end Go.Proofs.YtdpnanafhabkiaaGreatDoor.Dv
