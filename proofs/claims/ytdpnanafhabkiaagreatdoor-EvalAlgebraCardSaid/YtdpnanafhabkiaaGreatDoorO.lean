/-
  Numbers and constants; operations on two values.
-/
import Derived.Test.YtdpnanafhabkiaaGreatDoorN
import Derived.Test.YtdpnanafhabkiaaGreatDoorP
namespace Go.Proofs.YtdpnanafhabkiaaGreatDoor.Dv
open Go.Dm
theorem wval_ds {n : Int} : wval (decide (n < 0)) (ds 65536 n.natAbs) = n := by
 unfold wval
 rw [vl_ds h16]
 by_cases h : n < 0
 ·simp only [h, decide_true, if_true]; omega
 ·simp only [h, decide_false, Bool.false_eq_true, if_false]; omega
theorem VD.vlv {v : NV} {d : D} (h : VD v d) (ho : v.ok) : ∃ a : Vl, a.d = d /\ a.valid = true /\ a.nv = v := by
 obtain ⟨a, h0, h1, h2, h3, h4, h5, h6⟩ := h.vl ho
 refine ⟨a, h0, ?_, ?_⟩
 ·unfold Vl.valid
  rw [h1, h2]
  by_cases hk : v.k = 2 \/ v.k = 3
  ·rw [if_pos hk]
   obtain ⟨hl, hi⟩ := ho.f hk
   have c1 := cap_len.2 hl.bn
   have c2 := cap_len.2 hl.bm
   have w1 := wvalid_ds (neg := decide (v.n < 0)) (cap_up hl.bn (show 256 <= 1024 by omega)) (fun h0 => by simp; omega)
   have w2 := wvalid_ds (neg := false) (cap_up hl.bm (show 256 <= 1024 by omega)) (fun h0 => rfl)
   have hne := ds_ne h16 hl.z
   have : a.f.v = true := by
    show fvalid a.f.s a.f.l a.f.t a.f.m = true
    rw [h3, h4, h5, h6]
    unfold fvalid
    rw [w1, w2, vl_ds h16, vl_ds h16, hl.g]
    simp [c1, c2, hne]
   rw [this, hi]; rfl
  ·rw [if_neg hk]
   obtain ⟨e1, e2⟩ := ho.o hk
   have hz : a.f.zero = true := by
    show a.f.eq default = true
    unfold RF.eq
    rw [h3, h4, h5, h6, e1, e2, show (0 : Int).natAbs = 0 from rfl, ds_zero]
    rfl
   rw [hz]
   have hk1 := ho.k
   have t := ho.t
   have dd := ho.d
   have c := ho.c
   split
   ·simp; exact t (by assumption)
   split
   ·simp; exact dd (by assumption)
   rw [if_pos (by omega)]
   simp; exact c (by omega)
 ·unfold Vl.nv
  rw [h1, h2, h3, h4, h6, wval_ds, vl_ds h16]
structure CV (a : Vl) (v : NV) : Prop where
 va : a.valid = true
 n : a.nv = v
theorem CV.d {a : Vl} {v : NV} (h : CV a v) : VD v a.d /\ v.ok := by have := Vl.nv_ok h.va; rwa [h.n] at this
def conE (a : Vl) : Ex := .mk 1 [] a .n []
def dV : Vl := default
theorem dV_k : dV.k = 0 := rfl
theorem dV_s : dV.f.s = false := rfl
theorem dV_x : dV.f.x = .nil := rfl
theorem dV_t : dV.f.t = false := rfl
theorem dV_y : dV.f.y = .nil := rfl
theorem dV_i : dV.i = 0 := rfl
def opE (o : Nat) (a b : Ex) : Ex := .mk o [] dV .n [a, b]
theorem TS.c {a : Vl} {v : NV} (h : CV a v) : TS (conE a) (.ok v) := by
 have := TS.con (e := conE a) rfl h.va rfl
 rwa [show (conE a).v = a from rfl, h.n] at this
theorem TS.o {o : Nat} {a b : Ex} {x y : NV} (ho : 7 <= o /\ o <= 14) (ha : TS a (.ok x)) (hb : TS b (.ok y)) (hm : ¬ (x.k = 4 /\ y.k = 6)) : TS (opE o a b) (doN o x y) := .bin (e := opE o a b) ho rfl ha hb hm
theorem con_q (a : Vl) : PRet VS 5 [a.d] (conE a).d := by
 refine .body (vf := v5) fn5 rfl ?_
 simp only [Vl.d, Vl.cells, Ex.d, Ex.row_eq, conE, Ex.op, Ex.name, Ex.v, Ex.sl, Ex.z, Ex.args]
 have f1 := fun m H => flat_freeze a.f.hx.flat m H
 have f2 := fun m H => flat_freeze a.f.hy.flat m H
 simp (disch := omega) only [go_sem, Nat.reduceAdd, Nat.reduceSub, Nat.reduceLeDiff, v5, f1, f2]
 rfl
theorem con_c {a : Vl} {H : Heap} {K : CR -> Prop} : CallQ VS 5 [a.d] H K ↔ K (.ret (conE a).d H) := (con_q a).c fn5 rfl (by simp [a.pl]) (.inl rfl)
theorem op_q (o : Nat) (a b : Ex) : PRet VS 7 [.i .u8 o, .im 9 [a.row, b.row]] (opE o a b).d := by
 refine .body (vf := v7) fn7 rfl ?_
 simp (disch := omega) only [go_sem, Nat.reduceAdd, Nat.reduceSub, Nat.reduceLeDiff, v7]
 rfl
theorem op_c {o : Nat} {a b : Ex} {H : Heap} {K : CR -> Prop} : CallQ VS 7 [.i .u8 o, .sv 9 [a.row, b.row]] H K ↔ K (.ret (opE o a b).d H) := by
 have f1 := fun m H => flat_freeze a.v.f.hx.flat m H
 have f2 := fun m H => flat_freeze a.v.f.hy.flat m H
 have f3 := fun m H => flat_freeze b.v.f.hx.flat m H
 have f4 := fun m H => flat_freeze b.v.f.hy.flat m H
 have f5 := fun m H => flat_freeze a.hsl.flat m H
 have f6 := fun m H => flat_freeze b.hsl.flat m H
 rw [CallQ_p (vf := v7) (H1 := H) fn7 rfl (op_q o a b) (by simp only [go_sem, Nat.reduceAdd, Ex.row_eq, f1, f2, f3, f4, f5, f6])]
 exact Iff.rfl
theorem num_q {k : Nat} (hk : k = 2 \/ k = 3) {n : Int} (hn : -4611686018427387904 <= n /\ n < 4611686018427387904) : ∃ a : Vl, PRet VS 6 [.i .u8 k, .i .i64 n, .i .i64 1] a.d /\ CV a ⟨k, n, 1, 0⟩ := by
 obtain ⟨r, h1, h2⟩ := kfrac_q (d := 1) hn (by omega)
 simp only [Int.natAbs_one, Nat.gcd_one_right, Int.natCast_one, Int.ediv_one, Nat.div_one] at h2
 have e1 := fun {H K} => h1.c (H := H) (K := K) fn16 rfl rfl (.inl rfl)
 obtain ⟨x, y, rfl, hx, hy⟩ := h2.h
 have f1 := fun m H => flat_freeze hx.sl.flat m H
 have f2 := fun m H => flat_freeze hy.sl.flat m H
 have hv : VD ⟨k, n, 1, 0⟩ (.ag [.i .u8 k, .b (decide (n < 0)), x, .b false, y, .i .i64 0]) := ⟨x, y, rfl, hx, hy⟩
 obtain ⟨a, a1, a2, a3⟩ := hv.vlv (NV.frac_ok hk (low_int (by omega)))
 refine ⟨a, ?_, ⟨a2, a3⟩⟩
 rw [a1]
 refine .body (vf := v6) fn6 rfl ?_
 simp (disch := omega) only [go_sem, Nat.reduceAdd, Nat.reduceSub, Nat.reduceLeDiff, v6, e1, f1, f2]
theorem t15_ok {e : Ex} {v : NV} (h : TS e (.ok v)) (hs : sized e = true) : ∃ a : Vl, PRet VS 15 [noP, .nil, e.d, .i .i64 0, .i .i64 0] (.tu [a.d, .i .i64 0]) /\ CV a v := by
 have h1 : PurQ VS 15 [noP, .nil, e.d, .i .i64 0, .i .i64 0] (fun r => ∃ d, r = .ret d /\ ∃ a : Vl, d = .tu [a.d, .i .i64 0] /\ CV a v) := (term15 h hs).mono fun r hr => by
  rcases hr.h with ⟨w, d, e1, rfl, hv, ho⟩ | ⟨c, e1, _⟩
  ·cases e1
   obtain ⟨a, rfl, a2, a3⟩ := hv.vlv ho
   exact ⟨_, rfl, a, rfl, a2, a3⟩
  ·cases e1
 obtain ⟨d, h2, a, rfl, h3⟩ := h1.ex
 exact ⟨a, h2, h3⟩
theorem t15_er {e : Ex} {c : Int} (h : TS e (.er c)) (hs : sized e = true) : PRet VS 15 [noP, .nil, e.d, .i .i64 0, .i .i64 0] (.tu [zeroV, .i .i64 c]) :=
 PRet.iff_q.2 ((term15 h hs).mono fun r hr => by
  rcases hr.h with ⟨w, d, e1, _⟩ | ⟨c', e1, rfl⟩
  ·cases e1
  ·cases e1; rfl)
theorem is_q {e : Ex} {v w : NV} (h : TS e (.ok v)) (hs : sized e = true) {b : Vl} (hb : CV b w) : PRet VS 14 [e.d, b.d] (.b (decide (v = w))) := by
 obtain ⟨a, h1, h2⟩ := t15_ok h hs
 have e1 := fun {H K} => h1.c (H := H) (K := K) fn15 rfl (by simp [e.pl, noP, plain_ag, plain_nil, plain_i, flat_s, flat_nil]) (.inl rfl)
 have e2 := fun {H K} => (same13 h2.d.1 hb.d.1 h2.d.2 hb.d.2).c (H := H) (K := K) fn13 rfl (by simp [a.pl, b.pl]) (.inl rfl)
 refine .body (vf := v14) fn14 rfl ?_
 simp only [Vl.d, Vl.cells, Ex.d, Ex.row_eq, noP] at e1 e2 ⊢
 simp (disch := omega) only [go_sem, Nat.reduceAdd, Nat.reduceSub, v14, e1, e2]
theorem is_c {e : Ex} {v w : NV} (h : TS e (.ok v)) (hs : sized e = true) {b : Vl} (hb : CV b w) {H : Heap} {K : CR -> Prop} : CallQ VS 14 [e.d, b.d] H K ↔ K (.ret (.b (decide (v = w))) H) := (is_q h hs hb).c fn14 rfl (by simp [e.pl, b.pl]) (.inl rfl)
open Go.Dm
theorem cap_b64 {n : Nat} (h : n < 18446744073709551616) : n < cap 256 := Nat.lt_of_lt_of_le (show n < cap 4 from h) (cap_le (by omega))
theorem frac1 {k : Nat} {n : Int} {m : Nat} (hm : m = 1) (hn : n.natAbs < 18446744073709551616) : fracN k n m = .ok ⟨k, n, 1, 0⟩ := by
 subst hm
 unfold fracN
 rw [Nat.gcd_one_right, Int.natCast_one, Int.ediv_one, Nat.div_one, if_pos ⟨cap_b64 hn, cap_b64 (by decide)⟩]
theorem fit_kk {k : Nat} (hk : k = 2 \/ k = 3) {op : Nat} (h : op = 7 \/ op = 8 \/ op = 11 \/ op = 12 \/ op = 13 \/ op = 14) : fitsN op [k, k] = true := by
 obtain rfl | rfl := hk
 all_goals rcases h with rfl | rfl | rfl | rfl | rfl | rfl <;> decide
theorem cmp_n {k A B : Nat} (hk : k = 2 \/ k = 3) : cmpN ⟨k, A, 1, 0⟩ ⟨k, B, 1, 0⟩ = isgn A B := by
 unfold cmpN
 simp only
 rw [if_pos hk, Int.natCast_one, Int.mul_one, Int.mul_one]
theorem add_n {k A B : Nat} (hk : k = 2 \/ k = 3) (_ : A < 4294967296) (_ : B < 4294967296) : doN 7 ⟨k, A, 1, 0⟩ ⟨k, B, 1, 0⟩ = .ok ⟨k, (A : Int) + B, 1, 0⟩ := by
 unfold doN binN sumN
 rw [if_pos (fit_kk hk (.inl rfl)), if_pos (.inl rfl)]
 simp only
 rw [if_neg (by omega), if_neg (by omega), if_neg (by decide)]
 rw [Int.natCast_one, Int.mul_one, Int.mul_one]
 exact frac1 rfl (by omega)
theorem sub_n {k A B : Nat} (hk : k = 2 \/ k = 3) (_ : A < 4294967296) (_ : B < 4294967296) : doN 8 ⟨k, (A : Int) + B, 1, 0⟩ ⟨k, B, 1, 0⟩ = .ok ⟨k, A, 1, 0⟩ := by
 unfold doN binN sumN
 rw [if_pos (fit_kk hk (.inr (.inl rfl))), if_pos (.inr rfl)]
 simp only
 rw [if_neg (by omega), if_neg (by omega), if_pos trivial]
 rw [Int.natCast_one, Int.mul_one, Int.mul_one, show (A : Int) + B + -B = A by omega]
 exact frac1 rfl (by omega)
theorem min_n {k A B : Nat} (hk : k = 2 \/ k = 3) (_ : A < 4294967296) (_ : B < 4294967296) : doN 11 ⟨k, A, 1, 0⟩ ⟨k, B, 1, 0⟩ = .ok ⟨k, (min A B : Nat), 1, 0⟩ := by
 unfold doN
 rw [if_pos (fit_kk hk (by omega))]
 unfold binN
 rw [if_neg (by decide), if_neg (by decide), if_neg (by decide), if_pos (.inl rfl), cmp_n hk]
 unfold isgn
 by_cases h : A <= B
 ·rw [Nat.min_eq_left h]
  by_cases h2 : A = B
  ·subst h2; simp
  ·rw [if_pos (show (A : Int) < B by omega)]; rfl
 ·rw [Nat.min_eq_right (by omega), if_neg (show ¬ (A : Int) < B by omega), if_neg (show ¬ (A : Int) = B by omega)]; rfl
theorem max_n {k A B : Nat} (hk : k = 2 \/ k = 3) (_ : A < 4294967296) (_ : B < 4294967296) : doN 12 ⟨k, A, 1, 0⟩ ⟨k, B, 1, 0⟩ = .ok ⟨k, (max A B : Nat), 1, 0⟩ := by
 unfold doN
 rw [if_pos (fit_kk hk (by omega))]
 unfold binN
 rw [if_neg (by decide), if_neg (by decide), if_neg (by decide), if_pos (.inr rfl), cmp_n hk]
 unfold isgn
 by_cases h : A <= B
 ·rw [Nat.max_eq_right h]
  by_cases h2 : A = B
  ·subst h2; simp
  ·rw [if_pos (show (A : Int) < B by omega)]; rfl
 ·rw [Nat.max_eq_left (by omega), if_neg (show ¬ (A : Int) < B by omega), if_neg (show ¬ (A : Int) = B by omega)]; rfl
theorem less_n {k A B : Nat} (hk : k = 2 \/ k = 3) (_ : A < 4294967296) (_ : B < 4294967296) : doN 13 ⟨k, A, 1, 0⟩ ⟨k, B, 1, 0⟩ = .ok (truthN (decide (A < B))) := by
 unfold doN
 rw [if_pos (fit_kk hk (by omega))]
 unfold binN
 rw [if_neg (by decide), if_neg (by decide), if_neg (by decide), if_neg (by decide), if_pos rfl, cmp_n hk]
 have : decide (isgn (A : Int) B < 0) = decide (A < B) := by
  rw [decide_eq_decide]
  unfold isgn
  split
  ·exact ⟨fun _ => by omega, fun _ => by omega⟩
  ·split <;> exact ⟨fun h => by omega, fun h => by omega⟩
 rw [this]
theorem same_n {k A B : Nat} (hk : k = 2 \/ k = 3) (_ : A < 4294967296) (_ : B < 4294967296) : doN 14 ⟨k, A, 1, 0⟩ ⟨k, B, 1, 0⟩ = .ok (truthN (decide (A = B))) := by
 unfold doN
 rw [if_pos (fit_kk hk (by omega))]
 unfold binN
 rw [if_neg (by decide), if_neg (by decide), if_neg (by decide), if_neg (by decide), if_neg (by decide)]
 have : decide ((⟨k, A, 1, 0⟩ : NV) = ⟨k, B, 1, 0⟩) = decide (A = B) := by
  rw [decide_eq_decide, NV.mk.injEq]
  exact ⟨fun h => by have := h.2.1; omega, fun h => by subst h; exact ⟨rfl, rfl, rfl, rfl⟩⟩
 rw [this]
theorem mul_n {k A B : Nat} (hk : k = 2 \/ k = 3) (_ : A < 4294967296) (_ : B < 4294967296) : doN 9 ⟨k, A, 1, 0⟩ ⟨2, B, 1, 0⟩ = .ok ⟨k, ((A * B : Nat) : Int), 1, 0⟩ := by
 have hf : fitsN 9 [k, 2] = true := by obtain rfl | rfl := hk <;> decide
 have hm : max k 2 = k := by omega
 have hab : A * B < 18446744073709551616 := Nat.lt_of_lt_of_le (Nat.mul_lt_mul'' (by assumption) (by assumption)) (by decide)
 unfold doN
 rw [if_pos hf]
 unfold binN
 rw [if_neg (by decide), if_pos rfl]
 simp only
 rw [hm, <- Int.natCast_mul]
 exact frac1 rfl (by rw [Int.natAbs_natCast]; exact hab)
theorem div_n {k A B : Nat} (hk : k = 2 \/ k = 3) (_ : A < 4294967296) (_ : B < 4294967296) (hB0 : B ≠ 0) : doN 10 ⟨k, ((A * B : Nat) : Int), 1, 0⟩ ⟨2, B, 1, 0⟩ = .ok ⟨k, A, 1, 0⟩ := by
 have hf : fitsN 10 [k, 2] = true := by obtain rfl | rfl := hk <;> decide
 have hm : (if k = 2 then 2 else 3) = k := by split <;> omega
 unfold doN
 rw [if_pos hf]
 unfold binN
 rw [if_neg (by decide), if_neg (by decide), if_pos rfl]
 simp only
 rw [if_neg (by omega), hm]
 have e0 : divN ((A * B : Nat) : Int) (B : Int) 1 = ((A * B : Nat) : Int) := by
  unfold divN; rw [if_neg (by omega), Int.natCast_one, Int.mul_one]
 rw [e0]
 unfold fracN
 rw [Int.natAbs_natCast, Int.natAbs_natCast, Nat.one_mul]
 have g : Nat.gcd (A * B) B = B := by rw [Nat.gcd_comm]; exact Nat.gcd_eq_left (Nat.dvd_mul_left B A)
 have e1 : ((A * B : Nat) : Int) / (B : Int) = A := by rw [Int.natCast_mul]; exact Int.mul_ediv_cancel _ (by omega)
 rw [g, e1, Nat.div_self (by omega), if_pos ⟨cap_b64 (by omega), cap_b64 (by decide)⟩]
theorem later_n {d a : Nat} (ha : a < 65536) : doN 7 ⟨4, 0, 0, d⟩ ⟨5, 0, 0, a⟩ = if (a : Int) + d >= 65536 then .er 30 else .ok ⟨4, 0, 0, (a : Int) + d⟩ := by
 unfold doN
 simp only [show fitsN 7 [4, 5] = true by decide, if_true]
 unfold binN sumN
 rw [if_pos (.inl rfl)]
 simp only [reduceIte, show ¬ (5 : Nat) = 4 by decide, show ¬ (7 : Nat) = 8 by decide]
 unfold dateN
 rw [Int.add_comm]
 by_cases h : (a : Int) + d >= 65536
 ·rw [if_pos (by omega), if_pos h]
 ·rw [if_neg (by omega), if_neg h]
theorem back_day {d a : Nat} (ha : a < 65536) : doN 8 ⟨4, 0, 0, (a : Int) + d⟩ ⟨4, 0, 0, d⟩ = .ok ⟨5, 0, 0, a⟩ := by
 unfold doN
 simp only [show fitsN 8 [4, 4] = true by decide, if_true]
 unfold binN sumN
 rw [if_pos (.inr rfl)]
 simp only [reduceIte]
 unfold wholeN
 rw [show (a : Int) + d + -d = a by omega, if_neg (by omega)]
theorem back_by {d a : Nat} (hd : d < 65536) : doN 8 ⟨4, 0, 0, (a : Int) + d⟩ ⟨5, 0, 0, a⟩ = .ok ⟨4, 0, 0, d⟩ := by
 unfold doN
 simp only [show fitsN 8 [4, 5] = true by decide, if_true]
 unfold binN sumN
 rw [if_pos (.inr rfl)]
 simp only [reduceIte, show ¬ (5 : Nat) = 4 by decide]
 unfold dateN
 rw [show (a : Int) + d + -a = d by omega, if_neg (by omega)]
end Go.Proofs.YtdpnanafhabkiaaGreatDoor.Dv
