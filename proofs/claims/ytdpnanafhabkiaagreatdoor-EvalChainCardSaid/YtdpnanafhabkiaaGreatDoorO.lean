/-
  Numbers and constants.
-/
import Derived.Test.YtdpnanafhabkiaaGreatDoorN
namespace Go.Proofs.YtdpnanafhabkiaaGreatDoor.Dv
open Go.Dm
theorem wval_ds {n : Int} : wval (decide (n < 0)) (ds 65536 n.natAbs) = n := by
 unfold wval
 rw [vl_ds h16]
 by_cases h : n < 0
 ·simp only [h, decide_true, if_true]; omega
 ·simp only [h, decide_false, Bool.false_eq_true, if_false]; omega
theorem VD.vlv {v : NV} {d : D} (h : VD v d) (ho : v.ok) : ∃ a : Vl, a.d = d /\ a.valid = true /\ a.nv = v := by
 obtain ⟨a, h0, h1, h2, h3, h4, h5, h6⟩ := h.vl ho
 refine ⟨a, h0, ?_, ?_⟩
 ·unfold Vl.valid
  rw [h1, h2]
  by_cases hk : v.k = 2 \/ v.k = 3
  ·rw [if_pos hk]
   obtain ⟨hl, hi⟩ := ho.f hk
   have c1 := cap_len.2 hl.bn
   have c2 := cap_len.2 hl.bm
   have w1 := wvalid_ds (neg := decide (v.n < 0)) (cap_up hl.bn (show 256 <= 1024 by omega)) (fun h0 => by simp; omega)
   have w2 := wvalid_ds (neg := false) (cap_up hl.bm (show 256 <= 1024 by omega)) (fun h0 => rfl)
   have hne := ds_ne h16 hl.z
   have : a.f.v = true := by
    show fvalid a.f.s a.f.l a.f.t a.f.m = true
    rw [h3, h4, h5, h6]
    unfold fvalid
    rw [w1, w2, vl_ds h16, vl_ds h16, hl.g]
    simp [c1, c2, hne]
   rw [this, hi]; rfl
  ·rw [if_neg hk]
   obtain ⟨e1, e2⟩ := ho.o hk
   have hz : a.f.zero = true := by
    show a.f.eq default = true
    unfold RF.eq
    rw [h3, h4, h5, h6, e1, e2, show (0 : Int).natAbs = 0 from rfl, ds_zero]
    rfl
   rw [hz]
   have hk1 := ho.k
   have t := ho.t
   have dd := ho.d
   have c := ho.c
   split
   ·simp; exact t (by assumption)
   split
   ·simp; exact dd (by assumption)
   rw [if_pos (by omega)]
   simp; exact c (by omega)
 ·unfold Vl.nv
  rw [h1, h2, h3, h4, h6, wval_ds, vl_ds h16]
structure CV (a : Vl) (v : NV) : Prop where
 va : a.valid = true
 n : a.nv = v
theorem CV.d {a : Vl} {v : NV} (h : CV a v) : VD v a.d /\ v.ok := by have := Vl.nv_ok h.va; rwa [h.n] at this
def conE (a : Vl) : Ex := .mk 1 [] a .n []
def dV : Vl := default
theorem dV_k : dV.k = 0 := rfl
theorem dV_s : dV.f.s = false := rfl
theorem dV_x : dV.f.x = .nil := rfl
theorem dV_t : dV.f.t = false := rfl
theorem dV_y : dV.f.y = .nil := rfl
theorem dV_i : dV.i = 0 := rfl
def opE (o : Nat) (a b : Ex) : Ex := .mk o [] dV .n [a, b]
theorem con_q (a : Vl) : PRet VS 5 [a.d] (conE a).d := by
 refine .body (vf := v5) fn5 rfl ?_
 simp only [Vl.d, Vl.cells, Ex.d, Ex.row_eq, conE, Ex.op, Ex.name, Ex.v, Ex.sl, Ex.z, Ex.args]
 have f1 := fun m H => flat_freeze a.f.hx.flat m H
 have f2 := fun m H => flat_freeze a.f.hy.flat m H
 simp (disch := omega) only [go_sem, Nat.reduceAdd, Nat.reduceSub, Nat.reduceLeDiff, v5, f1, f2]
 rfl
theorem con_c {a : Vl} {H : Heap} {K : CR -> Prop} : CallQ VS 5 [a.d] H K ↔ K (.ret (conE a).d H) := (con_q a).c fn5 rfl (by simp [a.pl]) (.inl rfl)
theorem op_q (o : Nat) (a b : Ex) : PRet VS 7 [.i .u8 o, .im 9 [a.row, b.row]] (opE o a b).d := by
 refine .body (vf := v7) fn7 rfl ?_
 simp (disch := omega) only [go_sem, Nat.reduceAdd, Nat.reduceSub, Nat.reduceLeDiff, v7]
 rfl
theorem op_c {o : Nat} {a b : Ex} {H : Heap} {K : CR -> Prop} : CallQ VS 7 [.i .u8 o, .sv 9 [a.row, b.row]] H K ↔ K (.ret (opE o a b).d H) := by
 have f1 := fun m H => flat_freeze a.v.f.hx.flat m H
 have f2 := fun m H => flat_freeze a.v.f.hy.flat m H
 have f3 := fun m H => flat_freeze b.v.f.hx.flat m H
 have f4 := fun m H => flat_freeze b.v.f.hy.flat m H
 have f5 := fun m H => flat_freeze a.hsl.flat m H
 have f6 := fun m H => flat_freeze b.hsl.flat m H
 rw [CallQ_p (vf := v7) (H1 := H) fn7 rfl (op_q o a b) (by simp only [go_sem, Nat.reduceAdd, Ex.row_eq, f1, f2, f3, f4, f5, f6])]
 exact Iff.rfl
theorem num_q {k : Nat} (hk : k = 2 \/ k = 3) {n : Int} (hn : -4611686018427387904 <= n /\ n < 4611686018427387904) : ∃ a : Vl, PRet VS 6 [.i .u8 k, .i .i64 n, .i .i64 1] a.d /\ CV a ⟨k, n, 1, 0⟩ := by
 obtain ⟨r, h1, h2⟩ := kfrac_q (d := 1) hn (by omega)
 simp only [Int.natAbs_one, Nat.gcd_one_right, Int.natCast_one, Int.ediv_one, Nat.div_one] at h2
 have e1 := fun {H K} => h1.c (H := H) (K := K) fn16 rfl rfl (.inl rfl)
 obtain ⟨x, y, rfl, hx, hy⟩ := h2.h
 have f1 := fun m H => flat_freeze hx.sl.flat m H
 have f2 := fun m H => flat_freeze hy.sl.flat m H
 have hv : VD ⟨k, n, 1, 0⟩ (.ag [.i .u8 k, .b (decide (n < 0)), x, .b false, y, .i .i64 0]) := ⟨x, y, rfl, hx, hy⟩
 obtain ⟨a, a1, a2, a3⟩ := hv.vlv (NV.frac_ok hk (low_int (by omega)))
 refine ⟨a, ?_, ⟨a2, a3⟩⟩
 rw [a1]
 refine .body (vf := v6) fn6 rfl ?_
 simp (disch := omega) only [go_sem, Nat.reduceAdd, Nat.reduceSub, Nat.reduceLeDiff, v6, e1, f1, f2]
end Go.Proofs.YtdpnanafhabkiaaGreatDoor.Dv
