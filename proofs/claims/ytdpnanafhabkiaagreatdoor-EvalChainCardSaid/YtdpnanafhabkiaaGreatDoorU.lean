/-
  A name that counts days: the statement, run.
-/
import Derived.Test.YtdpnanafhabkiaaGreatDoorT
import Derived.Test.YtdpnanafhabkiaaGreatDoorP
namespace Go.Proofs.YtdpnanafhabkiaaGreatDoor.Dv
open Go.Dm
theorem eval_ok {C : Vls} {T d : Int} {k : Nat} (hC : C.ok T) (hd : 0 <= d) (hk : d + k = T) (hT : T < 65536) (hk2 : k + 1 <= 4096) : ∃ a : Vl, PRet VS 11 [C.plan, .nil, .s chN, .i .i64 d, .i .i64 0] (.tu [a.d, .i .i64 0]) /\ CV a ⟨2, k, 1, 0⟩ := by
 have h1 : PurQ VS 11 [C.plan, .nil, .s chN, .i .i64 d, .i .i64 0] (fun r => ∃ d, r = .ret d /\ ∃ a : Vl, d = .tu [a.d, .i .i64 0] /\ CV a ⟨2, k, 1, 0⟩) := (eval_n hC hd hk hT (by omega)).mono fun r hr => by
  rcases hr.h with ⟨o, d, rfl, hv, ho⟩ | ⟨o, _⟩
  ·obtain ⟨a, rfl, a2, a3⟩ := hv.vlv ho
   exact ⟨_, rfl, a, rfl, a2, a3⟩
  ·omega
 obtain ⟨d, h2, a, rfl, h3⟩ := h1.ex
 exact ⟨a, h2, h3⟩
theorem eval_many {C : Vls} {T d : Int} {k : Nat} (hC : C.ok T) (hd : 0 <= d) (hk : d + k = T) (hT : T < 65536) (hk2 : k < 10000) (hk3 : ¬ k + 1 <= 4096) : PRet VS 11 [C.plan, .nil, .s chN, .i .i64 d, .i .i64 0] (.tu [zeroV, .i .i64 5]) :=
 PRet.iff_q.2 ((eval_n hC hd hk hT hk2).mono fun r hr => by
  rcases hr.h with ⟨o, _⟩ | ⟨_, rfl⟩
  ·omega
  ·rfl)
theorem clause_q (nm lb : List UInt8) (w t : Ex) : PRet VS 8 [.s nm, .s lb, w.d, t.d] (.ag (clR nm lb w t)) := by
 have f1 := fun m H => flat_freeze w.v.f.hx.flat m H
 have f2 := fun m H => flat_freeze w.v.f.hy.flat m H
 have f3 := fun m H => flat_freeze t.v.f.hx.flat m H
 have f4 := fun m H => flat_freeze t.v.f.hy.flat m H
 have f5 := fun m H => flat_freeze w.hsl.flat m H
 have f6 := fun m H => flat_freeze t.hsl.flat m H
 refine .body (vf := v8) fn8 rfl ?_
 simp only [Ex.d, Ex.row_eq, clR, List.cons_append, List.nil_append]
 simp (disch := omega) only [go_sem, Nat.reduceAdd, Nat.reduceSub, Nat.reduceLeDiff, v8, f1, f2, f3, f4, f5, f6]
theorem clause_c {nm lb : List UInt8} {w t : Ex} {H : Heap} {K : CR -> Prop} : CallQ VS 8 [.s nm, .s lb, w.d, t.d] H K ↔ K (.ret (.ag (clR nm lb w t)) H) := (clause_q nm lb w t).c fn8 rfl (by simp [w.pl, t.pl, plain_s]) (.inl rfl)
theorem yes_c {y : Vl} (hy : y.d = truthD true) {H : Heap} {K : CR -> Prop} : CallQ VS 9 [] H K ↔ K (.ret (conE y).d H) := by
 have cY := fun {H K} => con_c (a := y) (H := H) (K := K)
 have f1 := fun m H => flat_freeze y.f.hx.flat m H
 have f2 := fun m H => flat_freeze y.f.hy.flat m H
 rw [hy] at cY
 have h : PRet VS 9 [] (conE y).d := by
  refine .body (vf := v9) fn9 rfl ?_
  simp only [truthD, if_true, Ex.d, Ex.row_eq, conE, Ex.op, Ex.name, Ex.v, Ex.sl, Ex.z, Ex.args, List.map_nil, slD, Zs.d] at cY ⊢
  simp (disch := omega) only [go_sem, Nat.reduceAdd, Nat.reduceLeDiff, v9, cY, f1, f2]
 exact h.c fn9 rfl rfl (.inl rfl)
theorem named_c {nm : List UInt8} {H : Heap} {K : CR -> Prop} : CallQ VS 10 [.i .u8 5, .s nm] H K ↔ K (.ret (refE nm todayE).d H) := by
 have h : PRet VS 10 [.i .u8 5, .s nm] (refE nm todayE).d := by
  refine .body (vf := v10) fn10 rfl ?_
  simp only [Ex.d, Ex.row_eq, refE, todayE, Ex.op, Ex.name, Ex.v, Ex.sl, Ex.z, Ex.args, List.map_cons, List.map_nil, slD, Zs.d, dV_k, dV_s, dV_x, dV_t, dV_y, dV_i]
  have eb : bslD [] 9 1 [D.i .u8 0, .s [], .i .u8 0, .b false, .nil, .b false, .nil, .i .i64 0, .nil] [(0, .ag [.i .u8 2, .s [], .i .u8 0, .b false, .nil, .b false, .nil, .i .i64 0, .nil])] true = some (.mu 0 1 0 1, [.ar 9 [[.i .u8 2, .s [], .i .u8 0, .b false, .nil, .b false, .nil, .i .i64 0, .nil]] (some 1) true false]) := rfl
  simp (disch := omega) only [go_sem, Nat.reduceAdd, Nat.reduceSub, Nat.reduceLeDiff, v10, eb]
 exact h.c fn10 rfl rfl (.inl rfl)
theorem not_r (a : Ex) : PRet VS 7 [.i .u8 17, .im 9 [a.row]] (not1 a).d := by
 refine .body (vf := v7) fn7 rfl ?_
 simp (disch := omega) only [go_sem, Nat.reduceAdd, Nat.reduceSub, Nat.reduceLeDiff, v7]
 rfl
theorem not_c {a : Ex} {H : Heap} {K : CR -> Prop} : CallQ VS 7 [.i .u8 17, .sv 9 [a.row]] H K ↔ K (.ret (not1 a).d H) := by
 have f1 := fun m H => flat_freeze a.v.f.hx.flat m H
 have f2 := fun m H => flat_freeze a.v.f.hy.flat m H
 have f5 := fun m H => flat_freeze a.hsl.flat m H
 rw [CallQ_p (vf := v7) (H1 := H) fn7 rfl (not_r a) (by simp only [go_sem, Nat.reduceAdd, Ex.row_eq, f1, f2, f5])]
 exact Iff.rfl
theorem opr_c {o : Nat} {a x : Ex} {nm : List UInt8} {H : Heap} {K : CR -> Prop} : CallQ VS 7 [.i .u8 o, .sv 9 [a.row, [.i .u8 5, .s nm, .i .u8 0, .b false, .nil, .b false, .nil, .i .i64 0, .sv 9 [x.row]]]] H K ↔ K (.ret (opE o a (refE nm x)).d H) := by
 have f1 := fun m H => flat_freeze a.v.f.hx.flat m H
 have f2 := fun m H => flat_freeze a.v.f.hy.flat m H
 have f3 := fun m H => flat_freeze x.v.f.hx.flat m H
 have f4 := fun m H => flat_freeze x.v.f.hy.flat m H
 have f5 := fun m H => flat_freeze a.hsl.flat m H
 have f6 := fun m H => flat_freeze x.hsl.flat m H
 have hr : (refE nm x).row = [.i .u8 5, .s nm, .i .u8 0, .b false, .nil, .b false, .nil, .i .i64 0, .im 9 [x.row]] := by
  rw [Ex.row_eq]; rfl
 have := op_q o a (refE nm x)
 rw [hr] at this
 rw [CallQ_p (vf := v7) (H1 := H) fn7 rfl this (by simp only [go_sem, Nat.reduceAdd, Ex.row_eq, f1, f2, f3, f4, f5, f6])]
 exact Iff.rfl
theorem Ex.fl (e : Ex) : ∀ d ∈ e.row, d.flat = true := by
 intro d hd
 rw [Ex.row_eq] at hd
 simp only [List.mem_cons, List.not_mem_nil, or_false] at hd
 rcases hd with rfl | rfl | rfl | rfl | rfl | rfl | rfl | rfl | rfl
 ·rfl
 ·rfl
 ·rfl
 ·rfl
 ·exact e.v.f.hx.flat
 ·rfl
 ·exact e.v.f.hy.flat
 ·rfl
 ·exact e.hsl.flat
theorem clR_fl {nm lb : List UInt8} {w t : Ex} : ∀ d ∈ clR nm lb w t, d.flat = true := by
 intro d hd
 simp only [clR, List.mem_append, List.mem_cons, List.not_mem_nil, or_false] at hd
 rcases hd with (rfl | rfl | rfl | rfl | rfl | rfl) | hd | hd
 ·rfl
 ·rfl
 ·rfl
 ·rfl
 ·rfl
 ·rfl
 ·exact w.fl d hd
 ·exact t.fl d hd
theorem plan_c {C : Vls} {nm : List UInt8} {d : Int} {r : D} (h : PRet VS 11 [C.plan, .nil, .s nm, .i .i64 d, .i .i64 0] r) {H : Heap} {K : CR -> Prop} :
  CallQ VS 11 [.ag [.s [], .sv 3 [[.s chN, .i .u8 2, .b false], [.s chM, .i .u8 2, .b false]], .nil, .sv 24 C.rows], .nil, .s nm, .i .i64 d, .i .i64 0] H K ↔ K (.ret r H) := by
 have f2 : freezeLL 8 H C.rows = some (C.rows, H) := flat_freezeLL 5 H (by
  intro r hr d hd
  simp only [Vls.rows, List.mem_cons, List.not_mem_nil, or_false] at hr
  rcases hr with rfl | rfl | rfl <;> exact clR_fl d hd)
 have hfr : freezeL deep H [.ag [.s [], .sv 3 [[.s chN, .i .u8 2, .b false], [.s chM, .i .u8 2, .b false]], .nil, .sv 24 C.rows], .nil, .s nm, .i .i64 d, .i .i64 0] = some ([C.plan, .nil, .s nm, .i .i64 d, .i .i64 0], H) := by
  simp only [go_sem, Nat.reduceAdd, f2]
  rfl
 rw [CallQ_p (vf := v11) (H1 := H) fn11 rfl h hfr]
 exact Iff.rfl
open Go.Dm
theorem plain_v {k : Nat} {n : Int} (hk : k = 4 \/ k = 5 \/ k = 6) (h4 : k = 4 -> 0 <= n /\ n < 65536) (h5 : k ≠ 4 -> -1048576 <= n /\ n <= 1048576) : ∃ a : Vl, a.d = .ag [.i .u8 k, .b false, .nil, .b false, .nil, .i .i64 n] /\ CV a ⟨k, 0, 0, n⟩ := by
 obtain ⟨h1, h2⟩ := NV.plain_ok hk h4 h5
 obtain ⟨a, a1, a2, a3⟩ := h1.vlv h2
 exact ⟨a, a1, a2, a3⟩
set_option maxRecDepth 20000 in
set_option maxHeartbeats 4000000 in
theorem law3 {A B : Nat} (hA : A < 65536) (hB : B < 65536) : PRet VS 3 [.i .u16 A, .i .u16 B] (.b true) := by
 obtain ⟨k, hk⟩ : ∃ k, k = B % 5001 := ⟨_, rfl⟩
 obtain ⟨F, hF⟩ : ∃ F, F = min A (65535 - k) := ⟨_, rfl⟩
 have hk1 : k <= 5000 := by omega
 have hk2 : F + k < 65536 := by omega
 obtain ⟨T, hT⟩ : ∃ T : Int, T = (F : Int) + k := ⟨_, rfl⟩
 obtain ⟨one, a1, a2⟩ := num_q (k := 2) (.inl rfl) (n := 1) (by omega)
 obtain ⟨zero, z1, z2⟩ := num_q (k := 2) (.inl rfl) (n := 0) (by omega)
 obtain ⟨cnt, n1, n2⟩ := num_q (k := 2) (.inl rfl) (n := (k : Int)) (by omega)
 obtain ⟨last, l1, l2⟩ := plain_v (k := 4) (n := T) (.inl rfl) (fun _ => by omega) (fun h => (h rfl).elim)
 obtain ⟨stp, s1, s2⟩ := plain_v (k := 5) (n := 1) (.inr (.inl rfl)) (fun h => by cases h) (fun _ => by omega)
 obtain ⟨yes, y1, y2⟩ : ∃ a : Vl, a.d = truthD true /\ CV a (truthN true) := by
  obtain ⟨h1, h2⟩ := truth_vd true
  obtain ⟨a, a1, a2, a3⟩ := h1.vlv h2
  exact ⟨a, a1, a2, a3⟩
 obtain ⟨C, hCe⟩ : ∃ C : Vls, C = ⟨one, zero, last, stp, yes⟩ := ⟨_, rfl⟩
 have hC : C.ok T := by rw [hCe]; exact ⟨a2, z2, l2, s2, y2⟩
 have wA : IntKind.i64.wrap (A : Int) = (A : Int) := wr (by omega) (by omega)
 have wB : IntKind.i64.wrap (B : Int) = (B : Int) := wr (by omega) (by omega)
 have tB : (B : Int).tmod 5001 = (k : Int) := by rw [hk, Int.tmod_eq_emod_of_nonneg (by omega)]; omega
 have wk : IntKind.i64.wrap (65535 - (k : Int)) = 65535 - (k : Int) := wr (by omega) (by omega)
 have mF : min (A : Int) (65535 - (k : Int)) = (F : Int) := by omega
 have wT : IntKind.i64.wrap ((F : Int) + (k : Int)) = T := by rw [hT]; exact wr (by omega) (by omega)
 have w1 : IntKind.i64.wrap ((k : Int) + 1) = (k : Int) + 1 := wr (by omega) (by omega)
 have e1 := fun {H K} => a1.c (H := H) (K := K) fn6 rfl rfl (.inl rfl)
 have e0 := fun {H K} => z1.c (H := H) (K := K) fn6 rfl rfl (.inl rfl)
 have en := fun {H K} => n1.c (H := H) (K := K) fn6 rfl rfl (.inl rfl)
 have c1 := fun {H K} => con_c (a := one) (H := H) (K := K)
 have c0 := fun {H K} => con_c (a := zero) (H := H) (K := K)
 have cl := fun {H K} => con_c (a := last) (H := H) (K := K)
 have cs := fun {H K} => con_c (a := stp) (H := H) (K := K)
 rw [l1] at cl
 rw [s1] at cs
 have o1 := fun {H K} => op_c (o := 7) (a := todayE) (b := conE stp) (H := H) (K := K)
 have o2 := fun {H K} => op_c (o := 13) (a := todayE) (b := conE last) (H := H) (K := K)
 have o3 := fun {H K} => not_c (a := C.less) (H := H) (K := K)
 have o4 := fun {H K} => opr_c (o := 7) (a := conE one) (x := C.next) (nm := chN) (H := H) (K := K)
 have o5 := fun {H K} => op_c (o := 7) (a := conE one) (b := refE chM todayE) (H := H) (K := K)
 have k1 := fun {H K} => clause_c (nm := chN) (lb := [101, 110, 100]) (w := not1 C.less) (t := conE zero) (H := H) (K := K)
 have k2 := fun {H K} => clause_c (nm := chN) (lb := [111, 110]) (w := C.less) (t := C.more) (H := H) (K := K)
 have k3 := fun {H K} => clause_c (nm := chM) (lb := [111, 110]) (w := conE yes) (t := C.again) (H := H) (K := K)
 have ky := fun {H K} => yes_c y1 (H := H) (K := K)
 have kn := fun {H K} => named_c (nm := chM) (H := H) (K := K)
 have aw := fun {H K} => awake_c (H := H) (K := K)
 have em := fun {H K} => plan_c (eval_m hC (d := (F : Int)) ⟨by omega, by omega⟩) (H := H) (K := K)
 have t186 : ¬ (186 : Int) = 5 := by omega
 simp only [hCe, chN, chM, clR, Vls.less, Vls.next, Vls.more, Vls.again, Ex.d, Ex.row_eq, Ex.sl, todayE, not1, refE, conE, opE, Ex.op, Ex.name, Ex.v, Ex.z, Ex.args, Vl.d, Vl.cells, slD, Zs.d, List.map_cons, List.map_nil, List.cons_append, List.nil_append, dV_k, dV_s, dV_x, dV_t, dV_y, dV_i, Int.cast_ofNat_Int] at e1 e0 en c1 c0 cl cs o1 o2 o3 o4 o5 k1 k2 k3 ky kn
 by_cases hc : k + 1 <= 4096
 ·obtain ⟨a, h1, h2⟩ := eval_ok hC (d := (F : Int)) (by omega) hT.symm (by omega) hc
  have ev := fun {H K} => plan_c h1 (H := H) (K := K)
  have es := fun {H K} => (same13 h2.d.1 n2.d.1 h2.d.2 n2.d.2).c (H := H) (K := K) fn13 rfl (by simp [a.pl, cnt.pl]) (.inl rfl)
  simp only [hCe, Vls.rows, zeroV, zrow, chN, chM, clR, Vls.less, Vls.next, Vls.more, Vls.again, Ex.row_eq, Ex.sl, todayE, not1, refE, conE, opE, Ex.op, Ex.name, Ex.v, Ex.z, Ex.args, Vl.d, Vl.cells, slD, Zs.d, List.map_cons, List.map_nil, List.cons_append, List.nil_append, dV_k, dV_s, dV_x, dV_t, dV_y, dV_i, Int.cast_ofNat_Int, decide_true] at ev em es
  have hd : ¬ 4096 < (k : Int) + 1 := by omega
  refine .body (vf := v3) fn3 rfl ?_
  simp (disch := omega) only [go_sem, Nat.reduceAdd, Nat.reduceSub, Nat.reduceLeDiff, Nat.reduceLT, Int.reduceEq, v3, wA, wB, tB, wk, mF, wT, w1, e1, e0, en, c1, c0, cl, cs, o1, o2, o3, o4, o5, k1, k2, k3, ky, kn, ev, em, es, hd, aw]
 ·have h1 := eval_many hC (d := (F : Int)) (by omega) hT.symm (by omega) (by omega) hc
  have ev := fun {H K} => plan_c h1 (H := H) (K := K)
  simp only [hCe, Vls.rows, zeroV, zrow, chN, chM, clR, Vls.less, Vls.next, Vls.more, Vls.again, Ex.row_eq, Ex.sl, todayE, not1, refE, conE, opE, Ex.op, Ex.name, Ex.v, Ex.z, Ex.args, slD, Zs.d, List.map_cons, List.map_nil, List.cons_append, List.nil_append, dV_k, dV_s, dV_x, dV_t, dV_y, dV_i, Int.cast_ofNat_Int] at ev em
  have hd : 4096 < (k : Int) + 1 := by omega
  refine .body (vf := v3) fn3 rfl ?_
  simp (disch := omega) only [go_sem, Nat.reduceAdd, Nat.reduceSub, Nat.reduceLeDiff, Nat.reduceLT, Int.reduceEq, v3, wA, wB, tB, wk, mF, wT, w1, e1, e0, c1, c0, cl, cs, o1, o2, o3, o4, o5, k1, k2, k3, ky, kn, ev, em, hd, aw]
end Go.Proofs.YtdpnanafhabkiaaGreatDoor.Dv
