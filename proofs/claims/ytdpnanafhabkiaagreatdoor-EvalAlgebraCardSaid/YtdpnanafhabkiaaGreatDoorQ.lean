/-
  The law of sums and differences over the machine.
-/
import Derived.Test.YtdpnanafhabkiaaGreatDoorO
namespace Go.Proofs.YtdpnanafhabkiaaGreatDoor.Dv
open Go.Dm
theorem plain_cv {k : Nat} {n : Int} (hk : k = 4 \/ k = 5 \/ k = 6) (h4 : k = 4 -> 0 <= n /\ n < 65536) (h5 : k ≠ 4 -> -1048576 <= n /\ n <= 1048576) : ∃ a : Vl, a.d = .ag [.i .u8 k, .b false, .nil, .b false, .nil, .i .i64 n] /\ CV a ⟨k, 0, 0, n⟩ := by
 obtain ⟨h1, h2⟩ := NV.plain_ok hk h4 h5
 obtain ⟨a, a1, a2, a3⟩ := h1.vlv h2
 exact ⟨a, a1, a2, a3⟩
theorem truth_cv (b : Bool) : ∃ a : Vl, a.d = truthD b /\ CV a (truthN b) := by
 obtain ⟨h1, h2⟩ := truth_vd b
 obtain ⟨a, a1, a2, a3⟩ := h1.vlv h2
 exact ⟨a, a1, a2, a3⟩
theorem sized1 {o : Nat} {a b : Vl} : sized (opE o (conE a) (conE b)) = true := rfl
theorem sized2 {o p : Nat} {a b c : Vl} : sized (opE o (opE p (conE a) (conE b)) (conE c)) = true := rfl
theorem sized3 {o p q : Nat} {a b c e : Vl} : sized (opE o (opE p (conE a) (conE b)) (opE q (conE c) (conE e))) = true := rfl
set_option maxRecDepth 20000 in
set_option maxHeartbeats 4000000 in
theorem law_t {A B E k : Nat} {m : Bool} (hA : A < 65536) (hB : B < 65536) (hE : E < 65536) (hk : k = 2 \/ k = 3) : Run VS (match v4.body with | .seq _ (.seq _ (.seq _ c)) => c | c => c) ⟨[.i .u16 A, .i .u16 B, .i .u16 E, .b m, .b false, .b m, .u, .u, .u, .u, .u, .u, .i .u8 k, .u, .u, .u, .u, .u, .u, .u, .u, .u, .u], []⟩ (ResQ v4.res (PurK v4.own (· = .ret (.b true)))) := by
  obtain ⟨X, x1, x2⟩ := num_q hk (n := A) (by omega)
  obtain ⟨Y, y1, y2⟩ := num_q hk (n := B) (by omega)
  obtain ⟨F, f1, f2⟩ := num_q (k := 2) (.inl rfl) (n := ((B + 1 : Nat) : Int)) (by omega)
  obtain ⟨S, s1, s2⟩ := num_q hk (n := (A : Int) + B) (by omega)
  obtain ⟨N, n1, n2⟩ := plain_cv (k := 4) (n := E) (.inl rfl) (fun _ => by omega) (fun h => (h rfl).elim)
  obtain ⟨G, g1, g2⟩ := plain_cv (k := 5) (n := A) (.inr (.inl rfl)) (fun h => by cases h) (fun _ => by omega)
  obtain ⟨L, l1, l2⟩ := truth_cv (decide (A < B))
  obtain ⟨M, m1, m2⟩ := truth_cv (decide (A = B))
  have ex := fun {H K} => x1.c (H := H) (K := K) fn6 rfl rfl (.inl rfl)
  have ey := fun {H K} => y1.c (H := H) (K := K) fn6 rfl rfl (.inl rfl)
  have ef : ∀ {H K}, CallQ VS 6 [.i .u8 2, .i .i64 ((B : Int) + 1), .i .i64 1] H K ↔ K (.ret F.d H) := fun {H K} => f1.c (H := H) (K := K) fn6 rfl rfl (.inl rfl)
  have es := fun {H K} => s1.c (H := H) (K := K) fn6 rfl rfl (.inl rfl)
  have wA : IntKind.i64.wrap (A : Int) = (A : Int) := wr (by omega) (by omega)
  have wB : IntKind.i64.wrap (B : Int) = (B : Int) := wr (by omega) (by omega)
  have wE : IntKind.i64.wrap (E : Int) = (E : Int) := wr (by omega) (by omega)
  have w1 : IntKind.i64.wrap ((B : Int) + 1) = (B : Int) + 1 := wr (by omega) (by omega)
  have w2 : IntKind.i64.wrap ((A : Int) + B) = (A : Int) + B := wr (by omega) (by omega)
  have w3 : IntKind.i64.wrap ((A : Int) + E) = (A : Int) + E := wr (by omega) (by omega)
  have cX := fun {H K} => con_c (a := X) (H := H) (K := K)
  have cY := fun {H K} => con_c (a := Y) (H := H) (K := K)
  have cF := fun {H K} => con_c (a := F) (H := H) (K := K)
  have cN := fun {H K} => con_c (a := N) (H := H) (K := K)
  have cG := fun {H K} => con_c (a := G) (H := H) (K := K)
  rw [n1] at cN
  rw [g1] at cG
  have o1 := fun {H K} => op_c (o := 7) (a := conE X) (b := conE Y) (H := H) (K := K)
  have o2 := fun {H K} => op_c (o := 8) (a := opE 7 (conE X) (conE Y)) (b := conE Y) (H := H) (K := K)
  have o3 := fun {H K} => op_c (o := 9) (a := conE X) (b := conE F) (H := H) (K := K)
  have o4 := fun {H K} => op_c (o := 10) (a := opE 9 (conE X) (conE F)) (b := conE F) (H := H) (K := K)
  have o5 := fun {H K} => op_c (o := 11) (a := conE X) (b := conE Y) (H := H) (K := K)
  have o6 := fun {H K} => op_c (o := 12) (a := conE X) (b := conE Y) (H := H) (K := K)
  have o7 := fun {H K} => op_c (o := 7) (a := opE 11 (conE X) (conE Y)) (b := opE 12 (conE X) (conE Y)) (H := H) (K := K)
  have o8 := fun {H K} => op_c (o := 7) (a := conE N) (b := conE G) (H := H) (K := K)
  have o11 := fun {H K} => op_c (o := 13) (a := conE X) (b := conE Y) (H := H) (K := K)
  have o12 := fun {H K} => op_c (o := 14) (a := conE X) (b := conE Y) (H := H) (K := K)
  have tX := TS.c x2
  have tY := TS.c y2
  have tF := TS.c f2
  have nk : ∀ {p q : NV}, p.k = k -> ¬ (p.k = 4 /\ q.k = 6) := fun h => by omega
  have t1 := TS.o (o := 7) (by omega) tX tY (nk rfl)
  rw [add_n hk (by omega) (by omega)] at t1
  have t2 := TS.o (o := 8) (by omega) t1 tY (nk rfl)
  rw [sub_n hk (by omega) (by omega)] at t2
  have t3 := TS.o (o := 9) (by omega) tX tF (nk rfl)
  rw [mul_n hk (by omega) (by omega)] at t3
  have t4 := TS.o (o := 10) (by omega) t3 tF (nk rfl)
  rw [div_n hk (by omega) (by omega) (by omega)] at t4
  have t5 := TS.o (o := 11) (by omega) tX tY (nk rfl)
  rw [min_n hk (by omega) (by omega)] at t5
  have t6 := TS.o (o := 12) (by omega) tX tY (nk rfl)
  rw [max_n hk (by omega) (by omega)] at t6
  have t7 := TS.o (o := 7) (by omega) t5 t6 (nk rfl)
  rw [add_n hk (by omega) (by omega), show ((min A B : Nat) : Int) + ((max A B : Nat) : Int) = (A : Int) + B by omega] at t7
  have t8 := TS.o (o := 7) (by omega) (TS.c n2) (TS.c g2) (fun h => by have := h.2; cases this)
  rw [later_n hA] at t8
  have t11 := TS.o (o := 13) (by omega) tX tY (nk rfl)
  rw [less_n hk (by omega) (by omega)] at t11
  have t12 := TS.o (o := 14) (by omega) tX tY (nk rfl)
  rw [same_n hk (by omega) (by omega)] at t12
  have i2 := fun {H K} => is_c t2 sized2 x2 (H := H) (K := K)
  have i4 := fun {H K} => is_c t4 sized2 x2 (H := H) (K := K)
  have i7 := fun {H K} => is_c t7 sized3 s2 (H := H) (K := K)
  have i11 := fun {H K} => is_c t11 sized1 l2 (H := H) (K := K)
  have i12 := fun {H K} => is_c t12 sized1 m2 (H := H) (K := K)
  rw [l1] at i11
  rw [m1] at i12
  have cq := fun {args H K} => CalQ_f (V := VS) (H := H) (args := args) (K := K) (f := 14) (a := []) (b := []) (by decide)
  simp only [List.nil_append, List.append_nil] at cq
  have aw := fun {H K} => awake_c (H := H) (K := K)
  simp only [Ex.d, Ex.row_eq, Ex.sl, conE, opE, Ex.op, Ex.name, Ex.v, Ex.z, Ex.args, Vl.d, Vl.cells, slD, Zs.d, List.map_cons, List.map_nil, dV_k, dV_s, dV_x, dV_t, dV_y, dV_i, decide_true, Int.cast_ofNat_Int] at ex ey ef es cX cY cF cN cG o1 o2 o3 o4 o5 o6 o7 o8 o11 o12 i2 i4 i7 i11 i12
  simp only [v4]
  by_cases hd : (A : Int) + E >= 65536
  · rw [if_pos hd] at t8
    have tt := fun {H K} => (t15_er t8 sized1).c (H := H) (K := K) fn15 rfl (by simp [(opE 7 (conE N) (conE G)).pl, noP, plain_ag, plain_nil, plain_i, flat_s, flat_nil]) (.inl rfl)
    simp only [noP, zeroV, zrow, Ex.d, Ex.row_eq, Ex.sl, conE, opE, Ex.op, Ex.name, Ex.v, Ex.z, Ex.args, slD, Zs.d, List.map_cons, List.map_nil, dV_k, dV_s, dV_x, dV_t, dV_y, dV_i, Int.cast_ofNat_Int] at tt
    have hd' : 65536 <= (A : Int) + E := hd
    by_cases c1 : A < B
    · have c2 : ¬ A = B := by omega
      have d1 : (A : Int) < (B : Int) := by omega
      have d2 : ¬ (A : Int) = (B : Int) := by omega
      simp only [truthD, c1, c2, decide_true, decide_false, if_true, if_false, Bool.false_eq_true] at i11 i12
      simp (disch := omega) only [go_sem, Nat.reduceAdd, Nat.reduceLeDiff, Nat.reduceLT, Int.reduceEq, cq, ex, ey, ef, es, wA, wB, wE, w1, w2, w3, cX, cY, cF, cN, cG, o1, o2, o3, o4, o5, o6, o7, o8, o11, o12, i2, i4, i7, i11, i12, tt, aw, hd', d1, d2]
    · by_cases c2 : A = B
      · have d1 : ¬ (A : Int) < (B : Int) := by omega
        have c3 : (A = B) ↔ True := iff_of_true c2 trivial
        have d2 : ((A : Int) = (B : Int)) ↔ True := iff_of_true (by omega) trivial
        simp only [truthD, c1, c3, decide_true, decide_false, if_true, if_false, Bool.false_eq_true] at i11 i12
        simp (disch := omega) only [go_sem, Nat.reduceAdd, Nat.reduceLeDiff, Nat.reduceLT, Int.reduceEq, cq, ex, ey, ef, es, wA, wB, wE, w1, w2, w3, cX, cY, cF, cN, cG, o1, o2, o3, o4, o5, o6, o7, o8, o11, o12, i2, i4, i7, i11, i12, tt, aw, hd', d1, d2]
      · have d1 : ¬ (A : Int) < (B : Int) := by omega
        have d2 : ¬ (A : Int) = (B : Int) := by omega
        simp only [truthD, c1, c2, decide_false, if_false, Bool.false_eq_true] at i11 i12
        simp (disch := omega) only [go_sem, Nat.reduceAdd, Nat.reduceLeDiff, Nat.reduceLT, Int.reduceEq, cq, ex, ey, ef, es, wA, wB, wE, w1, w2, w3, cX, cY, cF, cN, cG, o1, o2, o3, o4, o5, o6, o7, o8, o11, o12, i2, i4, i7, i11, i12, tt, aw, hd', d1, d2]
  · rw [if_neg hd] at t8
    obtain ⟨Z, z1, z2⟩ := t15_ok t8 sized1
    have tt := fun {H K} => z1.c (H := H) (K := K) fn15 rfl (by simp [(opE 7 (conE N) (conE G)).pl, noP, plain_ag, plain_nil, plain_i, flat_s, flat_nil]) (.inl rfl)
    have hd' : ¬ 65536 <= (A : Int) + E := hd
    have zi : Z.i = (A : Int) + E := congrArg NV.i z2.n
    have cZ := fun {H K} => con_c (a := Z) (H := H) (K := K)
    have o9 := fun {H K} => op_c (o := 8) (a := conE Z) (b := conE N) (H := H) (K := K)
    have o10 := fun {H K} => op_c (o := 8) (a := conE Z) (b := conE G) (H := H) (K := K)
    have t9 := TS.o (o := 8) (by omega) (TS.c z2) (TS.c n2) (fun h => by have := h.2; cases this)
    rw [back_day hA] at t9
    have t10 := TS.o (o := 8) (by omega) (TS.c z2) (TS.c g2) (fun h => by have := h.2; cases this)
    rw [back_by hE] at t10
    have i9 := fun {H K} => is_c t9 sized1 g2 (H := H) (K := K)
    have i10 := fun {H K} => is_c t10 sized1 n2 (H := H) (K := K)
    simp only [noP, zi, Ex.d, Ex.row_eq, Ex.sl, conE, opE, Ex.op, Ex.name, Ex.v, Ex.z, Ex.args, Vl.d, Vl.cells, slD, Zs.d, List.map_cons, List.map_nil, dV_k, dV_s, dV_x, dV_t, dV_y, dV_i, decide_true, Int.cast_ofNat_Int] at tt cZ o9 o10 i9 i10
    by_cases c1 : A < B
    · have c2 : ¬ A = B := by omega
      have d1 : (A : Int) < (B : Int) := by omega
      have d2 : ¬ (A : Int) = (B : Int) := by omega
      simp only [truthD, c1, c2, decide_true, decide_false, if_true, if_false, Bool.false_eq_true] at i11 i12
      simp (disch := omega) only [go_sem, Nat.reduceAdd, Nat.reduceLeDiff, Nat.reduceLT, cq, ex, ey, ef, es, wA, wB, wE, w1, w2, w3, cX, cY, cF, cN, cG, o1, o2, o3, o4, o5, o6, o7, o8, o11, o12, i2, i4, i7, i11, i12, tt, aw, hd', cZ, o9, o10, i9, i10, d1, d2]
    · by_cases c2 : A = B
      · have d1 : ¬ (A : Int) < (B : Int) := by omega
        have c3 : (A = B) ↔ True := iff_of_true c2 trivial
        have d2 : ((A : Int) = (B : Int)) ↔ True := iff_of_true (by omega) trivial
        simp only [truthD, c1, c3, decide_true, decide_false, if_true, if_false, Bool.false_eq_true] at i11 i12
        simp (disch := omega) only [go_sem, Nat.reduceAdd, Nat.reduceLeDiff, Nat.reduceLT, cq, ex, ey, ef, es, wA, wB, wE, w1, w2, w3, cX, cY, cF, cN, cG, o1, o2, o3, o4, o5, o6, o7, o8, o11, o12, i2, i4, i7, i11, i12, tt, aw, hd', cZ, o9, o10, i9, i10, d1, d2]
      · have d1 : ¬ (A : Int) < (B : Int) := by omega
        have d2 : ¬ (A : Int) = (B : Int) := by omega
        simp only [truthD, c1, c2, decide_false, if_false, Bool.false_eq_true] at i11 i12
        simp (disch := omega) only [go_sem, Nat.reduceAdd, Nat.reduceLeDiff, Nat.reduceLT, cq, ex, ey, ef, es, wA, wB, wE, w1, w2, w3, cX, cY, cF, cN, cG, o1, o2, o3, o4, o5, o6, o7, o8, o11, o12, i2, i4, i7, i11, i12, tt, aw, hd', cZ, o9, o10, i9, i10, d1, d2]
theorem law_q {A B E : Nat} {m : Bool} (hA : A < 65536) (hB : B < 65536) (hE : E < 65536) : PRet VS 4 [.i .u16 A, .i .u16 B, .i .u16 E, .b m] (.b true) := by
 refine .body (vf := v4) fn4 rfl ?_
 cases m with
 | true =>
  have := law_t (m := true) hA hB hE (k := 3) (.inr rfl)
  simp only [v4] at this
  simp (disch := omega) only [go_sem, Nat.reduceSub, v4] at this ⊢
  exact this
 | false =>
  have := law_t (m := false) hA hB hE (k := 2) (.inl rfl)
  simp only [v4] at this
  simp (disch := omega) only [go_sem, Nat.reduceSub, v4] at this ⊢
  exact this
end Go.Proofs.YtdpnanafhabkiaaGreatDoor.Dv
