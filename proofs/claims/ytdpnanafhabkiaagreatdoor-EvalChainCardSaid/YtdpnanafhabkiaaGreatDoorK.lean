/-
  Arguments, their kinds.
-/
import Derived.Test.YtdpnanafhabkiaaGreatDoorJ
import Derived.Test.YtdpnanafhabkiaaGreatDoorDh
namespace Go.Proofs.YtdpnanafhabkiaaGreatDoor.Dv
open Go.Dm
def argN (op : Nat) : Int × Int :=
 if op = 1 \/ op = 2 then (0, 0)
 else if op = 5 then (1, 1)
 else if op = 6 then (1, 2)
 else if op = 15 \/ op = 16 then (2, 2)
 else if op = 18 then (3, 3)
 else if op = 3 \/ op = 4 \/ op = 17 \/ op = 24 \/ op = 25 \/ op = 26 then (1, 1)
 else if op = 22 then (3, 3)
 else if 7 <= op /\ op <= 23 then (2, 2)
 else (1, 0)
def argD (op : Nat) : D := .tu [.i .i64 (argN op).1, .i .i64 (argN op).2]
set_option maxRecDepth 100000 in
theorem args_all : (List.range 256).map (fun op : Nat => pcallK VS 20 52 [.i .u8 (op : Int)]) = (List.range 256).map (fun op : Nat => PR.ret (argD op)) := by kernel_rfl
theorem args_q {op : Nat} (h : op < 256) : PRet VS 52 [.i .u8 op] (argD op) := by
 refine ⟨20, pcall_k ?_⟩
 have := congrArg (fun l : List PR => l[op]?) args_all
 simpa [h] using this
theorem args_c {op : Nat} (h : op < 256) {H : Heap} {K : CR -> Prop} : CallQ VS 52 [.i .u8 op] H K ↔ K (.ret (argD op) H) := (args_q h).c fn52 rfl rfl (.inl rfl)
def Ex.formed (e : Ex) : Bool := (if e.op = 1 then e.v.valid else true) && decide ((argN e.op).1 <= e.args.length /\ e.args.length <= (argN e.op).2)
theorem formed_q (e : Ex) (h : e.op < 256) : PRet VS 37 [e.d] (.b e.formed) := by
 have e1 := fun {H K} => (tvalid_q e.v).c (H := H) (K := K) fn51 rfl (by simp [e.v.pl]) (.inl rfl)
 have e2 := fun {H K} => args_c h (H := H) (K := K)
 refine .body (vf := v37) fn37 rfl ?_
 unfold Ex.formed
 simp only [Ex.d, Ex.row_eq, Vl.d, Vl.cells, argD] at e1 e2 ⊢
 by_cases c1 : e.op = 1
 ·have d1 : (e.op : Int) = 1 := by omega
  have e2 := fun {H K} => args_c (op := 1) (by omega) (H := H) (K := K)
  simp only [argD, Int.natCast_one] at e2
  cases hv : e.v.valid with
  | false =>
   rw [hv] at e1
   simp (disch := omega) only [go_sem, Nat.reduceAdd, Nat.reduceSub, Nat.reduceLeDiff, v37, e1, c1, Bool.false_and]
  | true =>
   rw [hv] at e1
   by_cases c2 : (argN 1).1 <= e.args.length
   ·simp (disch := omega) only [go_sem, Nat.reduceAdd, Nat.reduceSub, Nat.reduceLeDiff, v37, e1, e2, c1, c2, e.hsl.n, Bool.true_and]
   ·simp (disch := omega) only [go_sem, Nat.reduceAdd, Nat.reduceSub, Nat.reduceLeDiff, v37, e1, e2, c1, c2, e.hsl.n, Bool.true_and, false_and]
 ·have d1 : ¬ (e.op : Int) = 1 := by omega
  by_cases c2 : (argN e.op).1 <= e.args.length
  ·simp (disch := omega) only [go_sem, Nat.reduceAdd, Nat.reduceSub, Nat.reduceLeDiff, v37, e2, d1, c1, c2, e.hsl.n, Bool.true_and]
  ·simp (disch := omega) only [go_sem, Nat.reduceAdd, Nat.reduceSub, Nat.reduceLeDiff, v37, e2, d1, c1, c2, e.hsl.n, Bool.true_and, false_and]
def spc : List UInt8 := [32]
inductive Splits : List UInt8 -> List (List UInt8) -> Prop where
 | nil : Splits [] []
 | cons {r p q : List UInt8} {ps : List (List UInt8)} {b : Bool} : r ≠ [] -> r.length < 1000 -> Lib.cut r spc = (p, q, b) -> Splits q ps -> Splits r (p :: ps)
def kindsN : Nat -> List (List UInt8)
 | 3 | 4 | 26 => [[52]]
 | 6 => [[50], [50, 50]]
 | 7 => [[50, 50], [51, 51], [53, 53], [54, 54], [52, 53], [52, 54]]
 | 8 => [[50, 50], [51, 51], [53, 53], [54, 54], [52, 52], [52, 53], [52, 54]]
 | 9 => [[50, 50], [51, 50], [50, 51]]
 | 10 => [[50, 50], [51, 51], [51, 50]]
 | 11 | 12 | 13 => [[50, 50], [51, 51], [52, 52], [53, 53], [54, 54]]
 | 14 => [[49, 49], [50, 50], [51, 51], [52, 52], [53, 53], [54, 54]]
 | 17 => [[49]]
 | 19 => [[50, 50], [51, 51]]
 | 20 | 21 | 23 => [[52, 52]]
 | 22 => [[52, 52, 54]]
 | 24 => [[50]]
 | 25 => [[50], [51], [53], [54]]
 | _ => []
def splitF : Nat -> List UInt8 -> Option (List (List UInt8))
 | 0, _ => none
 | n + 1, r => if r = [] then some [] else if r.length < 1000 then match splitF n (Lib.cut r spc).2.1 with
  | some ps => some ((Lib.cut r spc).1 :: ps)
  | none => none
  else none
theorem splitF_ok : ∀ (n : Nat) (r : List UInt8) (ps : List (List UInt8)), splitF n r = some ps -> Splits r ps
 | 0, _, _, h => by cases h
 | n + 1, r, ps, h => by
  unfold splitF at h
  split at h
  ·rename_i e; cases h; subst e; exact .nil
  split at h
  ·rename_i e l
   split at h
   ·rename_i qs hq
    cases h
    exact .cons e l rfl (splitF_ok n _ _ hq)
   ·cases h
  ·cases h
theorem splits_k : (List.range 27).map (fun op => splitF 20 kindsT[op]!) = (List.range 27).map (fun op => some (kindsN op)) := by kernel_rfl
theorem splits_all {op : Nat} (h : op < 27) : Splits kindsT[op]! (kindsN op) := by
 refine splitF_ok 20 _ _ ?_
 have := congrArg (fun l => l[op]?) splits_k
 simpa [h] using this
def dgt (c : UInt8) : Int := IntKind.u8.wrap ((c.toNat : Int) - 48)
def mtch (ks : List Nat) (s : List UInt8) : Bool := decide (s.length = ks.length /\ ∀ j, j < ks.length -> dgt s[j]! = (ks[j]! : Int))
def fitsN (op : Nat) (ks : List Nat) : Bool := decide (op < 27) && (decide (ks ≠ []) && (kindsN op).any (mtch ks))
theorem cut_c {s t : List UInt8} (h : s.length < cutMax) {H : Heap} {K : CR -> Prop} : CallQ VS 79 [.s s, .s t] H K ↔ K (.ret (.tu [.s (Lib.cut s t).1, .s (Lib.cut s t).2.1, .b (Lib.cut s t).2.2]) H) :=
 CallQ.beside (by kernel_rfl) (by decide) (by show cutD s t H = _; unfold cutD; rw [if_pos h])
theorem kinds_len : kindsT.length = 27 := by kernel_rfl
theorem gia_k {op : Nat} (h : op < 27) : giaD (VS.glob 0) (.i .u8 op) 27 1 = some (.ip [.s kindsT[op]!]) := by
 show giaD (some (1, kindsT.map fun s => [D.s s])) _ _ _ = _
 have e : (kindsT.map fun s => [D.s s])[op]? = some [.s kindsT[op]!] := by
  rw [List.getElem?_map, List.getElem?_eq_getElem (by rw [kinds_len]; exact h), getElem!_pos kindsT op (by rw [kinds_len]; exact h)]; rfl
 have h1 : ixOf (.i .u8 (op : Int)) 27 = some op := by simp only [ixOf]; rw [if_pos (by omega)]; simp
 simp only [giaD, h1, e, if_true]
structure Inn (ks : List Nat) (s : List UInt8) (i : Nat) (b : Bool) : Prop where
 e : b = decide (s.length = ks.length /\ ∀ j, j < i -> dgt s[j]! = (ks[j]! : Int))
section
variable {x : D} {α : Type} [Inhabited α] {enc : α -> List D} {kd : α -> Nat} {l : List α}
theorem fits_in (henc : ∀ a, ∃ r, enc a = .i .u8 (kd a) :: r /\ r.length = 5) (h : Sl 6 (l.map enc) x) (hl : l.length < 100) {p : List UInt8} {a0 a2 a3 a4 a5 a6 a7 : D} {Q : Dm.Ex -> St -> Prop}
  (hq : ∀ a5 a10, Q (.ex 2) ⟨[a0, x, a2, a3, a4, a5, a6, a7, .s p, .b (mtch (l.map kd) p), a10], []⟩) :
  Run VS (.loop v53l0) ⟨[a0, x, a2, a3, a4, a5, a6, a7, .s p, .b (decide ((p.length : Int) = (l.length : Int))), .i .i64 0], []⟩ Q := by
 refine Run.up (fun i s => ∃ (b : Bool) (a5 : D), Inn (l.map kd) p i b /\ s = ⟨[a0, x, a2, a3, a4, a5, a6, a7, .s p, .b b, .i .i64 (i : Int)], []⟩) l.length ⟨_, _, ⟨?_⟩, rfl⟩ ?_
 ·simp only [Nat.not_lt_zero, false_implies, implies_true, and_true, List.length_map, decide_eq_decide]
  omega
 rintro i s hi ⟨b, a5', ⟨hb⟩, rfl⟩
 have done : i = l.length \/ b = false -> mtch (l.map kd) p = b := fun hc => by
  rcases hc with rfl | rfl
  ·rw [hb]; simp only [mtch, List.length_map]
  ·have hb' := of_decide_eq_false hb.symm
   unfold mtch
   rw [decide_eq_false_iff_not]
   intro ⟨h1, h2⟩
   rw [List.length_map] at h2
   exact hb' ⟨h1, fun j hj => h2 j (by omega)⟩
 cases b with
 | false =>
  have e := done (.inr rfl)
  simp (disch := omega) only [go_sem, v53l0]
  rw [<- e]; exact hq _ _
 | true =>
  have hb' := of_decide_eq_true hb.symm
  rw [List.length_map] at hb'
  by_cases hlt : i < l.length
  ·have c1 : (i : Int) < (l.length : Int) := by omega
   have c0 : (0 : Int) <= (i : Int) := by omega
   have c2 : (i : Int) < (p.length : Int) := by omega
   obtain ⟨r, hr, hr5⟩ := henc l[i]!
   obtain ⟨r1, r2, r3, r4, r5, rfl⟩ : ∃ r1 r2 r3 r4 r5, r = [r1, r2, r3, r4, r5] := by
    match r, hr5 with
    | [r1, r2, r3, r4, r5], _ => exact ⟨_, _, _, _, _, rfl⟩
   have ux : D.under (0, []) x = true := h.under _
   have hd : IntKind.u8.wrap ((p[i]!.toNat : Int) - 48) = dgt p[i]! := rfl
   have w1 : IntKind.i64.wrap ((i : Int) + 1) = ((i + 1 : Nat) : Int) := by rw [wr (by omega) (by omega)]; omega
   simp (disch := omega) only [go_sem, Nat.reduceAdd, Nat.reduceLeDiff, v53l0, h.n, h.q, c0, c1, c2, ux, hr, hd, w1, Int.toNat_natCast]
   refine ⟨hlt, ⟨?_⟩⟩
   have e1 : (l.map kd)[i]! = kd l[i]! := by
    rw [getElem!_pos _ i (by simpa using hlt), getElem!_pos l i hlt]; simp
   rw [decide_eq_decide, List.length_map]
   constructor
   ·intro he
    refine ⟨hb'.1, fun j hj => ?_⟩
    by_cases hji : j = i
    ·subst hji; rw [e1]; exact he
    ·exact hb'.2 j (by omega)
   ·rintro ⟨_, h2⟩
    have := h2 i (by omega)
    rwa [e1] at this
  ·have c1 : ¬ (i : Int) < (l.length : Int) := by omega
   have e := done (.inl (by omega))
   simp (disch := omega) only [go_sem, v53l0, h.n, c1]
   rw [<- e]; exact hq _ _
theorem fits_q (henc : ∀ a, ∃ r, enc a = .i .u8 (kd a) :: r /\ r.length = 5) (h : Sl 6 (l.map enc) x) {op : Nat} (ho : op < 256) (hl : l.length < 100) : PRet VS 53 [.i .u8 op, x] (.b (fitsN op (l.map kd))) := by
 refine .body (vf := v53) fn53 rfl ?_
 unfold fitsN
 have w1 : IntKind.i64.wrap (op : Int) = (op : Int) := wr (by omega) (by omega)
 by_cases c1 : op < 27
 ·have d1 : ¬ 27 <= (op : Int) := by omega
  have hg := gia_k c1
  by_cases c2 : l = []
  ·subst c2
   simp (disch := omega) only [go_sem, Nat.reduceSub, v53, w1, d1, h.n, c1, Bool.true_and]
   rfl
  ·have c3 : ¬ (l.length : Int) = 0 := by have := List.length_pos_iff.2 c2; omega
   have c4 : l.map kd ≠ [] := by simpa using c2
   simp (disch := omega) only [go_sem, Nat.reduceSub, v53, w1, d1, h.n, c1, c3, hg, Bool.true_and]
   have hs := splits_all c1
   obtain ⟨r0, hr0⟩ : ∃ r0, r0 = kindsT[op]! := ⟨_, rfl⟩
   obtain ⟨ps0, hp0⟩ : ∃ ps0, ps0 = kindsN op := ⟨_, rfl⟩
   rw [<- hr0, <- hp0] at hs
   rw [<- hr0, <- hp0]
   refine Run.loop (fun k s => ∃ (ps : List (List UInt8)) (rest : List UInt8) (a3 a4 a5 a6 a8 a9 a10 : D), ps.length = k /\ Splits rest ps /\ ps0.any (mtch (l.map kd)) = ps.any (mtch (l.map kd)) /\ s = ⟨[.i .u8 (op : Int), x, .b false, a3, a4, a5, a6, .s rest, a8, a9, a10], []⟩) ps0.length ⟨ps0, r0, _, _, _, _, _, _, _, rfl, hs, rfl, rfl⟩ ?_
   rintro k s ⟨ps, rest, a3, a4, a5, a6, a8, a9, a10, hk, hsp, hany, rfl⟩
   cases hsp with
   | nil =>
    simp (disch := omega) only [go_sem, v53l1, hany, List.any_nil, Bool.and_false]
   | cons hne hlt hcut hsp =>
    rename_i p q ps b
    have e1 := fun {H K} => cut_c (s := rest) (t := spc) (Nat.lt_of_lt_of_le hlt (by decide)) (H := H) (K := K)
    rw [hcut] at e1
    simp only [spc] at e1
    simp (disch := omega) only [go_sem, v53l1, hne, e1, h.n]
    refine fits_in henc h hl (fun a5' a10' => ?_)
    cases hm : mtch (l.map kd) p with
    | true =>
     simp (disch := omega) only [go_sem, Nat.reduceEqDiff, reduceCtorEq, hany, List.any_cons, hm, Bool.true_or]
     simp [c4]
    | false =>
     simp (disch := omega) only [go_sem, Nat.reduceEqDiff, reduceCtorEq]
     refine ⟨ps.length, ?_, ps, rfl, q, hsp, ?_⟩
     ·rw [<- hk]; exact Nat.lt_succ_self _
     ·simp only [hany, List.any_cons, hm, Bool.false_or, and_self]
 ·have d1 : 27 <= (op : Int) := by omega
  simp (disch := omega) only [go_sem, Nat.reduceSub, v53, w1, d1, c1, Bool.false_and]
end
open Go.Dm
def cmpN (x y : NV) : Int := if x.i < y.i then -1 else if y.i < x.i then 1 else 0
def fracN (k : Nat) (a : Int) (b : Nat) : NR :=
 if (a / (Nat.gcd a.natAbs b : Nat)).natAbs < cap 256 /\ b / Nat.gcd a.natAbs b < cap 256 then .ok ⟨k, a / (Nat.gcd a.natAbs b : Nat), b / Nat.gcd a.natAbs b, 0⟩ else .er 3
theorem VD.cs {v : NV} {d : D} (h : VD v d) : ∃ s x t y, d = .ag [.i .u8 v.k, s, x, t, y, .i .i64 v.i] /\ Fr v.n v.m (.ag [s, x, t, y]) := by
 obtain ⟨x, y, rfl, a, b⟩ := h.h
 exact ⟨_, _, _, _, rfl, ⟨x, y, rfl, a, b⟩⟩
theorem VD.of {v : NV} {s x t y : D} (h : Fr v.n v.m (.ag [s, x, t, y])) : VD v (.ag [.i .u8 v.k, s, x, t, y, .i .i64 v.i]) := by
 obtain ⟨x', y', e, a, b⟩ := h.h
 simp only [D.ag.injEq, List.cons.injEq, and_true] at e
 obtain ⟨rfl, rfl, rfl, rfl⟩ := e
 exact ⟨_, _, rfl, a, b⟩
theorem low_gcd {a : Int} {b : Nat} (hb : b ≠ 0) (h : (a / (Nat.gcd a.natAbs b : Nat)).natAbs < cap 256 /\ b / Nat.gcd a.natAbs b < cap 256) : Low (a / (Nat.gcd a.natAbs b : Nat)) (b / Nat.gcd a.natAbs b) := by
 obtain ⟨_, _, r3, r4, _, _⟩ := frac_red (n := a) (m := b) (g := Nat.gcd a.natAbs b) rfl hb
 exact ⟨r4, r3, h.1, h.2⟩
theorem NV.frac_ok {k : Nat} {n : Int} {m : Nat} (hk : k = 2 \/ k = 3) (h : Low n m) : (⟨k, n, m, 0⟩ : NV).ok :=
 ⟨by simp only; omega, fun _ => ⟨h, rfl⟩, fun hn => (hn hk).elim, fun hn => (by simp only at hn; omega), fun hn => (by simp only at hn; omega), fun hn => (by simp only at hn; omega)⟩
theorem frac_ans {k : Nat} {a : Int} {b : Nat} {r : D} (hk : k = 2 \/ k = 3) (hb : b ≠ 0) (h : ResF a b r) : (∃ s x t y n m, fracN k a b = .ok ⟨k, n, m, 0⟩ /\ r = .tu [.ag [s, x, t, y], .i .i64 0] /\ s.flat = true /\ x.flat = true /\ t.flat = true /\ y.flat = true /\ VD ⟨k, n, m, 0⟩ (.ag [.i .u8 k, s, x, t, y, .i .i64 0]) /\ (⟨k, n, m, 0⟩ : NV).ok) \/
  (fracN k a b = .er 3 /\ r = .tu [zeroF, .i .i64 3]) := by
 unfold fracN
 obtain ⟨d, ⟨h1, h2, rfl, h3⟩ | ⟨h1, rfl⟩⟩ := h.h
 ·left
  rw [if_pos ⟨h1, h2⟩]
  obtain ⟨x, y, rfl, wx, wy⟩ := h3.h
  exact ⟨_, _, _, _, _, _, rfl, rfl, rfl, wx.sl.flat, rfl, wy.sl.flat, VD.of (v := ⟨k, _, _, 0⟩) ⟨x, y, rfl, wx, wy⟩, NV.frac_ok hk (low_gcd hb ⟨h1, h2⟩)⟩
 ·right
  rw [if_neg h1]; exact ⟨rfl, rfl⟩
theorem vcmp_q {x y : NV} {d e : D} (h1 : VD x d) (h2 : VD y e) (hk : x.k = 4 /\ y.k = 4) : PRet VS 102 [d, e] (.i .i64 (cmpN x y)) := by
 obtain ⟨s1, x1, t1, y1, rfl, f1⟩ := h1.cs
 obtain ⟨s2, x2, t2, y2, rfl, f2⟩ := h2.cs
 refine .body (vf := v102) fn102 rfl ?_
 unfold cmpN
 have d1 : (x.k : Int) = 4 := by omega
 by_cases c1 : x.i < y.i
 ·simp (disch := omega) only [go_sem, Nat.reduceAdd, Nat.reduceSub, Nat.reduceLeDiff, Int.reduceEq, Int.reduceNeg, v102, d1, c1]
 ·by_cases c2 : y.i < x.i
  ·simp (disch := omega) only [go_sem, Nat.reduceAdd, Nat.reduceSub, Nat.reduceLeDiff, Int.reduceEq, Int.reduceNeg, v102, d1, c1, c2]
  ·simp (disch := omega) only [go_sem, Nat.reduceAdd, Nat.reduceSub, Nat.reduceLeDiff, Int.reduceEq, Int.reduceNeg, v102, d1, c1, c2]
def sumN (x y : NV) : NR := if x.k = 4 then dateN (x.i + y.i) else fracN x.k (x.n * y.m + y.n * x.m) (x.m * y.m)
def sumK (x y : NV) : Prop := (x.k = 2 /\ y.k = 2) \/ (x.k = 4 /\ y.k = 5)
theorem vsum_q {x y : NV} {d e : D} (h1 : VD x d) (h2 : VD y e) (o1 : x.ok) (o2 : y.ok) (hs : sumK x y) : PurQ VS 99 [.i .u8 7, d, e] (AnsP (sumN x y)) := by
 obtain ⟨s1, x1, t1, y1, rfl, f1⟩ := h1.cs
 obtain ⟨s2, x2, t2, y2, rfl, f2⟩ := h2.cs
 have r1 := o1.rng
 have r2 := o2.rng
 have w2 : IntKind.i64.wrap (x.i + y.i) = x.i + y.i := wr (by omega) (by omega)
 have m0 := fun {H K} => must0_c (H := H) (K := K)
 have m3 := fun {H K} => must_c (e := 3) (by decide) (H := H) (K := K)
 unfold sumN
 refine PurQ.body (vf := v99) fn99 rfl ?_
 rcases hs with ⟨c, k⟩ | ⟨c, k⟩
 ·rw [if_neg (by omega), c]
  have l1 := (o1.f (.inl c)).1
  have l2 := (o2.f (.inl k)).1
  have hb : x.m * y.m ≠ 0 := Nat.mul_ne_zero l1.z l2.z
  obtain ⟨ra, ra1, ra2⟩ := add_f f1 f2 l1 l2
  have ec := fun {H K} => ra1.c (H := H) (K := K) fn125 rfl (by simp [f1.pl, f2.pl]) (.inl rfl)
  simp (disch := omega) only [go_sem, Nat.reduceAdd, Nat.reduceSub, Nat.reduceLeDiff, Int.reduceEq, v99]
  rw [CalQ_f (by decide)]
  simp only [List.nil_append, List.cons_append, ec]
  rcases frac_ans (.inl rfl) hb ra2 with ⟨s, x', t, y', n', m', hf, rfl, p1, p2, p3, p4, hv, ho⟩ | ⟨hf, rfl⟩
  ·simp (disch := omega) only [go_sem, Nat.reduceAdd, Nat.reduceLeDiff, m0, hf, flat_freeze p1, flat_freeze p2, flat_freeze p3, flat_freeze p4]
   exact ⟨hv, ho⟩
  ·simp (disch := omega) only [go_sem, Nat.reduceAdd, m3, hf, zeroF]
 ·rw [if_pos c, c, k]
  simp (disch := omega) only [go_sem, Nat.reduceAdd, Nat.reduceSub, Nat.reduceLeDiff, Int.reduceEq, v99, w2]
  refine CallQ.ans date_q fn64 rfl rfl rfl (fun v s x t y hv a b c e f g => ?_) (fun e he => ?_)
  ·simp (disch := omega) only [go_sem, Nat.reduceAdd, flat_freeze a, flat_freeze b, flat_freeze c, flat_freeze e, hv]
   exact ⟨f, g⟩
  ·simp (disch := omega) only [go_sem, he]
end Go.Proofs.YtdpnanafhabkiaaGreatDoor.Dv
