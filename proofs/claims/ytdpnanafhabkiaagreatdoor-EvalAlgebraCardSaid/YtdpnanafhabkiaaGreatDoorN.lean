/-
  Terms of simple expressions.
-/
import Derived.Test.YtdpnanafhabkiaaGreatDoorM
namespace Go.Proofs.YtdpnanafhabkiaaGreatDoor.Dv
open Go.Dm
inductive TS : Ex -> NR -> Prop where
 | con {e : Ex} : e.op = 1 -> e.v.valid = true -> e.args = [] -> TS e (.ok e.v.nv)
 | bin {e a b : Ex} {x y : NV} : 7 <= e.op /\ e.op <= 14 -> e.args = [a, b] -> TS a (.ok x) -> TS b (.ok y) -> ¬ (x.k = 4 /\ y.k = 6) -> TS e (doN e.op x y)
def AnsG (nr : NR) (H : Heap) : CR -> Prop
 | .ret d H' => (∃ t, H' = H ++ t) /\ ∃ a : AV, nr = .ok a.v /\ d = .ag a.c /\ a.ok
 | .pan d H' => (∃ t, H' = H ++ t) /\ ∃ e, nr = .er e /\ d = failD e
 | .bad => False
theorem Vl.av {v : Vl} (h : v.valid = true) : ∃ a : AV, a.v = v.nv /\ v.d = .ag a.c /\ a.ok := (nv_ok h).1.av (nv_ok h).2
structure PB (x y : NV) (H : Heap) (k : Nat) (vs : List AV) (H' : Heap) : Prop where
 n : vs.length = k
 v : vs.map AV.v = [x, y].take k
 o : ∀ a ∈ vs, a.ok
 h : ∃ t, H' = H ++ [argBk vs false] ++ t
theorem get_mid {H t : Heap} {b : Blk} : (H ++ [b] ++ t)[H.length]? = some b := by simp
theorem set_mid {H t : Heap} {b c : Blk} : (H ++ [b] ++ t).set H.length c = H ++ [c] ++ t := by simp
theorem term_s {e : Ex} {r : NR} (h : TS e r) : ∀ {bs w : D} {date : Int} {H : Heap}, CallQ VS 26 [bs, e.d, .i .i64 date, w] H (AnsG r H) := by
 induction h with
 | @con e h1 h2 h3 =>
  intro bs w date H
  have hfo : e.formed = true := by
   unfold Ex.formed
   rw [if_pos h1, h2, h1, h3]; rfl
  have e1 := fun {H K} => (formed_q e (by omega)).c (H := H) (K := K) fn37 rfl (by simp [e.pl]) (.inl rfl)
  rw [hfo] at e1
  obtain ⟨a, a1, a2, a3⟩ := Vl.av h2
  have d1 : (e.op : Int) = 1 := by omega
  refine .body (vf := v26) fn26 rfl rfl ?_
  simp only [Ex.d, Ex.row_eq, Vl.d, Vl.cells] at e1 a2 ⊢
  simp only [d1] at e1
  simp (disch := omega) only [go_sem, Nat.reduceAdd, Nat.reduceSub, Nat.reduceLeDiff, v26, e1, d1]
  refine ⟨⟨[], (List.append_nil _).symm⟩, a, ?_, a2, a3⟩
  rw [a1]
 | @bin e a b x y h1 h2 ha hb hm iha ihb =>
  intro bs w date H
  have hfo : e.formed = true := by
   unfold Ex.formed
   rw [if_neg (by omega), h2]
   have : argN e.op = (2, 2) := by
    have : e.op = 7 \/ e.op = 8 \/ e.op = 9 \/ e.op = 10 \/ e.op = 11 \/ e.op = 12 \/ e.op = 13 \/ e.op = 14 := by omega
    rcases this with h | h | h | h | h | h | h | h <;> (rw [h]; rfl)
   rw [this]; rfl
  have e1 := fun {H K} => (formed_q e (by omega)).c (H := H) (K := K) fn37 rfl (by simp [e.pl]) (.inl rfl)
  rw [hfo] at e1
  have n1 : ¬ (e.op : Int) = 1 := by omega
  have n2 : ¬ (e.op : Int) = 2 := by omega
  have n5 : ¬ (e.op : Int) = 5 := by omega
  have n15 : ¬ (e.op : Int) = 15 := by omega
  have n16 : ¬ (e.op : Int) = 16 := by omega
  have n18 : ¬ (e.op : Int) = 18 := by omega
  have hsl : Sl 9 ([a, b].map Ex.row) e.sl := h2 ▸ e.hsl
  refine .body (vf := v26) fn26 rfl rfl ?_
  simp only [Ex.d, Ex.row_eq] at e1 ⊢
  simp (disch := omega) only [go_sem, Nat.reduceAdd, Nat.reduceSub, Nat.reduceMul, Nat.reduceLeDiff, Int.reduceLE, Int.reduceToNat, v26, e1, n1, n2, n15, n16, n18, hsl.n]
  refine term_args (l := [a, b]) (by simp) hsl (PB x y H) ⟨rfl, rfl, fun _ h => (by cases h), ⟨[], by simp [argBk, argR, zrow]⟩⟩ (fun k vs H' h => h.n) (fun k vs H' hk hp => ?_) (fun vs H' c12 c20 hp => ?_)
  ·obtain ⟨t, rfl⟩ := hp.h
   have go : ∀ (z : Ex) (q : NV), (∀ {bs w : D} {date : Int} {H : Heap}, CallQ VS 26 [bs, z.d, .i .i64 date, w] H (AnsG (.ok q) H)) -> [x, y].take k ++ [q] = [x, y].take (k + 1) -> CallQ VS 26 [bs, z.d, .i .i64 date, w] (H ++ [argBk vs false] ++ t) (fun r => match r with
    | .ret d H' => ∃ a : AV, d = .ag a.c /\ a.ok /\ H'[H.length]? = some (argBk vs false) /\ PB x y H (k + 1) (vs ++ [a]) (H'.set H.length (argBk (vs ++ [a]) false))
    | .pan d H' => ∀ s, LoopQ VS v26l0 (fun _ _ => True) (.pn d) ⟨s, H'⟩ /\ False
    | .bad => False) := fun z q hz hq => by
     refine hz.mono fun r hr => ?_
     cases r with
     | ret d H' =>
      obtain ⟨⟨t', rfl⟩, a, ea, rfl, ho⟩ := hr
      cases ea
      rw [List.append_assoc _ t t']
      refine ⟨a, rfl, ho, get_mid, ⟨by simp [hp.n], ?_, fun a' h' => ?_, ⟨t ++ t', set_mid⟩⟩⟩
      ·rw [List.map_append, hp.v]; exact hq
      ·rcases List.mem_append.1 h' with h' | h'
       ·exact hp.o a' h'
       ·rw [List.mem_singleton.1 h']; exact ho
     | pan d H' => obtain ⟨_, _, e, _⟩ := hr; cases e
     | bad => exact hr.elim
   have : k = 0 \/ k = 1 := by simp at hk; omega
   rcases this with rfl | rfl
   ·refine (go a x iha rfl).mono fun r hr => ?_
    cases r with
    | ret d H' => exact hr
    | pan d H' => exact ((hr []).2).elim
    | bad => exact hr
   ·refine (go b y ihb rfl).mono fun r hr => ?_
    cases r with
    | ret d H' => exact hr
    | pan d H' => exact ((hr []).2).elim
    | bad => exact hr
  ·obtain ⟨t, rfl⟩ := hp.h
   obtain ⟨ax, ay, rfl⟩ : ∃ ax ay, vs = [ax, ay] := by
    match vs, hp.n with
    | [ax, ay], _ => exact ⟨_, _, rfl⟩
   have hv := hp.v
   simp only [List.map_cons, List.map_nil] at hv
   obtain ⟨rfl, rfl⟩ := hv
   have oa := hp.o ax (by simp)
   have ob := hp.o ay (by simp)
   unfold tSl
   have hd := fun nm md => do_q h1 oa ob hm (H := H ++ [argBk [ax, ay] false] ++ t) (i := H.length) get_mid (bs := bs) (w := w) (nm := nm) (md := md)
   rw [show argB ax ay true = argBk [ax, ay] true from rfl, set_mid] at hd
   simp (disch := omega) only [go_sem, Nat.reduceAdd, Nat.reduceLeDiff, n5]
   have hd := hd e.name e.v.i
   rw [List.append_assoc, List.singleton_append] at hd
   refine hd.mono fun r hr => ?_
   cases r with
   | ret d H' =>
    obtain ⟨rfl, a', ea, rfl, ho⟩ := hr
    simp only [AV.c]
    simp (disch := omega) only [go_sem, Nat.reduceAdd]
    exact ⟨⟨_, rfl⟩, a', ea, rfl, ho⟩
   | pan d H' =>
    obtain ⟨rfl, c, ec, rfl⟩ := hr
    simp (disch := omega) only [go_sem]
    exact ⟨⟨_, rfl⟩, c, ec, rfl⟩
   | bad => exact hr.elim
open Go.Dm
theorem error_q (e : Int) : PRet VS 36 [failD e] (.i .i64 e) := by
 refine .body (vf := v36) fn36 rfl ?_
 simp (disch := omega) only [go_sem, Nat.reduceSub, v36, failD]
theorem error_c {e : Int} {H : Heap} {K : CR -> Prop} : CallQ VS 36 [failD e] H K ↔ K (.ret (.i .i64 e) H) := by
 rw [CallQ_p (vf := v36) (H1 := H) fn36 rfl (error_q e) rfl]; exact Iff.rfl
def zeroV : D := .ag zrow
theorem run_q {g : FuncId} {cap : List D} {H : Heap} {K : CR -> Prop} (hg : g < 4294967295) (h : CallQ VS g cap (H ++ [.hb 29 zrow, .hb 48 [.i .i64 0]]) (fun r => match r with
  | .ret d H' => ∃ a : AV, d = .ag a.c /\ a.ok /\ H'[H.length]? = some (.hb 29 zrow) /\ H'[H.length + 1]? = some (.hb 48 [.i .i64 0]) /\ K (.ret (.tu [.ag a.c, .i .i64 0]) ((H'.set H.length (.hb 29 a.c)).set (H.length + 1) (.hb 48 [.i .i64 0])))
  | .pan d H' => ∃ e, d = failD e /\ H'[H.length]? = some (.hb 29 zrow) /\ H'[H.length + 1]? = some (.hb 48 [.i .i64 0]) /\ K (.ret (.tu [zeroV, .i .i64 e]) ((H'.set H.length (.hb 29 zrow)).set (H.length + 1) (.hb 48 [.i .i64 e])))
  | .bad => False)) : CallQ VS 23 [.fn (.func g) [] cap] H K := by
 refine .dfr (vf := v23) (q := v23d) fn23 rfl rfl rfl ?_
 simp (disch := omega) only [go_sem, Nat.reduceSub, v23, v23d]
 refine ⟨rfl, h.mono fun r hr => ?_⟩
 cases r with
 | bad => exact hr.elim
 | ret d H' =>
  obtain ⟨a, rfl, ha, h1, h2, hk⟩ := hr
  have hl1 : H.length < H'.length := lt_of_get h1
  have hl2 : H.length + 1 < H'.length := lt_of_get h2
  simp only [zrow, AV.c] at *
  have q1 : ((H'.set H.length (.hb 29 [D.i IntKind.u8 a.v.k, a.s, a.x, a.t, a.y, D.i IntKind.i64 a.v.i])).set (H.length + 1) (.hb 48 [.i .i64 0]))[H.length]? = some (.hb 29 [D.i IntKind.u8 a.v.k, a.s, a.x, a.t, a.y, D.i IntKind.i64 a.v.i]) := by
   rw [List.getElem?_set_ne (by omega), List.getElem?_set_self (by omega)]
  have q2 : ((H'.set H.length (.hb 29 [D.i IntKind.u8 a.v.k, a.s, a.x, a.t, a.y, D.i IntKind.i64 a.v.i])).set (H.length + 1) (.hb 48 [.i .i64 0]))[H.length + 1]? = some (.hb 48 [.i .i64 0]) := by
   rw [List.getElem?_set_self (by simpa using hl2)]
  simp (disch := omega) only [go_sem, Nat.reduceAdd, Nat.reduceSub, reduceCtorEq, h1, h2, LeaveQ, List.getElem?_set_ne, List.length_set]
  refine ⟨.inl trivial, by omega, [.ag [D.i IntKind.u8 a.v.k, a.s, a.x, a.t, a.y, D.i IntKind.i64 a.v.i], .i .i64 0], ?_, hk⟩
  simp [RSpec.ev, ldAt, q1, q2, resK, resAll]
  rfl
 | pan d H' =>
  obtain ⟨e, rfl, h1, h2, hk⟩ := hr
  have hl1 : H.length < H'.length := lt_of_get h1
  have hl2 : H.length + 1 < H'.length := lt_of_get h2
  have e1 := fun {H K} => error_c (e := e) (H := H) (K := K)
  simp only [zrow] at *
  have q1 : ((H'.set H.length (.hb 29 [D.i IntKind.u8 0, D.b false, D.nil, D.b false, D.nil, D.i IntKind.i64 0])).set (H.length + 1) (.hb 48 [.i .i64 e]))[H.length]? = some (.hb 29 [D.i IntKind.u8 0, D.b false, D.nil, D.b false, D.nil, D.i IntKind.i64 0]) := by
   rw [List.getElem?_set_ne (by omega), List.getElem?_set_self (by omega)]
  have q2 : ((H'.set H.length (.hb 29 [D.i IntKind.u8 0, D.b false, D.nil, D.b false, D.nil, D.i IntKind.i64 0])).set (H.length + 1) (.hb 48 [.i .i64 e]))[H.length + 1]? = some (.hb 48 [.i .i64 e]) := by
   rw [List.getElem?_set_self (by simpa using hl2)]
  have en : eqvD true EK.ifc (failD e) D.ni = some (.b true) := rfl
  have h3 : (H'.set H.length (.hb 29 [D.i IntKind.u8 0, D.b false, D.nil, D.b false, D.nil, D.i IntKind.i64 0]))[H.length + 1]? = some (.hb 48 [.i .i64 0]) := by
   rw [List.getElem?_set_ne (by omega)]; exact h2
  simp (disch := omega) only [go_sem, Nat.reduceAdd, Nat.reduceSub, reduceCtorEq, h1, h3, LeaveQ, e1, en]
  refine ⟨.inl trivial, by omega, [.ag [D.i IntKind.u8 0, D.b false, D.nil, D.b false, D.nil, D.i IntKind.i64 0], .i .i64 e], ?_, hk⟩
  simp [RSpec.ev, ldAt, q1, q2, resK, resAll]
  rfl
theorem app16 {l : List Nat} {y : D} (hy : Sl 1 (l.map u16) y) (hl : l.length < 70368744177665) {H : Heap} : appD H .nil y 1 2 true = some (bD H .nil (l.map u16), bH H 1 (l.map u16)) :=
 app_all rfl hy (fun a => rfl) (by omega) (by omega)
theorem copy_q {a : AV} (ha : a.ok) : ∃ d, PRet VS 25 [.ag a.c] d /\ VD a.v d := by
 obtain ⟨x, y, e, hx, hy⟩ := ha.d.h
 have hb : (ds 65536 a.v.n.natAbs).length < 70368744177665 /\ (ds 65536 a.v.m).length < 70368744177665 := by
  by_cases hk : a.v.k = 2 \/ a.v.k = 3
  ·have := (ha.o.f hk).1
   exact ⟨cap_c16 this.bn (by omega), cap_c16 this.bm (by omega)⟩
  ·obtain ⟨e1, e2⟩ := ha.o.o hk
   rw [e1, e2, show (0 : Int).natAbs = 0 from rfl, ds_zero]
   exact ⟨by simp, by simp⟩
 have a1 := fun {H} => app16 hx.sl hb.1 (H := H)
 have a2 := fun {H} => app16 hy.sl hb.2 (H := H)
 obtain ⟨l, hl⟩ : ∃ l, l = ds 65536 a.v.n.natAbs := ⟨_, rfl⟩
 obtain ⟨m, hm⟩ : ∃ m, m = ds 65536 a.v.m := ⟨_, rfl⟩
 rw [<- hl] at a1 hb
 rw [<- hm] at a2 hb
 rw [e]
 refine ⟨.ag [.i .u8 a.v.k, .b (decide (a.v.n < 0)), imD .nil 1 (l.map u16), .b false, imD .nil 1 (m.map u16), .i .i64 a.v.i], .body (vf := v25) fn25 rfl ?_, ⟨_, _, rfl, ⟨by rw [<- hl]; exact imD_sl rfl 1 _⟩, ⟨by rw [<- hm]; exact imD_sl rfl 1 _⟩⟩⟩
 simp (disch := omega) only [go_sem, Nat.reduceAdd, Nat.reduceSub, Nat.reduceLeDiff, v25, a1, a2]
 cases l with
 | nil => cases m with
  | nil => rfl
  | cons q m => simp [bD, bH, imD, arr, fzM, frzO, fzG, fzB, fzA, List.take_of_length_le, go_sem, Nat.reduceAdd, reduceIte]
 | cons p l => cases m with
  | nil => simp [bD, bH, imD, arr, fzM, frzO, fzG, fzB, fzA, List.take_of_length_le, go_sem, Nat.reduceAdd, reduceIte]
  | cons q m => simp [bD, bH, imD, arr, fzM, frzO, fzG, fzB, fzA, List.take_of_length_le, go_sem, Nat.reduceAdd, reduceIte]
open Go.Dm
def noP : D := .ag [.s [], .nil, .nil, .nil]
theorem bounded0 : PRet VS 32 [noP] (.b true) := ⟨40, pcall_k (by kernel_rfl)⟩
theorem valid0 : PRet VS 33 [.nil] (.b true) := ⟨40, pcall_k (by kernel_rfl)⟩
theorem new0 {H : Heap} {K : CR -> Prop} (h : ∀ t b, K (.ret (.hp b 0) (H ++ t))) : CallQ VS 34 [noP, .nil, .i .i64 0] H K := by
 refine .body (vf := v34) fn34 rfl rfl ?_
 simp (disch := omega) only [go_sem, Nat.reduceAdd, Nat.reduceSub, Nat.reduceLeDiff, v34, noP]
 rw [Run_loop]
 simp (disch := omega) only [go_sem, Int.reduceLT, v34l0]
 rw [Run_loop]
 simp (disch := omega) only [go_sem, Nat.reduceAdd, Nat.reduceLeDiff, Int.reduceLT, v34l1]
 rw [Run_loop]
 simp (disch := omega) only [go_sem, Int.reduceLT, v34l2]
 exact h _ _
theorem begin0 {H : Heap} {K : CR -> Prop} (h : ∀ t b r, K (.ret (.tu [.hp (H.length + t.length) 0, .i .i64 0]) (H ++ (t ++ [.hb 85 (.hp b 0 :: r)])))) : CallQ VS 22 [noP, .nil, .i .i64 0, .i .i64 0] H K := by
 have e1 := fun {H K} => bounded0.c (H := H) (K := K) fn32 rfl rfl (.inl rfl)
 have e2 := fun {H K} => valid0.c (H := H) (K := K) fn33 rfl rfl (.inl rfl)
 simp only [noP] at e1
 refine .body (vf := v22) fn22 rfl rfl ?_
 simp (disch := omega) only [go_sem, Nat.reduceAdd, Nat.reduceSub, Int.reduceLE, Int.reduceLT, v22, noP, e1, e2]
 refine new0 (fun t b => ?_)
 simp (disch := omega) only [go_sem, Nat.reduceAdd, Nat.reduceLeDiff]
 have := h (t ++ [.mp [], .mp [], .mp [], .mp []]) b [.mp (H.length + t.length), .mp (H.length + t.length + 1), .mp (H.length + t.length + 2), .mp (H.length + t.length + 3), .nil, .nil, .nil]
 simpa [Nat.add_assoc] using this
@[go_sem] theorem get_t0 {t r : Heap} {x : Blk} : (t ++ x :: r)[t.length]? = some x := by simp
@[go_sem] theorem get_t1 {t r : Heap} {x y : Blk} : (t ++ x :: y :: r)[t.length + 1]? = some y := by
 have : (t ++ x :: y :: r) = (t ++ [x]) ++ y :: r := by simp
 rw [this, List.getElem?_append_right (by simp)]; simp
@[go_sem] theorem set_t1 {t r : Heap} {x y z : Blk} : (t ++ x :: y :: r).set (t.length + 1) z = t ++ x :: z :: r := by
 have : (t ++ x :: y :: r) = (t ++ [x]) ++ y :: r := by simp
 rw [this, List.set_append_right _ _ (by simp)]; simp
theorem get_t2 {t r : Heap} {x y u v : Blk} : (t ++ x :: y :: u :: v :: r)[t.length + 2]? = some u := by
 have : (t ++ x :: y :: u :: v :: r) = (t ++ [x, y]) ++ u :: v :: r := by simp
 rw [this, List.getElem?_append_right (by simp)]; simp
theorem get_t3 {t r : Heap} {x y u v : Blk} : (t ++ x :: y :: u :: v :: r)[t.length + 3]? = some v := by
 have : (t ++ x :: y :: u :: v :: r) = (t ++ [x, y, u]) ++ v :: r := by simp
 rw [this, List.getElem?_append_right (by simp)]; simp
structure T15 (r : NR) (p : PR) : Prop where
 h : (∃ v d, r = .ok v /\ p = .ret (.tu [d, .i .i64 0]) /\ VD v d /\ v.ok) \/ (∃ c, r = .er c /\ p = .ret (.tu [zeroV, .i .i64 c]))
theorem term15 {e : Ex} {r : NR} (h : TS e r) (hs : sized e = true) : PurQ VS 15 [noP, .nil, e.d, .i .i64 0, .i .i64 0] (T15 r) := by
 have e1 := fun {H K} => (sized_q e).c (H := H) (K := K) fn21 rfl (by simp [e.pl]) (.inl rfl)
 have ht := fun {bs w : D} {H : Heap} => term_s h (bs := bs) (w := w) (date := 0) (H := H)
 rw [hs] at e1
 refine .body (vf := v15) fn15 rfl ?_
 simp only [Ex.d, Ex.row_eq] at e1 ht ⊢
 simp (disch := omega) only [go_sem, Nat.reduceAdd, Nat.reduceSub, v15, noP, e1]
 refine begin0 (fun t b q => ?_)
 simp (disch := omega) only [go_sem, Nat.reduceAdd]
 rw [show 2 + t.length = t.length + 1 + 1 by omega]
 refine run_q (by decide) ?_
 refine .body (vf := v24) fn24 rfl rfl ?_
 simp (disch := omega) only [go_sem, Nat.reduceAdd, Nat.reduceSub, Nat.reduceLeDiff, v24, zrow]
 refine ht.mono fun r' hr => ?_
 cases r' with
 | ret d H' =>
  obtain ⟨⟨t', rfl⟩, a, rfl, rfl, ha⟩ := hr
  obtain ⟨d, c1, c2⟩ := copy_q ha
  have ec := fun {H K} => c1.c (H := H) (K := K) fn25 rfl (by simp [ha.pl]) (.inl rfl)
  obtain ⟨a', q1, rfl, q2⟩ := c2.av ha.o
  obtain ⟨f1, f2, f3, f4⟩ := q2.fl
  simp only [AV.c] at ec ⊢
  simp (disch := omega) only [go_sem, Nat.reduceAdd, ec]
  refine ⟨a', ⟨rfl, rfl, rfl, rfl, rfl, rfl⟩, q2, get_t2, get_t3, ?_⟩
  simp (disch := omega) only [go_sem, Nat.reduceAdd, flat_freeze f1, flat_freeze f2, flat_freeze f3, flat_freeze f4]
  exact ⟨.inl ⟨a.v, _, rfl, rfl, c2, ha.o⟩⟩
 | pan d H' =>
  obtain ⟨⟨t', rfl⟩, c, rfl, rfl⟩ := hr
  simp (disch := omega) only [go_sem]
  refine ⟨c, rfl, get_t2, get_t3, ?_⟩
  simp (disch := omega) only [go_sem, Nat.reduceAdd, zeroV, zrow]
  exact ⟨.inr ⟨c, rfl, rfl⟩⟩
 | bad => exact hr.elim
end Go.Proofs.YtdpnanafhabkiaaGreatDoor.Dv
