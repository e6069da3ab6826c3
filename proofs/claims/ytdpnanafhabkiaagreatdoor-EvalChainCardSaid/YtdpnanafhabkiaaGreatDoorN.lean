/-
  Terms of simple expressions.
-/
import Derived.Test.YtdpnanafhabkiaaGreatDoorM
namespace Go.Proofs.YtdpnanafhabkiaaGreatDoor.Dv
open Go.Dm
def AnsG (nr : NR) (H : Heap) : CR -> Prop
 | .ret d H' => (∃ t, H' = H ++ t) /\ ∃ a : AV, nr = .ok a.v /\ d = .ag a.c /\ a.ok
 | .pan d H' => (∃ t, H' = H ++ t) /\ ∃ e, nr = .er e /\ d = failD e
 | .bad => False
theorem Vl.av {v : Vl} (h : v.valid = true) : ∃ a : AV, a.v = v.nv /\ v.d = .ag a.c /\ a.ok := (nv_ok h).1.av (nv_ok h).2
theorem get_mid {H t : Heap} {b : Blk} : (H ++ [b] ++ t)[H.length]? = some b := by simp
theorem set_mid {H t : Heap} {b c : Blk} : (H ++ [b] ++ t).set H.length c = H ++ [c] ++ t := by simp
theorem term_s {e : Ex} (h1 : e.op = 1) (h2 : e.v.valid = true) (h3 : e.args = []) {bs w : D} {date : Int} {H : Heap} : CallQ VS 26 [bs, e.d, .i .i64 date, w] H (AnsG (.ok e.v.nv) H) := by
 have hfo : e.formed = true := by
  unfold Ex.formed
  rw [if_pos h1, h2, h1, h3]; rfl
 have e1 := fun {H K} => (formed_q e (by omega)).c (H := H) (K := K) fn37 rfl (by simp [e.pl]) (.inl rfl)
 rw [hfo] at e1
 obtain ⟨a, a1, a2, a3⟩ := Vl.av h2
 have d1 : (e.op : Int) = 1 := by omega
 refine .body (vf := v26) fn26 rfl rfl ?_
 simp only [Ex.d, Ex.row_eq, Vl.d, Vl.cells] at e1 a2 ⊢
 simp only [d1] at e1
 simp (disch := omega) only [go_sem, Nat.reduceAdd, Nat.reduceSub, Nat.reduceLeDiff, v26, e1, d1]
 refine ⟨⟨[], (List.append_nil _).symm⟩, a, ?_, a2, a3⟩
 rw [a1]
open Go.Dm
theorem error_q (e : Int) : PRet VS 36 [failD e] (.i .i64 e) := by
 refine .body (vf := v36) fn36 rfl ?_
 simp (disch := omega) only [go_sem, Nat.reduceSub, v36, failD]
theorem error_c {e : Int} {H : Heap} {K : CR -> Prop} : CallQ VS 36 [failD e] H K ↔ K (.ret (.i .i64 e) H) := by
 rw [CallQ_p (vf := v36) (H1 := H) fn36 rfl (error_q e) rfl]; exact Iff.rfl
def zeroV : D := .ag zrow
theorem run_q {g : FuncId} {cap : List D} {H : Heap} {K : CR -> Prop} (hg : g < 4294967295) (h : CallQ VS g cap (H ++ [.hb 29 zrow, .hb 48 [.i .i64 0]]) (fun r => match r with
  | .ret d H' => ∃ a : AV, d = .ag a.c /\ a.ok /\ H'[H.length]? = some (.hb 29 zrow) /\ H'[H.length + 1]? = some (.hb 48 [.i .i64 0]) /\ K (.ret (.tu [.ag a.c, .i .i64 0]) ((H'.set H.length (.hb 29 a.c)).set (H.length + 1) (.hb 48 [.i .i64 0])))
  | .pan d H' => ∃ e, d = failD e /\ H'[H.length]? = some (.hb 29 zrow) /\ H'[H.length + 1]? = some (.hb 48 [.i .i64 0]) /\ K (.ret (.tu [zeroV, .i .i64 e]) ((H'.set H.length (.hb 29 zrow)).set (H.length + 1) (.hb 48 [.i .i64 e])))
  | .bad => False)) : CallQ VS 23 [.fn (.func g) [] cap] H K := by
 refine .dfr (vf := v23) (q := v23d) fn23 rfl rfl rfl ?_
 simp (disch := omega) only [go_sem, Nat.reduceSub, v23, v23d]
 refine ⟨rfl, h.mono fun r hr => ?_⟩
 cases r with
 | bad => exact hr.elim
 | ret d H' =>
  obtain ⟨a, rfl, ha, h1, h2, hk⟩ := hr
  have hl1 : H.length < H'.length := lt_of_get h1
  have hl2 : H.length + 1 < H'.length := lt_of_get h2
  simp only [zrow, AV.c] at *
  have q1 : ((H'.set H.length (.hb 29 [D.i IntKind.u8 a.v.k, a.s, a.x, a.t, a.y, D.i IntKind.i64 a.v.i])).set (H.length + 1) (.hb 48 [.i .i64 0]))[H.length]? = some (.hb 29 [D.i IntKind.u8 a.v.k, a.s, a.x, a.t, a.y, D.i IntKind.i64 a.v.i]) := by
   rw [List.getElem?_set_ne (by omega), List.getElem?_set_self (by omega)]
  have q2 : ((H'.set H.length (.hb 29 [D.i IntKind.u8 a.v.k, a.s, a.x, a.t, a.y, D.i IntKind.i64 a.v.i])).set (H.length + 1) (.hb 48 [.i .i64 0]))[H.length + 1]? = some (.hb 48 [.i .i64 0]) := by
   rw [List.getElem?_set_self (by simpa using hl2)]
  simp (disch := omega) only [go_sem, Nat.reduceAdd, Nat.reduceSub, reduceCtorEq, h1, h2, LeaveQ, List.getElem?_set_ne, List.length_set]
  refine ⟨.inl trivial, by omega, [.ag [D.i IntKind.u8 a.v.k, a.s, a.x, a.t, a.y, D.i IntKind.i64 a.v.i], .i .i64 0], ?_, hk⟩
  simp [RSpec.ev, ldAt, q1, q2, resK, resAll]
  rfl
 | pan d H' =>
  obtain ⟨e, rfl, h1, h2, hk⟩ := hr
  have hl1 : H.length < H'.length := lt_of_get h1
  have hl2 : H.length + 1 < H'.length := lt_of_get h2
  have e1 := fun {H K} => error_c (e := e) (H := H) (K := K)
  simp only [zrow] at *
  have q1 : ((H'.set H.length (.hb 29 [D.i IntKind.u8 0, D.b false, D.nil, D.b false, D.nil, D.i IntKind.i64 0])).set (H.length + 1) (.hb 48 [.i .i64 e]))[H.length]? = some (.hb 29 [D.i IntKind.u8 0, D.b false, D.nil, D.b false, D.nil, D.i IntKind.i64 0]) := by
   rw [List.getElem?_set_ne (by omega), List.getElem?_set_self (by omega)]
  have q2 : ((H'.set H.length (.hb 29 [D.i IntKind.u8 0, D.b false, D.nil, D.b false, D.nil, D.i IntKind.i64 0])).set (H.length + 1) (.hb 48 [.i .i64 e]))[H.length + 1]? = some (.hb 48 [.i .i64 e]) := by
   rw [List.getElem?_set_self (by simpa using hl2)]
  have en : eqvD true EK.ifc (failD e) D.ni = some (.b true) := rfl
  have h3 : (H'.set H.length (.hb 29 [D.i IntKind.u8 0, D.b false, D.nil, D.b false, D.nil, D.i IntKind.i64 0]))[H.length + 1]? = some (.hb 48 [.i .i64 0]) := by
   rw [List.getElem?_set_ne (by omega)]; exact h2
  simp (disch := omega) only [go_sem, Nat.reduceAdd, Nat.reduceSub, reduceCtorEq, h1, h3, LeaveQ, e1, en]
  refine ⟨.inl trivial, by omega, [.ag [D.i IntKind.u8 0, D.b false, D.nil, D.b false, D.nil, D.i IntKind.i64 0], .i .i64 e], ?_, hk⟩
  simp [RSpec.ev, ldAt, q1, q2, resK, resAll]
  rfl
theorem app16 {l : List Nat} {y : D} (hy : Sl 1 (l.map u16) y) (hl : l.length < 70368744177665) {H : Heap} : appD H .nil y 1 2 true = some (bD H .nil (l.map u16), bH H 1 (l.map u16)) :=
 app_all rfl hy (fun a => rfl) (by omega) (by omega)
theorem copy_q {a : AV} (ha : a.ok) : ∃ d, PRet VS 25 [.ag a.c] d /\ VD a.v d := by
 obtain ⟨x, y, e, hx, hy⟩ := ha.d.h
 have hb : (ds 65536 a.v.n.natAbs).length < 70368744177665 /\ (ds 65536 a.v.m).length < 70368744177665 := by
  by_cases hk : a.v.k = 2 \/ a.v.k = 3
  ·have := (ha.o.f hk).1
   exact ⟨cap_c16 this.bn (by omega), cap_c16 this.bm (by omega)⟩
  ·obtain ⟨e1, e2⟩ := ha.o.o hk
   rw [e1, e2, show (0 : Int).natAbs = 0 from rfl, ds_zero]
   exact ⟨by simp, by simp⟩
 have a1 := fun {H} => app16 hx.sl hb.1 (H := H)
 have a2 := fun {H} => app16 hy.sl hb.2 (H := H)
 obtain ⟨l, hl⟩ : ∃ l, l = ds 65536 a.v.n.natAbs := ⟨_, rfl⟩
 obtain ⟨m, hm⟩ : ∃ m, m = ds 65536 a.v.m := ⟨_, rfl⟩
 rw [<- hl] at a1 hb
 rw [<- hm] at a2 hb
 rw [e]
 refine ⟨.ag [.i .u8 a.v.k, .b (decide (a.v.n < 0)), imD .nil 1 (l.map u16), .b false, imD .nil 1 (m.map u16), .i .i64 a.v.i], .body (vf := v25) fn25 rfl ?_, ⟨_, _, rfl, ⟨by rw [<- hl]; exact imD_sl rfl 1 _⟩, ⟨by rw [<- hm]; exact imD_sl rfl 1 _⟩⟩⟩
 simp (disch := omega) only [go_sem, Nat.reduceAdd, Nat.reduceSub, Nat.reduceLeDiff, v25, a1, a2]
 cases l with
 | nil => cases m with
  | nil => rfl
  | cons q m => simp [bD, bH, imD, arr, fzM, frzO, fzG, fzB, fzA, List.take_of_length_le, go_sem, Nat.reduceAdd, reduceIte]
 | cons p l => cases m with
  | nil => simp [bD, bH, imD, arr, fzM, frzO, fzG, fzB, fzA, List.take_of_length_le, go_sem, Nat.reduceAdd, reduceIte]
  | cons q m => simp [bD, bH, imD, arr, fzM, frzO, fzG, fzB, fzA, List.take_of_length_le, go_sem, Nat.reduceAdd, reduceIte]
open Go.Dm
theorem valid0 : PRet VS 33 [.nil] (.b true) := ⟨40, pcall_k (by kernel_rfl)⟩
end Go.Proofs.YtdpnanafhabkiaaGreatDoor.Dv
